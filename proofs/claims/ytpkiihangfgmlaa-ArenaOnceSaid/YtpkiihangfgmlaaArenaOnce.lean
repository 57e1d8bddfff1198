/-
  ArenaOnce: no two claims of an arena tell one reference; what is got by one is what was put by it; a block that is withdrawn stays so. For every number of blocks, generation and row of places; no condition.
-/
import Derived.Test.YtpkiihangfgmlaaLift
import Derived.Test.YtpkiihangfgmlaaArenaOnceP
import Derived.Test.YtpkiihangfgmlaaOpenInts
namespace Go.Proofs.Ytpkiihangfgmlaa.arenaOnce
open Go.ChangeShapes Go.WideShapes Go.ChangeAt Go.RowKit RefP CellP ArP Go.Proofs.Ytpkiihangfgmlaa.Open
set_option linter.unusedVariables false
set_option linter.unusedSimpArgs false
/-! an arena that no call made -/
set_option maxHeartbeats 800000 in
theorem at_zero (o : Nat) (x : Int) (w : World) (h : Blk w o #[.slice none 0 0] 66) : Calls Try.prog 51 #[.pointer (some ⟨o, 0, none⟩), .int .u64 x] w fun e w' => e = .returned (.tuple #[.pointer none, .int .i64 1]) ∧ w = w' := by
  have hl := alen_at o 0 0 none w h
  go_enter Try.func51, Try.ntmps51
  go_wp2_with fail
  refine hl.mono ?_
  rintro e w1 ⟨rfl, rfl⟩
  go_wp2_with fail
  go_ret2
  exact ⟨rfl, rfl⟩
set_option maxHeartbeats 800000 in
theorem free_zero (o : Nat) (x : Int) (w : World) (h : Blk w o #[.slice none 0 0] 66) : Calls Try.prog 19 #[.pointer (some ⟨o, 0, none⟩), .int .u64 x] w fun e w' => e = .returned (.int .i64 1) ∧ w = w' := by
  go_enter Try.func19, Try.ntmps19
  go_wp2_with fail
  refine (at_zero _ _ _ h).mono ?_
  rintro e w1 ⟨rfl, rfl⟩
  go_wp2_with fail
  go_ret
  exact ⟨rfl, rfl⟩
structure OA (w : World) (o g : Nat) (L : List B3) (a : Option Addr) (c : Nat) (M : List Int) (wr : World) : Prop where
  b : Below w.heap.size w wr
  A : ArenaAt wr o g L
  tw : OwnsU wr w.heap.size a c M
  og : w.heap.size ≤ o ∧ w.heap.size ≤ g
  nt : ∀ q, (Value.slice a M.length c).ownBlock = some q → q ≠ o ∧ q ≠ g
theorem OA.below {w : World} {o g : Nat} {L : List B3} {a : Option Addr} {c : Nat} {M : List Int} {wr wx : World} (h : OA w o g L a c M wr) (hb : Below wr.heap.size wr wx) : OA w o g L a c M wx :=
  ⟨below_push2 h.b hb (Nat.le_refl _), h.A.below hb, h.tw.below hb, h.og, h.nt⟩
theorem OA.wrote {w : World} {o g : Nat} {L L' : List B3} {a : Option Addr} {c : Nat} {M : List Int} {wr wx : World} (h : OA w o g L a c M wr) (hg : wr.grownBy wx (some g)) (hA : ArenaAt wx o g L') : OA w o g L' a c M wx :=
  ⟨below_only h.b hg (Nat.le_refl _) h.og.2, hA, h.tw.kept hg (by
    cases ho : (Value.slice a M.length c).ownBlock with
    | none => exact .inl rfl
    | some q => exact .inr (fun e => (h.nt q ho).2 (by injection e))), h.og, h.nt⟩
theorem OA.told {w : World} {o g : Nat} {L : List B3} {a : Option Addr} {c : Nat} {M : List Int} {wr : World} (h : OA w o g L a c M wr) (x : Int) {b : Nat} {g' cap : Nat} {w' : World}
    (A : AddedU (wr.alloc (.cells #[.int .u64 x] 22)) w.heap.size a c M (.slice (some ⟨b, 0, none⟩) 1 1) 1 (M ++ [x]) g' cap w') : OA w o g L (some ⟨g', 0, none⟩) cap (M ++ [x]) w' := by
  have h1 := h.below ((Below.refl _ wr).alloc (Nat.le_refl _) (.cells #[.int .u64 x] 22))
  have hgl := h1.A.rows.lt
  have hol := h1.A.head.lt
  have hgl' := h.A.rows.lt
  have hol' := h.A.head.lt
  have hne : ∀ b', (∀ q, (Value.slice a M.length c).ownBlock = some q → q ≠ b') → some b' ≠ (Value.slice a M.length c).ownBlock := fun b' k e => k b' e.symm rfl
  have hsz := h1.b.size
  refine ⟨A.keeps (fun k e => (h1.tw.lt k e).1) w _ (Nat.le_refl _) h1.b hsz, ⟨h1.A.head.grown A.grown (hne _ fun q e => (h.nt q e).1), h1.A.rows.grown A.grown (hne _ fun q e => (h.nt q e).2), h1.A.ne, h1.A.rng, h1.A.len, h1.A.pos⟩, A.own, h.og, fun q e => ?_⟩
  simp only [Value.ownBlock, Option.some.injEq] at e
  subst e
  rcases A.at' with q | q
  · exact h.nt _ q
  · subst q
    simp
    omega
structure OR (w : World) (N o g : Nat) (L : List B3) (a : Option Addr) (c : Nat) (M : List Int) (wr : World) : Prop where
  oa : OA w o g L a c M wr
  l : L.length = N
  I : Inv L
  met : Met L M
set_option maxRecDepth 100000 in
set_option maxHeartbeats 3200000 in
theorem walk (n gen : Int) (a : Option Addr) (c : Nat) (ps : List Int) (w : World) (h : Ints .u8 w a ps) (n0 : 0 ≤ n) (n1 : n ≤ 255) (g0 : 0 ≤ gen) :
    Calls Try.prog 4 #[.int .u8 n, .int .u64 gen, .slice a ps.length c] w fun e w' => e = .returned (.bool true) ∧ Below w.heap.size w w' := by
  have hlen := h.len
  obtain ⟨N, hN⟩ : ∃ N : Nat, 1 + n % 8 = (N : Int) := ⟨(1 + n % 8).toNat, by omega⟩
  have N0 : 1 ≤ N ∧ N ≤ 8 := by omega
  by_cases hg : 4294967295 < gen
  · have q1 : decide (4294967295 < gen) = true := by simpa using hg
    go_enter Try.func4, Try.ntmps4
    go_wp2_with fail
    refine (new_no _ gen _ (by omega)).mono ?_
    rintro e w1 ⟨rfl, rfl⟩
    go_wp2_with fail
    refine (lives_any _).mono ?_
    rintro e w1 ⟨rfl, hb1⟩
    go_wp2_with fail
    go_ret
    exact ⟨rfl, hb1⟩
  · have g1 : gen ≤ 4294967295 := by omega
    clear hg
    by_cases hbig : 80 < ps.length
    · have q1 : decide (80 < (ps.length : Int)) = true := by simp; omega
      go_enter Try.func4, Try.ntmps4
      go_wp2_with fail
      refine (new_yes N gen _ (by omega) (by omega) g0 g1).mono ?_
      rintro e w1 ⟨o, g, rfl, hC, hb1, hO, hG⟩
      go_wp2_with fail
      refine (lives_any _).mono ?_
      rintro e w2 ⟨rfl, hb2⟩
      go_wp2_with fail
      go_ret
      exact ⟨rfl, below_push2 hb1 hb2 (Nat.le_refl _)⟩
    · have q1 : decide (80 < (ps.length : Int)) = false := by simp; omega
      go_enter Try.func4, Try.ntmps4
      go_wp2_with fail
      refine (new_yes N gen _ (by omega) (by omega) g0 g1).mono ?_
      rintro e w1 ⟨o, g, rfl, hC, hb1, hO, hG⟩
      have R0 : OR w N o g (List.replicate N (rest3 gen)) none 0 [] w1 := ⟨⟨hb1, hC, OwnsU.nil _ _, ⟨hO, hG⟩, fun q e => by simp [Value.ownBlock] at e⟩, by simp, Inv.start g0 g1, Met.nil _⟩
      clear hC hb1 hO hG q1
      go_wp2_with fail
      go_loopw [9, 48] (fun u9 i wr => ∃ k : Nat, k ≤ ps.length ∧ i = .int .i64 k ∧ ∃ L at_ ct M, u9 = .slice at_ M.length ct ∧ M.length ≤ k ∧ OR w N o g L at_ ct M wr) (fun _ i _ => ps.length - (intOf i).toNat)
      case atStart => exact ⟨0, Nat.zero_le _, rfl, _, none, 0, [], rfl, Nat.le_refl _, R0⟩
      case round =>
        clear R0
        obtain ⟨k, hk, rfl, L, at_, ct, M, rfl, hMk, R⟩ := hrel
        by_cases hlt : k < ps.length
        · obtain ⟨b, off, rfl, hbl, hc⟩ := (h.below R.oa.b).cell k hlt
          have hwf := Lift.u8_range (h.wf _ (at0_mem ps k hlt))
          obtain ⟨j, hj⟩ : ∃ j : Nat, at0 ps k % (N : Int) = (j : Int) := ⟨(at0 ps k % (N : Int)).toNat, by have := Int.emod_nonneg (at0 ps k) (show (N : Int) ≠ 0 by omega); omega⟩
          have hjN : j < N := by have := Int.emod_lt_of_pos (at0 ps k) (show (0 : Int) < (N : Int) by omega); omega
          have hjl : j < L.length := by have := R.l; omega
          have hl8 : L.length ≤ 8 := by have := R.l; omega
          have hrg := R.oa.A.rng.at j
          rcases R.I j hjl with ⟨s0, s1, s2⟩ | ⟨s0, s1⟩
          · have S := steps hl8 j hjl s0 s1 s2 (k : Int)
            generalize hW : packI (j : Int) ((at3 L j).2.1 + 1) = W at S
            have hfresh := R.met.fresh R.I hl8 j hjl s2 s1
            rw [hW] at hfresh
            have t2 : ((at3 L j).1 == 2) = false := not_eq (by omega)
            have hgen1 : (at3 L j).2.1 + 1 ≤ 4294967295 := by omega
            have hI3 := R.I.set j hjl (g := (at3 L j).2.1 + 1) (by omega) hgen1
            have hM3 := R.met.next j hjl s1
            rw [hW] at hM3
            clear s0 s1 s2 hW
            go_wp2_with fail
            refine (state_in _ _ _ j _ R.oa.A hjl).mono ?_
            rintro e w2 ⟨rfl, hb2⟩
            have O2 := R.oa.below hb2
            go_wp2_with fail
            refine (claim_any _ _ _ _ _ O2.A (by omega) (by omega)).mono ?_
            rw [S.c0, S.c1]
            rintro e w3 ⟨rfl, hA3, hg3⟩
            have O3 := O2.wrote hg3 hA3
            have hU3 := O3.tw.words (show M.length ≤ 9223372036854775807 by omega)
            clear O2 hb2 hg3 hA3
            go_wp2_with fail
            go_loopw [78] (fun i wx => ∃ q : Nat, q ≤ M.length ∧ i = .int .i64 q ∧ wx = w3) (fun i _ => M.length - (intOf i).toNat)
            case atStart => exact ⟨0, Nat.zero_le _, rfl, rfl⟩
            case round =>
              obtain ⟨q, hq, rfl, rfl⟩ := hrel
              by_cases hqt : q < M.length
              · obtain ⟨bm, offm, rfl, hbm, hcm⟩ := hU3.cell q hqt
                have hqt' : (q : Int) < (M.length : Int) := by omega
                have hqf : (at0 M q == W) = false := not_eq (hfresh q hqt)
                go_wp2_with fail
                go_roundw
                case rel => exact ⟨q + 1, by omega, by go_num, trivial⟩
                case measure => simp [intOf]; omega
              · obtain rfl : q = M.length := by omega
                obtain ⟨g', cap, w', A⟩ := addOne w.heap.size O3.tw W S.w0 (by omega) O3.b.size
                have hrun := Lib.hid A.run
                have O4 := O3.told W A
                have hM1 : (M ++ [W]).length = M.length + 1 := by simp
                clear A O3 hU3
                go_wp2_with (at_builtin; refine wpList_append_run hrun.out rfl (by rfl) (by rfl) (by rfl) ?_)
                refine (put_any _ _ _ _ _ _ O4.A S.w0.1 S.w0.2 (by omega) (by omega)).mono ?_
                rw [S.p0]
                rintro e w5 ⟨rfl, hA5, hg5⟩
                have O5 := O4.wrote hg5 hA5
                go_wp2_with fail
                refine (get_any _ _ _ _ _ O5.A S.w0.1 S.w0.2).mono ?_
                rw [S.g0, S.g1]
                rintro e w6 ⟨rfl, hb6⟩
                have O6 := O5.below hb6
                go_wp2_with fail
                refine (free_any _ _ _ _ _ O6.A S.w0.1 S.w0.2).mono ?_
                rw [S.g0]
                rintro e w7 ⟨rfl, hA7, hg7⟩
                have O7 := O6.wrote hg7 hA7
                go_wp2_with fail
                refine (free_any _ _ _ _ _ O7.A S.w0.1 S.w0.2).mono ?_
                rw [S.e0, S.e2]
                rintro e w8 ⟨rfl, hA8, hg8⟩
                have O8 := O7.wrote hg8 hA8
                clear O4 O5 O6 O7 hA5 hA7 hA8 hg5 hb6 hg7 hg8
                go_wp2_with fail
                go_roundw
                case rel => exact ⟨k + 1, by omega, by go_num, _, _, _, _, by rw [hM1], by omega, O8, by rw [List.length_set]; exact R.l, hI3, hM3⟩
                case measure => simp [intOf]; omega
          · obtain ⟨f0, f1, f2⟩ := full j hjl s0
            have t2 : ((at3 L j).1 == 2) = true := by simpa using s0
            clear s0 s1
            go_wp2_with fail
            refine (state_in _ _ _ j _ R.oa.A hjl).mono ?_
            rintro e w2 ⟨rfl, hb2⟩
            have O2 := R.oa.below hb2
            go_wp2_with fail
            refine (claim_any _ _ _ _ _ O2.A (by omega) (by omega)).mono ?_
            rw [f0, f1, f2]
            rintro e w3 ⟨rfl, hA3, hg3⟩
            have O3 := O2.wrote hg3 hA3
            clear O2 hb2 hg3 hA3
            go_wp2_with fail
            go_roundw
            case rel => exact ⟨k + 1, by omega, by go_num, _, _, _, _, rfl, by omega, O3, R.l, R.I, R.met⟩
            case measure => simp [intOf]; omega
        · obtain rfl : k = ps.length := by omega
          have hu := R.I.used
          have O1 := R.oa.below ((Below.refl _ wr).alloc (Nat.le_refl _) (.cells #[.slice none 0 0] 66))
          have P1 := Blk.new wr #[.slice none 0 0] 66
          go_wp2_with fail
          refine (aused_any _ _ _ _ O1.A).mono ?_
          rw [hu]
          rintro e w2 ⟨rfl, hb2⟩
          have O2 := O1.below hb2
          have P2 := P1.below hb2
          go_wp2_with fail
          refine (free_zero _ _ _ P2).mono ?_
          rintro e w3 ⟨rfl, rfl⟩
          go_wp2_with fail
          refine (alen_at _ _ _ _ _ P2).mono ?_
          rintro e w3 ⟨rfl, rfl⟩
          go_wp2_with fail
          refine (lives_any _).mono ?_
          rintro e w4 ⟨rfl, hb4⟩
          go_wp2_with fail
          go_ret
          exact ⟨rfl, below_push2 O2.b hb4 (Nat.le_refl _)⟩

set_option maxRecDepth 100000 in
theorem contract (H : Type) (enc : TypeId × Value → H) (W : World) (base : Nat) (args : Array Value) (ds : List (DataW H)) (p : List MemPlace)
    (hval : ∀ (j : Nat) t v, Try.f4.params[j]? = some t → args[j]? = some v → Value.okWide Try.prog W .any base t v)
    (hA : DataW.TrodAll enc Try.prog W 0 (fun _ => true) true Try.f4.params.toList args.toList ds p) :
    Calls Try.prog 4 args W fun e W' => e = .returned (.bool true) ∧ Below W.heap.size W W' := by
  rw [Try.params4] at hA hval
  obtain ⟨v0, vs0, d0, ds0, p0, q0, hargs, rfl, rfl, h0, r0⟩ := trodAll_cons hA
  obtain ⟨v1, vs1, d1, ds1, p1, q1, rfl, rfl, rfl, h1, r1⟩ := trodAll_cons r0
  obtain ⟨v2, vs2, d2, ds2, p2, q2, rfl, rfl, rfl, h2, r2⟩ := trodAll_cons r1
  obtain ⟨rfl, rfl, rfl⟩ := trodAll_nil r2
  obtain rfl : args = #[v0, v1, v2] := by cases args; simp_all
  obtain ⟨a0, rfl, w0⟩ := Lift.int_of Try.underlying5 (hval 0 5 v0 rfl rfl) h0
  obtain ⟨a1, rfl, w1⟩ := Lift.int_of Try.underlying22 (hval 1 22 v1 rfl rfl) h1
  obtain ⟨a, ps, c, rfl, hc, hN⟩ := Open.ints Try.underlying52 Try.underlying5 (by kernel_rfl) (hval 2 52 v2 rfl rfl) h2
  have u0 := Lift.u8_range w0
  exact walk a0 a1 a c ps W hN u0.1 u0.2 (Lift.u64_range w1).1

/-! THE ROW's STEP -/
set_option maxRecDepth 100000 in
theorem lifted (os : Os) (started : os.Started) (H : Type) (enc : TypeId × Value → H) :
    ReturnsInHanded {} Try.checked os 4 .any (Rows.arenaOnceSpec.pre6 enc Try.prog Try.f4 Rows.arenaOnceRow.domain false) (Rows.arenaOnceSpec.post enc Try.prog Try.f4 false true false false) := by
  refine returnsInHanded_of_change (C := Try.checked) Lift.own started (by kernel_rfl) Try.func4
    (ChangeSpec.witness6 (enc := enc) (C := Try.checked) false ⟨#[], #[.int .u8 0, .int .u64 0, .slice none 0 0], []⟩ 8 (by kernel_rfl) (by kernel_rfl) (by kernel_rfl) (by kernel_rfl)) ?_
  intro W base args ds gs before hval0 hW hcnd _
  have hval : ∀ (j : Nat) t v, Try.f4.params[j]? = some t → args[j]? = some v → Value.okWide Try.prog W .any base t v := hval0
  have hW' := hW
  obtain ⟨p, q, hA0, hV, rfl, hfz, hnd⟩ := hW
  have hA : DataW.TrodAll enc Try.prog W 0 (fun _ => true) true Try.f4.params.toList args.toList ds p := hA0
  have hlen : ds.length = 3 := by
    have hl := Lift.trodAll_len _ _ _ _ hA
    rw [Try.params4] at hl
    simpa using hl
  have hall := fun W' (hb : Below W.heap.size W W') => Lift.trodAll_below Lift.laidOut hb Try.f4.params.toList args.toList ds p (by kernel_rfl) hA
  obtain ⟨rfl, rfl⟩ := trodVars_none hV
  refine (contract H enc W base args ds p hval hA).mono fun e W' ⟨he, bel⟩ => ?_
  subst he
  have hspec : (Rows.arenaOnceSpec.fn H (ds ++ [])).results = [.lit (.bool true)] ∧ (Rows.arenaOnceSpec.fn H (ds ++ [])).args = ds ∧ (Rows.arenaOnceSpec.fn H (ds ++ [])).vars = [] := by
    match ds, hlen with
    | [d1, d2, d3], _ => exact ⟨rfl, rfl, rfl⟩
  exact ⟨_, rfl, _, _, _, [], _, [], hW', by rw [hspec.1]; exact trodAll_mk1 (shut_bool Try.underlying4 _), by rw [hspec.2.1]; exact hall W' bel, by rw [hspec.2.2]; rfl, bel.frame _, fun h => by cases h⟩

theorem over : Rows.arenaOnceRow.holds Try.pinned (OpenSpec.ofChange Rows.arenaOnceSpec) :=
  OpenClaim.holds_of_wide 4 Try.f4 rfl rfl rfl rfl rfl rfl rfl ⟨rfl, rfl, rfl, rfl, rfl⟩ rfl rfl rfl rfl rfl (by kernel_rfl) Try.func4 (by kernel_rfl)
    (of_decide_eq_true (by kernel_rfl)) (by unfold Func.isWrapper; first | (rw [if_pos (by decide +kernel)]; kernel_rfl) | (rw [if_neg (by decide +kernel)]; exact ⟨rfl, rfl⟩))
    (fun os started H enc _ => lifted os started H enc)

theorem proved : Rows.ArenaOnceSaid := over
#print axioms proved
end Go.Proofs.Ytpkiihangfgmlaa.arenaOnce
