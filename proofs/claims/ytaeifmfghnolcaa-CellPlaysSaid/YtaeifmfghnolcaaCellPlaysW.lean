/-
  The walk of CellPlays.
-/
import Derived.Test.YtaeifmfghnolcaaCellMore
import Derived.Test.YtaeifmfghnolcaaOpen
import Derived.BigQuiet
namespace Go.Proofs.Ytaeifmfghnolcaa.cellPlays
open Go.ChangeShapes Go.WideShapes Go.ChangeAt Go.RowKit RefP CellP
set_option linter.unusedVariables false
set_option linter.unusedSimpArgs false

def actK (j : Nat) : IntKind := if j < 2 then .i64 else .u64
def WroteN (w : World) (l : List (Int × Int)) (n : Nat) (e : Ending) (w' : World) : Prop :=
  ∃ a c, e = .returned (.slice a n c) ∧ PairsS w' a l ∧ Below w.heap.size w w' ∧ ∀ b off, a = some ⟨b, off, none⟩ → w.heap.size ≤ b
theorem write_n (a : Option Addr) (c n : Nat) (l : List (Int × Int)) (i word : Int) (w : World) (h : PairsS w a l) (hn : l.length = n) (hin : inB l.length i = true) (x0 : 0 ≤ word) (x1 : word ≤ 18446744073709551615) :
    Calls Try.prog 25 #[.slice a n c, .int .i64 i, .int .u64 word] w (WroteN w (writeL l i word) n) := by
  subst hn
  refine (write_any a c l i word w h hin x0 x1).mono ?_
  rintro e w' ⟨a', c', he, r⟩
  rw [writeL_length] at he
  exact ⟨a', c', he, r⟩
theorem like_n (o g : Nat) (a : Option Addr) (c n : Nat) (l : List (Int × Int)) (w : World) (h : CellsAt w o g l) (hp : PairsS w a l) (hn : l.length = n) :
    Calls Try.prog 26 #[.pointer (some ⟨o, 0, none⟩), .slice a n c] w fun e w' => e = .returned (.bool true) ∧ Below w.heap.size w w' := by
  subst hn; exact like_any o g a c l w h hp

structure PlayRel (w : World) (n o g : Nat) (a : Option Addr) (L : List (Int × Int)) (wr : World) : Prop where
  b : Below w.heap.size w wr
  c : CellsAt wr o g L
  p : PairsS wr a L
  l : L.length = n
  og : w.heap.size ≤ o ∧ w.heap.size ≤ g
  ne : ∀ b off, a = some ⟨b, off, none⟩ → b ≠ g
  lt : ∀ b off, a = some ⟨b, off, none⟩ → b < wr.heap.size
theorem PlayRel.below {w : World} {n o g : Nat} {a : Option Addr} {L : List (Int × Int)} {wr wx : World} (h : PlayRel w n o g a L wr) (hb : Below wr.heap.size wr wx) : PlayRel w n o g a L wx :=
  ⟨below_push2 h.b hb (Nat.le_refl _), h.c.below hb, h.p.below hb, h.l, h.og, h.ne, fun b off e => Nat.lt_of_lt_of_le (h.lt b off e) hb.size⟩
/-- behind a write of the cells alone, and one of the document's -/
theorem PlayRel.wrote {w : World} {n o g : Nat} {a a' : Option Addr} {L L' : List (Int × Int)} {wr w1 w2 : World} (h : PlayRel w n o g a L wr) (hg : wr.grownBy w1 (some g)) (hc : CellsAt w1 o g L') (hp : PairsS w2 a' L') (hl : L'.length = n) (hn : 0 < n)
    (hb : Below w1.heap.size w1 w2) (hf : ∀ b off, a' = some ⟨b, off, none⟩ → w1.heap.size ≤ b) : PlayRel w n o g a' L' w2 :=
  ⟨below_push2 (below_only h.b hg (Nat.le_refl _) h.og.2) hb (Nat.le_refl _), hc.below hb, hp, hl, h.og, fun b off e => by have := hf b off e; have := hc.rows.lt; omega, fun b off e => by
    obtain ⟨b', off', e', hlt, _⟩ := hp.row.get (by omega)
    rw [e'] at e
    simp only [Option.some.injEq, Addr.mk.injEq, and_true] at e
    omega⟩
theorem PlayRel.same {w : World} {n o g : Nat} {a : Option Addr} {L : List (Int × Int)} {wr w1 : World} (h : PlayRel w n o g a L wr) (hg : wr.grownBy w1 (some g)) (hc : CellsAt w1 o g L) : PlayRel w n o g a L w1 :=
  ⟨below_only h.b hg (Nat.le_refl _) h.og.2, hc, h.p.grown hg h.ne, h.l, h.og, h.ne, fun b off e => Nat.lt_of_lt_of_le (h.lt b off e) hg.size⟩
/-- behind a clone, and a store into the elder cells -/
theorem PlayRel.cloned {w : World} {n o g o' g' : Nat} {a : Option Addr} {L : List (Int × Int)} {wr w1 w2 : World} (h : PlayRel w n o g a L wr) (hb : Below wr.heap.size wr w1) (hc : CellsAt w1 o' g' L) (ho : wr.heap.size ≤ o') (hg' : wr.heap.size ≤ g')
    (hg : w1.grownBy w2 (some g)) : PlayRel w n o' g' a L w2 := by
  have h1 := h.below hb
  have hgl := h.c.rows.lt
  refine ⟨below_only h1.b hg (Nat.le_refl _) h.og.2, hc.only hg (by omega) (by omega), h1.p.grown hg h.ne, h.l, ⟨?_, ?_⟩, fun b off e => ?_, fun b off e => Nat.lt_of_lt_of_le (h1.lt b off e) hg.size⟩
  · have := h.b.size; omega
  · have := h.b.size; omega
  · have := h.lt b off e; omega

theorem Holds.of_arr {w : World} {b : Nat} {cs : Array Value} {T : TypeId} (B : Blk w b cs T) (m : Nat) (f : Nat → Value) (e : ∀ i, i < m → cs[i]? = some (f i)) : Holds w (some ⟨b, 0, none⟩) m f :=
  ⟨fun _ => ⟨b, 0, rfl, B.lt, fun i hi => by rw [Nat.zero_add]; exact B.at i (e i hi)⟩⟩
set_option maxRecDepth 100000 in
set_option maxHeartbeats 3200000 in
theorem walk (n : Int) (a : Option Addr) (c m : Nat) (F : Nat → Nat → Int) (w : World) (n0 : -9223372036854775808 ≤ n) (n1 : n ≤ 9223372036854775807) (hA : Nums w a m 4 actK F) :
    Calls Try.prog 5 #[.int .i64 n, .slice a m c] w fun e w' => e = .returned (.bool true) ∧ Below w.heap.size w w' := by
  have hlen := hA.len
  by_cases hbig : 100 < m
  · go_enter Try.func5, Try.ntmps5
    go_wp2_with fail
    refine (lives_any _).mono ?_
    rintro e w1 ⟨rfl, hb1⟩
    go_wp2_with fail
    go_ret
    exact ⟨rfl, hb1⟩
  by_cases hn1 : 60 < n ∧ n ≤ 65536
  · obtain ⟨ha, hb⟩ := hn1
    go_enter Try.func5, Try.ntmps5
    go_wp2_with fail
    refine (lives_any _).mono ?_
    rintro e w1 ⟨rfl, hb1⟩
    go_wp2_with fail
    go_ret
    exact ⟨rfl, hb1⟩
  by_cases hno : n < 0 ∨ ¬ n < 0 ∧ 65536 < n
  · rcases hno with hlo | ⟨hlo, hhi⟩
    · clear hn1
      go_enter Try.func5, Try.ntmps5
      go_wp2_with fail
      refine (new_no n _ (.inl hlo)).mono ?_
      rintro e w1 ⟨rfl, rfl⟩
      go_wp2_with fail
      refine (len_nil _).mono ?_
      rintro e w1 ⟨rfl, rfl⟩
      go_wp2_with fail
      refine (store_nil _ _ _).mono ?_
      rintro e w1 ⟨rfl, rfl⟩
      go_wp2_with fail
      refine (clone_nil _).mono ?_
      rintro e w1 ⟨rfl, rfl⟩
      go_wp2_with fail
      refine (lives_any _).mono ?_
      rintro e w2 ⟨rfl, hb2⟩
      go_wp2_with fail
      go_ret
      exact ⟨rfl, hb2⟩
    · clear hn1
      go_enter Try.func5, Try.ntmps5
      go_wp2_with fail
      refine (new_no n _ (.inr ⟨by omega, hhi⟩)).mono ?_
      rintro e w1 ⟨rfl, rfl⟩
      go_wp2_with fail
      refine (len_nil _).mono ?_
      rintro e w1 ⟨rfl, rfl⟩
      go_wp2_with fail
      refine (store_nil _ _ _).mono ?_
      rintro e w1 ⟨rfl, rfl⟩
      go_wp2_with fail
      refine (clone_nil _).mono ?_
      rintro e w1 ⟨rfl, rfl⟩
      go_wp2_with fail
      refine (lives_any _).mono ?_
      rintro e w2 ⟨rfl, hb2⟩
      go_wp2_with fail
      go_ret
      exact ⟨rfl, hb2⟩
  · obtain ⟨n, rfl⟩ := Int.eq_ofNat_of_zero_le (show 0 ≤ n by omega)
    have hn60 : n ≤ 60 := by omega
    clear hn1 hno n0 n1
    obtain ⟨i0, hi, hz0, hz1, hz2⟩ := info_parts infoCell
    have hmk := fun W => run_make_rowN (P := Try.prog) 45 48 i0 _ Try.underlying45 hi hz0 .i64 .i64 n n (Nat.le_refl _) (by rw [hz2]; omega) (by omega) W
    have e0 : (Value.agg #[.int .u64 0, .int .u64 0]).cells = #[.int .u64 0, .int .u64 0] := by simp [Value.cells]
    rw [e0, hz1, pairsA_made n] at hmk
    clear e0 hz0 hz1 hz2 hi
    go_enter Try.func5, Try.ntmps5
    go_wp2_with fail
    refine (new_yes n _ (by omega)).mono ?_
    rintro e w1 ⟨oo, gg, rfl, hC, hb1, hO, hG⟩
    go_wp2_with fail
    have R0 : PlayRel w n oo gg (some ⟨w1.heap.size, 0, none⟩) (List.replicate n (0, 0)) (w1.alloc (.cells (pairsA (List.replicate n (0, 0))) 48)) :=
      ⟨by (repeat (first | exact Below.refl _ _ | assumption | refine below_alloc2 ?_ (by first | exact Nat.le_refl _ | omega) _ | refine Below.drew ?_ | refine below_drewN ?_ _ | refine below_push2 ?_ ‹_› (by first | exact Nat.le_refl _ | omega) | refine Below.setCell ?_ (by first | (simp; done) | (simp; omega) | omega) _)), hC.below (by (repeat (first | exact Below.refl _ _ | assumption | refine below_alloc2 ?_ (by first | exact Nat.le_refl _ | omega) _ | refine Below.drew ?_ | refine below_drewN ?_ _ | refine below_push2 ?_ ‹_› (by first | exact Nat.le_refl _ | omega) | refine Below.setCell ?_ (by first | (simp; done) | (simp; omega) | omega) _))), ⟨Holds.of_arr (Blk.new w1 _ _) _ _ (fun i hi => by rw [pairsA_get _ _ hi]), Rng.zeros n, by simp; omega⟩, by simp, ⟨hO, hG⟩, fun b off e => by
        simp only [Option.some.injEq, Addr.mk.injEq, and_true] at e
        have := hC.rows.lt
        omega, fun b off e => by
        simp only [Option.some.injEq, Addr.mk.injEq, and_true] at e
        simp; omega⟩
    clear hmk
    go_loopw [5, 6, 59] (fun u5 u6 i wr => ∃ k : Nat, k ≤ m ∧ i = .int .i64 k ∧ ∃ o g a c L, u5 = .pointer (some ⟨o, 0, none⟩) ∧ u6 = .slice a n c ∧ PlayRel w n o g a L wr) (fun _ _ i _ => m - (intOf i).toNat)
    case atStart => exact ⟨0, Nat.zero_le _, rfl, oo, gg, _, n, _, rfl, rfl, R0⟩
    case round =>
      clear R0 hC hb1 hO hG
      obtain ⟨k, hk, rfl, o, g, aw, cw, L, rfl, rfl, R⟩ := hrel
      by_cases hlt : k < m
      · obtain ⟨b, off, rfl, hbl, hc⟩ := (hA.below R.b).cell k hlt
        have c0 : wr.cell? ⟨b, off + k * 4, none⟩ = some (.int .i64 (F k 0)) := hc 0 (by omega)
        have c1' : wr.cell? ⟨b, off + k * 4 + 1, none⟩ = some (.int .i64 (F k 1)) := hc 1 (by omega)
        have c2 : wr.cell? ⟨b, off + k * 4 + 2, none⟩ = some (.int .u64 (F k 2)) := hc 2 (by omega)
        have c3 : wr.cell? ⟨b, off + k * 4 + 3, none⟩ = some (.int .u64 (F k 3)) := hc 3 (by omega)
        have hv := Lift.u64_range (hA.wf k 2 hlt (by omega))
        have hx := Lift.u64_range (hA.wf k 3 hlt (by omega))
        clear hc
        generalize F k 0 = kd at c0
        generalize F k 1 = at_ at c1'
        generalize F k 2 = ver at c2 hv
        generalize F k 3 = word at c3 hx
        have R1 := R.below (below_alloc2 (Below.refl _ wr) (Nat.le_refl _) (.cells #[.int .i64 kd, .int .i64 at_, .int .u64 ver, .int .u64 word] 37))
        have N1 := Blk.new wr #[.int .i64 kd, .int .i64 at_, .int .u64 ver, .int .u64 word] 37
        have hne : wr.heap.size ≠ g := by have := R.c.rows.lt; omega
        cases ci : inB n at_
        · have cn := inB_no ci
          have cL := ci
          rw [← R.l] at cL
          have q : ((0 ≤ at_ ∧ (n : Int) ≤ at_) ∧ decide (0 ≤ at_) = true ∧ decide (at_ < (n : Int)) = false) ∨ at_ < 0 ∧ decide (0 ≤ at_) = false := by
            by_cases h0 : 0 ≤ at_
            · exact .inl ⟨⟨h0, by omega⟩, by simpa using h0, by simp; omega⟩
            · exact .inr ⟨by omega, by simpa using h0⟩
          clear cn
          by_cases k0 : kd = 0
          · subst k0
            rcases q with ⟨⟨q1, q2⟩, d1, d2⟩ | ⟨q1, d1⟩
            all_goals
              go_wp2_with fail
              refine (store_any _ _ _ _ _ _ R1.c hx.1 hx.2).mono ?_
              rintro e w2 ⟨rfl, hC2, hg2⟩
              rw [storeL_no word cL] at hC2
              rw [cL]
              have R3 := R1.same hg2 hC2
              have N3 := N1.grown hg2 (by intro e; injection e; contradiction)
              have cl := ci
              rw [← R3.l] at cl
              have n0 := N3.at 0 rfl
              have n1 := N3.at 1 rfl
              have n2 := N3.at 2 rfl
              have n3 := N3.at 3 rfl
              go_wp2_with fail
              refine (load_any _ _ _ _ _ R3.c).mono ?_
              rintro e wy ⟨rfl, hby⟩
              rw [cl, loadW_no cl, loadV_no cl]
              have RY := R3.below hby
              clear cl
              go_wp2_with fail
              refine (like_n _ _ _ _ _ _ _ RY.c RY.p RY.l).mono ?_
              rintro e wz ⟨rfl, hbz⟩
              go_wp2_with fail
              go_roundw
              case rel => exact ⟨k + 1, by omega, by go_num, _, _, _, _, _, rfl, rfl, RY.below hbz⟩
              case measure => simp [intOf]; omega
          by_cases k1 : kd = 1
          · subst k1
            clear k0
            rcases q with ⟨⟨q1, q2⟩, d1, d2⟩ | ⟨q1, d1⟩
            all_goals
              go_upto_region 18 with (fail)
              go_quiet (fail)
              have N2 := (N1.drewN nq)
              have n0 := N2.at 0 rfl
              have n1 := N2.at 1 rfl
              have n2 := N2.at 2 rfl
              have n3 := N2.at 3 rfl
              go_wp2_with fail
              refine (cas_any _ _ _ _ _ _ _ (R1.c.below (below_drewN (Below.refl _ _) _)) hv.1 hv.2 hx.1 hx.2).mono ?_
              rintro e w2 ⟨rfl, hC2, hg2⟩
              have cb : casB L at_ ver = false := by simp [casB, cL]
              rw [casL_no word cb] at hC2
              rw [cb]
              have R3 := (R1.below (below_drewN (Below.refl _ _) nq)).same hg2 hC2
              have N3 := N2.grown hg2 (by intro e; injection e; contradiction)
              clear n0 n1 n2 n3 cb
              have cl := ci
              rw [← R3.l] at cl
              have n0 := N3.at 0 rfl
              have n1 := N3.at 1 rfl
              have n2 := N3.at 2 rfl
              have n3 := N3.at 3 rfl
              go_wp2_with fail
              refine (load_any _ _ _ _ _ R3.c).mono ?_
              rintro e wy ⟨rfl, hby⟩
              rw [cl, loadW_no cl, loadV_no cl]
              have RY := R3.below hby
              clear cl
              go_wp2_with fail
              refine (like_n _ _ _ _ _ _ _ RY.c RY.p RY.l).mono ?_
              rintro e wz ⟨rfl, hbz⟩
              go_wp2_with fail
              go_roundw
              case rel => exact ⟨k + 1, by omega, by go_num, _, _, _, _, _, rfl, rfl, RY.below hbz⟩
              case measure => simp [intOf]; omega
          by_cases k3 : kd = 3
          · subst k3
            clear k0 k1
            rcases q with ⟨⟨q1, q2⟩, d1, d2⟩ | ⟨q1, d1⟩
            all_goals
              go_wp2_with fail
              refine (clone_any _ _ _ _ R1.c).mono ?_
              rintro e w2 ⟨o', g', rfl, hC2, hb2, hO2, hG2⟩
              have N2 := N1.below hb2
              have n0 := N2.at 0 rfl
              have n1 := N2.at 1 rfl
              have n2 := N2.at 2 rfl
              have n3 := N2.at 3 rfl
              go_wp2_with fail
              refine (store_any _ _ _ _ _ _ (R1.c.below hb2) hx.1 hx.2).mono ?_
              rintro e w3 ⟨rfl, hC3, hg3⟩
              have R3 := R1.cloned hb2 hC2 hO2 hG2 hg3
              have N3 := N2.grown hg3 (by intro e; injection e; contradiction)
              clear n0 n1 n2 n3
              have cl := ci
              rw [← R3.l] at cl
              have n0 := N3.at 0 rfl
              have n1 := N3.at 1 rfl
              have n2 := N3.at 2 rfl
              have n3 := N3.at 3 rfl
              go_wp2_with fail
              refine (load_any _ _ _ _ _ R3.c).mono ?_
              rintro e wy ⟨rfl, hby⟩
              rw [cl, loadW_no cl, loadV_no cl]
              have RY := R3.below hby
              clear cl
              go_wp2_with fail
              refine (like_n _ _ _ _ _ _ _ RY.c RY.p RY.l).mono ?_
              rintro e wz ⟨rfl, hbz⟩
              go_wp2_with fail
              go_roundw
              case rel => exact ⟨k + 1, by omega, by go_num, _, _, _, _, _, rfl, rfl, RY.below hbz⟩
              case measure => simp [intOf]; omega
          have q0 : (kd == 0) = false := by simpa using k0
          have q1 : (kd == 1) = false := by simpa using k1
          have q3 : (kd == 3) = false := by simpa using k3
          clear k0 k1 k3
          rcases q with ⟨⟨q1, q2⟩, d1, d2⟩ | ⟨q1, d1⟩
          all_goals
            have cl := ci
            rw [← R1.l] at cl
            have n0 := N1.at 0 rfl
            have n1 := N1.at 1 rfl
            have n2 := N1.at 2 rfl
            have n3 := N1.at 3 rfl
            go_wp2_with fail
            refine (load_any _ _ _ _ _ R1.c).mono ?_
            rintro e wy ⟨rfl, hby⟩
            rw [cl, loadW_no cl, loadV_no cl]
            have RY := R1.below hby
            clear cl
            go_wp2_with fail
            refine (like_n _ _ _ _ _ _ _ RY.c RY.p RY.l).mono ?_
            rintro e wz ⟨rfl, hbz⟩
            go_wp2_with fail
            go_roundw
            case rel => exact ⟨k + 1, by omega, by go_num, _, _, _, _, _, rfl, rfl, RY.below hbz⟩
            case measure => simp [intOf]; omega
        · obtain ⟨i0, i1⟩ := inB_yes ci
          obtain ⟨j, rfl⟩ := Int.eq_ofNat_of_zero_le i0
          have cL := (congrArg (fun z => inB z (j : Int)) R.l).trans ci
          have d2 : decide ((j : Int) < (n : Int)) = true := by simpa using i1
          by_cases k0 : kd = 0
          · subst k0
            go_wp2_with fail
            refine (store_any _ _ _ _ _ _ R1.c hx.1 hx.2).mono ?_
            rintro e w2 ⟨rfl, hC2, hg2⟩
            rw [storeL_yes word cL] at hC2
            rw [cL]
            have P2 := R1.p.grown hg2 R1.ne
            have N2 := N1.grown hg2 (by intro e; injection e; contradiction)
            have n0 := N2.at 0 rfl
            have n1 := N2.at 1 rfl
            have n2 := N2.at 2 rfl
            have n3 := N2.at 3 rfl
            go_wp2_with fail
            refine (write_n _ _ _ _ _ _ _ P2 R1.l cL hx.1 hx.2).mono ?_
            rintro e w3 ⟨a3, c3', rfl, hP3, hb3, hf3⟩
            have R3 := R1.wrote hg2 hC2 hP3 (by rw [writeL_length, R1.l]) (by omega) hb3 hf3
            have N3 := N2.below hb3
            clear n0 n1 n2 n3
            have cl := ci
            rw [← R3.l] at cl
            have n0 := N3.at 0 rfl
            have n1 := N3.at 1 rfl
            have n2 := N3.at 2 rfl
            have n3 := N3.at 3 rfl
            go_wp2_with fail
            refine (load_any _ _ _ _ _ R3.c).mono ?_
            rintro e wy ⟨rfl, hby⟩
            rw [cl]
            have RY := R3.below hby
            clear cl
            go_wp2_with fail
            refine (like_n _ _ _ _ _ _ _ RY.c RY.p RY.l).mono ?_
            rintro e wz ⟨rfl, hbz⟩
            go_wp2_with fail
            go_roundw
            case rel => exact ⟨k + 1, by omega, by go_num, _, _, _, _, _, rfl, rfl, RY.below hbz⟩
            case measure => simp [intOf]; omega
          by_cases k1 : kd = 1
          · subst k1
            clear k0
            obtain ⟨bp, offp, rfl, hbp, s0, s1⟩ := R1.p.cell j (by have := R1.l; omega)
            by_cases ce : (at2 L j).2 = ver
            · have cb : casB L j ver = true := by simp [casB, cL, ce]
              have hq : ((at2 L j).2 == ver) = true := by simp [ce]
              clear ce
              go_upto_region 18 with (fail)
              go_quiet (fail)
              have N2 := (N1.drewN nq)
              have n0 := N2.at 0 rfl
              have n1 := N2.at 1 rfl
              have n2 := N2.at 2 rfl
              have n3 := N2.at 3 rfl
              go_wp2_with fail
              refine (cas_any _ _ _ _ _ _ _ (R1.c.below (below_drewN (Below.refl _ _) _)) hv.1 hv.2 hx.1 hx.2).mono ?_
              rintro e w2 ⟨rfl, hC2, hg2⟩
              rw [casL_yes word cb] at hC2
              rw [cb]
              have R2 := R1.below (below_drewN (Below.refl _ _) nq)
              have P2 := R2.p.grown hg2 R2.ne
              have N3 := N2.grown hg2 (by intro e; injection e; contradiction)
              clear n0 n1 n2 n3 s0 s1
              have n0 := N3.at 0 rfl
              have n1 := N3.at 1 rfl
              have n2 := N3.at 2 rfl
              have n3 := N3.at 3 rfl
              go_wp2_with fail
              refine (write_n _ _ _ _ _ _ _ P2 R1.l cL hx.1 hx.2).mono ?_
              rintro e w3 ⟨a3, c3', rfl, hP3, hb3, hf3⟩
              have R3 := R2.wrote hg2 hC2 hP3 (by rw [writeL_length, R1.l]) (by omega) hb3 hf3
              have N4 := N3.below hb3
              clear n0 n1 n2 n3 cb
              have cl := ci
              rw [← R3.l] at cl
              have n0 := N4.at 0 rfl
              have n1 := N4.at 1 rfl
              have n2 := N4.at 2 rfl
              have n3 := N4.at 3 rfl
              go_wp2_with fail
              refine (load_any _ _ _ _ _ R3.c).mono ?_
              rintro e wy ⟨rfl, hby⟩
              rw [cl]
              have RY := R3.below hby
              clear cl
              go_wp2_with fail
              refine (like_n _ _ _ _ _ _ _ RY.c RY.p RY.l).mono ?_
              rintro e wz ⟨rfl, hbz⟩
              go_wp2_with fail
              go_roundw
              case rel => exact ⟨k + 1, by omega, by go_num, _, _, _, _, _, rfl, rfl, RY.below hbz⟩
              case measure => simp [intOf]; omega
            · have cb : casB L j ver = false := by simp [casB, cL, ce]
              have hq : ((at2 L j).2 == ver) = false := by simp [ce]
              clear ce
              go_upto_region 18 with (fail)
              go_quiet (fail)
              have N2 := (N1.drewN nq)
              have n0 := N2.at 0 rfl
              have n1 := N2.at 1 rfl
              have n2 := N2.at 2 rfl
              have n3 := N2.at 3 rfl
              go_wp2_with fail
              refine (cas_any _ _ _ _ _ _ _ (R1.c.below (below_drewN (Below.refl _ _) _)) hv.1 hv.2 hx.1 hx.2).mono ?_
              rintro e w2 ⟨rfl, hC2, hg2⟩
              rw [casL_no word cb] at hC2
              rw [cb]
              have R3 := (R1.below (below_drewN (Below.refl _ _) nq)).same hg2 hC2
              have N3 := N2.grown hg2 (by intro e; injection e; contradiction)
              clear n0 n1 n2 n3 s0 s1 cb
              have cl := ci
              rw [← R3.l] at cl
              have n0 := N3.at 0 rfl
              have n1 := N3.at 1 rfl
              have n2 := N3.at 2 rfl
              have n3 := N3.at 3 rfl
              go_wp2_with fail
              refine (load_any _ _ _ _ _ R3.c).mono ?_
              rintro e wy ⟨rfl, hby⟩
              rw [cl]
              have RY := R3.below hby
              clear cl
              go_wp2_with fail
              refine (like_n _ _ _ _ _ _ _ RY.c RY.p RY.l).mono ?_
              rintro e wz ⟨rfl, hbz⟩
              go_wp2_with fail
              go_roundw
              case rel => exact ⟨k + 1, by omega, by go_num, _, _, _, _, _, rfl, rfl, RY.below hbz⟩
              case measure => simp [intOf]; omega
          by_cases k3 : kd = 3
          · subst k3
            clear k0 k1
            go_wp2_with fail
            refine (clone_any _ _ _ _ R1.c).mono ?_
            rintro e w2 ⟨o', g', rfl, hC2, hb2, hO2, hG2⟩
            have N2 := N1.below hb2
            have n0 := N2.at 0 rfl
            have n1 := N2.at 1 rfl
            have n2 := N2.at 2 rfl
            have n3 := N2.at 3 rfl
            go_wp2_with fail
            refine (store_any _ _ _ _ _ _ (R1.c.below hb2) hx.1 hx.2).mono ?_
            rintro e w3 ⟨rfl, hC3, hg3⟩
            have R3 := R1.cloned hb2 hC2 hO2 hG2 hg3
            have N3 := N2.grown hg3 (by intro e; injection e; contradiction)
            clear n0 n1 n2 n3
            have cl := ci
            rw [← R3.l] at cl
            have n0 := N3.at 0 rfl
            have n1 := N3.at 1 rfl
            have n2 := N3.at 2 rfl
            have n3 := N3.at 3 rfl
            go_wp2_with fail
            refine (load_any _ _ _ _ _ R3.c).mono ?_
            rintro e wy ⟨rfl, hby⟩
            rw [cl]
            have RY := R3.below hby
            clear cl
            go_wp2_with fail
            refine (like_n _ _ _ _ _ _ _ RY.c RY.p RY.l).mono ?_
            rintro e wz ⟨rfl, hbz⟩
            go_wp2_with fail
            go_roundw
            case rel => exact ⟨k + 1, by omega, by go_num, _, _, _, _, _, rfl, rfl, RY.below hbz⟩
            case measure => simp [intOf]; omega
          have q0 : (kd == 0) = false := by simpa using k0
          have q1 : (kd == 1) = false := by simpa using k1
          have q3 : (kd == 3) = false := by simpa using k3
          clear k0 k1 k3
          have cl := ci
          rw [← R1.l] at cl
          have n0 := N1.at 0 rfl
          have n1 := N1.at 1 rfl
          have n2 := N1.at 2 rfl
          have n3 := N1.at 3 rfl
          go_wp2_with fail
          refine (load_any _ _ _ _ _ R1.c).mono ?_
          rintro e wy ⟨rfl, hby⟩
          rw [cl]
          have RY := R1.below hby
          clear cl
          go_wp2_with fail
          refine (like_n _ _ _ _ _ _ _ RY.c RY.p RY.l).mono ?_
          rintro e wz ⟨rfl, hbz⟩
          go_wp2_with fail
          go_roundw
          case rel => exact ⟨k + 1, by omega, by go_num, _, _, _, _, _, rfl, rfl, RY.below hbz⟩
          case measure => simp [intOf]; omega
      · obtain rfl : k = m := by omega
        go_wp2_with fail
        refine (lives_any _).mono ?_
        rintro e w3 ⟨rfl, hb3⟩
        go_wp2_with fail
        go_ret
        exact ⟨rfl, below_push2 R.b hb3 (Nat.le_refl _)⟩
end Go.Proofs.Ytaeifmfghnolcaa.cellPlays
