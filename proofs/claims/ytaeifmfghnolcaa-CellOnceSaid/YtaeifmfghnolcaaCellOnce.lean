/-
  CellOnce: of several that write a cell by one version just the first does, and the cell has then its word and the next version. For every list of stores and words; no condition.
-/
import Derived.Test.YtaeifmfghnolcaaCellLives
import Derived.Test.YtaeifmfghnolcaaOpen
namespace Go.Proofs.Ytaeifmfghnolcaa.cellOnce
open Go.ChangeShapes Go.WideShapes Go.ChangeAt Go.RowKit RefP CellP
set_option linter.unusedVariables false
set_option linter.unusedSimpArgs false

theorem inB3 {l : List (Int × Int)} (h : l.length = 3) : inB l.length 1 = true := by rw [h]; decide
/-- the cells behind k words -/
def behind (L : List (Int × Int)) (words : List Int) (k : Nat) : List (Int × Int) := if k = 0 then L else writeL L 1 (at0 words 0)
theorem behind_length {L : List (Int × Int)} (h : L.length = 3) (words : List Int) (k : Nat) : (behind L words k).length = 3 := by unfold behind; split <;> simp [writeL_length, h]
theorem at_write {L : List (Int × Int)} (h : L.length = 3) (x : Int) : at2 (writeL L 1 x) 1 = (x, nextV (at2 L 1).2) := by
  unfold writeL
  rw [at2_set _ _ _ _ (by simp [h])]; simp
theorem first_word {L : List (Int × Int)} (h : L.length = 3) (words : List Int) : casB (behind L words 0) 1 (loadV L 1) = true ∧ casL (behind L words 0) 1 (loadV L 1) (at0 words 0) = behind L words 1 := by
  have hv : loadV L 1 = (at2 L 1).2 := loadV_yes (inB3 h)
  have hb : casB (behind L words 0) 1 (loadV L 1) = true := by rw [hv]; exact casB_load (inB3 h)
  exact ⟨hb, by rw [casL_yes _ hb]; simp [behind]⟩
theorem later_word {L : List (Int × Int)} (h : L.length = 3) (hr : Rng L) (words : List Int) (k : Nat) (hk : k ≠ 0) (x : Int) : casB (behind L words k) 1 (loadV L 1) = false ∧ casL (behind L words k) 1 (loadV L 1) x = behind L words (k + 1) := by
  have hv : loadV L 1 = (at2 L 1).2 := loadV_yes (inB3 h)
  have e : behind L words k = writeL L 1 (at0 words 0) := by simp [behind, hk]
  have hb : casB (behind L words k) 1 (loadV L 1) = false := by
    rw [e, hv]
    have hn := nextV_ne (hr.at 1).2.1 (hr.at 1).2.2
    simp only [casB, Int.toNat_one, at_write h, hn, decide_false, Bool.and_false]
  exact ⟨hb, by rw [casL_no _ hb, e]; simp [behind]⟩
theorem behind_load {L : List (Int × Int)} (h : L.length = 3) (words : List Int) (k : Nat) (hk : k ≠ 0) : loadW (behind L words k) 1 = at0 words 0 ∧ loadV (behind L words k) 1 = nextV (loadV L 1) := by
  have e : behind L words k = writeL L 1 (at0 words 0) := by simp [behind, hk]
  have hl : (writeL L 1 (at0 words 0)).length = 3 := by rw [writeL_length, h]
  rw [e, loadW_yes (inB3 hl), loadV_yes (inB3 hl), loadV_yes (inB3 h)]
  simp only [Int.toNat_one, at_write h, and_self]

/-- the kinds of an act's fields -/
def actK (j : Nat) : IntKind := if j < 2 then .i64 else .u64
structure Rel (w : World) (o g : Nat) (wr : World) (L : List (Int × Int)) : Prop where
  b : Below w.heap.size w wr
  c : CellsAt wr o g L
  l : L.length = 3
theorem Rel.store {w wr w1 w2 : World} {o g : Nat} {L : List (Int × Int)} {i x : Int} (h : Rel w o g wr L) (hb : Below wr.heap.size wr w1) (hc : CellsAt w2 o g (storeL L i x)) (hg : Only w1 w2 g) (hG : w.heap.size ≤ g) : Rel w o g w2 (storeL L i x) :=
  ⟨below_only (below_push2 h.b hb (Nat.le_refl _)) hg (Nat.le_refl _) hG, hc, by rw [storeL_length]; exact h.l⟩

set_option maxRecDepth 100000 in
set_option maxHeartbeats 3200000 in
theorem walk (a : Option Addr) (c n : Nat) (F : Nat → Nat → Int) (a1 : Option Addr) (c1 : Nat) (words : List Int) (w : World) (hA : Nums w a n 4 actK F) (hU : U64s w a1 words) :
    Calls Try.prog 4 #[.slice a n c, .slice a1 words.length c1] w fun e w' => e = .returned (.bool true) ∧ Below w.heap.size w w' := by
  have hlen := hA.len
  have hlen1 := hU.len
  by_cases hbig : 60 < n
  · go_enter Try.func4, Try.ntmps4
    go_wp2_with fail
    refine (lives_any _).mono ?_
    rintro e w1 ⟨rfl, hb1⟩
    go_wp2_with fail
    go_ret
    exact ⟨rfl, hb1⟩
  by_cases hbig1 : 60 < words.length
  · go_enter Try.func4, Try.ntmps4
    go_wp2_with fail
    refine (lives_any _).mono ?_
    rintro e w1 ⟨rfl, hb1⟩
    go_wp2_with fail
    go_ret
    exact ⟨rfl, hb1⟩
  go_enter Try.func4, Try.ntmps4
  go_wp2_with fail
  refine (new_yes 3 _ (by omega)).mono ?_
  rintro e w1 ⟨o, g, rfl, hC, hb1, hO, hG⟩
  go_wp2_with fail
  go_loopw [28] (fun i wr => ∃ k : Nat, k ≤ n ∧ i = .int .i64 k ∧ ∃ L, Rel w o g wr L) (fun i _ => n - (intOf i).toNat)
  case atStart => exact ⟨0, Nat.zero_le _, rfl, _, hb1, hC, by simp⟩
  case round =>
    obtain ⟨k, hk, rfl, L, R⟩ := hrel
    by_cases hlt : k < n
    · obtain ⟨b, off, rfl, hbl, hc⟩ := (hA.below R.b).cell k hlt
      have c0 : wr.cell? ⟨b, off + k * 4, none⟩ = some (.int .i64 (F k 0)) := hc 0 (by omega)
      have c1' : wr.cell? ⟨b, off + k * 4 + 1, none⟩ = some (.int .i64 (F k 1)) := hc 1 (by omega)
      have c2 : wr.cell? ⟨b, off + k * 4 + 2, none⟩ = some (.int .u64 (F k 2)) := hc 2 (by omega)
      have c3 : wr.cell? ⟨b, off + k * 4 + 3, none⟩ = some (.int .u64 (F k 3)) := hc 3 (by omega)
      have hr := Lift.u64_range (hA.wf k 3 hlt (by omega))
      clear hc
      go_wp2_with fail
      refine (store_any _ _ _ _ _ _ (R.c.below (by (repeat (first | exact Below.refl _ _ | assumption | refine below_alloc2 ?_ (by first | exact Nat.le_refl _ | omega) _ | refine Below.drew ?_ | refine below_drewN ?_ _ | refine below_push2 ?_ ‹_› (by first | exact Nat.le_refl _ | omega) | refine Below.setCell ?_ (by first | (simp; done) | (simp; omega) | omega) _)))) hr.1 hr.2).mono ?_
      rintro e w2 ⟨rfl, hC2, hg2⟩
      have R2 := R.store (by (repeat (first | exact Below.refl _ _ | assumption | refine below_alloc2 ?_ (by first | exact Nat.le_refl _ | omega) _ | refine Below.drew ?_ | refine below_drewN ?_ _ | refine below_push2 ?_ ‹_› (by first | exact Nat.le_refl _ | omega) | refine Below.setCell ?_ (by first | (simp; done) | (simp; omega) | omega) _))) hC2 hg2 hG
      go_wp2_with fail
      go_roundw
      case rel => exact ⟨k + 1, by omega, by go_num, _, R2⟩
      case measure => simp [intOf]; omega
    · obtain rfl : k = n := by omega
      go_wp2_with fail
      refine (load_any _ _ _ _ _ R.c).mono ?_
      rintro e w2 ⟨rfl, hb2⟩
      have hin := inB3 R.l
      rw [hin]
      have hC2 := R.c.below hb2
      have hB2 := below_push2 R.b hb2 (Nat.le_refl _)
      have hv := load_rng R.c.rng 1
      clear hb2
      go_wp2_with fail
      go_loopw [47] (fun i wx => ∃ m : Nat, m ≤ words.length ∧ i = .int .i64 m ∧ Below w.heap.size w wx ∧ CellsAt wx o g (behind L words m)) (fun i _ => words.length - (intOf i).toNat)
      case atStart => exact ⟨0, Nat.zero_le _, rfl, hB2, hC2⟩
      case round =>
        obtain ⟨m, hm, rfl, hBx, hCx⟩ := hrel
        by_cases hmt : m < words.length
        · obtain ⟨b, off, rfl, hbl, hcx⟩ := (hU.below hBx).cell m hmt
          have hr := hU.rngD m
          by_cases hm0 : m = 0
          · subst hm0
            rw [Nat.add_zero] at hcx
            obtain ⟨h1, h2⟩ := first_word R.l words
            have h2 := Lib.hid h2
            go_wp2_with fail
            refine (cas_any o g _ 1 (loadV L 1) _ _ hCx hv.2.1 hv.2.2 hr.1 hr.2).mono ?_
            rintro e w3 ⟨rfl, hC3, hg3⟩
            rw [h2.out] at hC3
            rw [h1]
            go_wp2_with fail
            go_roundw
            case rel => exact ⟨1, by omega, by go_num, below_only hBx hg3 (Nat.le_refl _) hG, hC3⟩
            case measure => simp [intOf]; omega
          · obtain ⟨h1, h2⟩ := later_word R.l R.c.rng words m hm0 (at0 words m)
            have h2 := Lib.hid h2
            have hq : ((m : Int) == 0) = false := by simpa using hm0
            go_wp2_with fail
            refine (cas_any o g _ 1 (loadV L 1) _ _ hCx hv.2.1 hv.2.2 hr.1 hr.2).mono ?_
            rintro e w3 ⟨rfl, hC3, hg3⟩
            rw [h2.out] at hC3
            rw [h1]
            go_wp2_with fail
            go_roundw
            case rel => exact ⟨m + 1, by omega, by go_num, below_only hBx hg3 (Nat.le_refl _) hG, hC3⟩
            case measure => simp [intOf]; omega
        · obtain rfl : m = words.length := by omega
          have hin2 : inB (behind L words words.length).length 1 = true := inB3 (behind_length R.l _ _)
          go_wp2_with fail
          refine (load_any _ _ _ _ _ hCx).mono ?_
          rintro e w3 ⟨rfl, hb3⟩
          rw [hin2]
          have hB3 := below_push2 hBx hb3 (Nat.le_refl _)
          by_cases hw0 : words.length = 0
          · have e1 : behind L words words.length = L := by simp [behind, hw0]
            rw [e1, hw0]
            clear hin2 e1
            go_wp2_with fail
            refine (lives_any _).mono ?_
            rintro e w4 ⟨rfl, hb4⟩
            go_wp2_with fail
            go_ret
            exact ⟨rfl, below_push2 hB3 hb4 (Nat.le_refl _)⟩
          · obtain ⟨e1, e2⟩ := behind_load R.l words words.length hw0
            obtain ⟨b, off, rfl, hbl, hcx⟩ := (hU.below hB3).cell 0 (by omega)
            rw [Nat.add_zero] at hcx
            rw [e1, e2]
            have hq : ((words.length : Int) == 0) = false := by simpa using hw0
            have hn : IntKind.u64.wrap (loadV L 1 + 1) = nextV (loadV L 1) := IntKind.wrap_u64 _
            have hpos : 0 < words.length := by omega
            clear hw0
            go_wp2_with fail
            refine (lives_any _).mono ?_
            rintro e w4 ⟨rfl, hb4⟩
            go_wp2_with fail
            go_ret
            exact ⟨rfl, below_push2 hB3 hb4 (Nat.le_refl _)⟩

set_option maxRecDepth 100000 in
theorem contract (H : Type) (enc : TypeId × Value → H) (W : World) (base : Nat) (args : Array Value) (ds : List (DataW H)) (p : List MemPlace)
    (hval : ∀ (j : Nat) t v, Try.f4.params[j]? = some t → args[j]? = some v → Value.okWide Try.prog W .any base t v)
    (hA : DataW.TrodAll enc Try.prog W 0 (fun _ => true) true Try.f4.params.toList args.toList ds p) :
    Calls Try.prog 4 args W fun e W' => e = .returned (.bool true) ∧ Below W.heap.size W W' := by
  rw [Try.params4] at hA hval
  obtain ⟨v0, vs0, d0, ds0, p0, q0, hargs, rfl, rfl, h0, r0⟩ := trodAll_cons hA
  obtain ⟨v1, vs1, d1, ds1, p1, q1, rfl, rfl, rfl, h1, r1⟩ := trodAll_cons r0
  obtain ⟨rfl, rfl, rfl⟩ := trodAll_nil r1
  obtain rfl : args = #[v0, v1] := by cases args; simp_all
  obtain ⟨a, n, c, F, rfl, _, hN⟩ := Open.nums_of actK Try.underlying33 Try.underlying37 (by kernel_rfl) (by kernel_rfl) (by decide) (by
    intro j f hj
    rcases j with _ | _ | _ | _ | j
    · cases hj; exact Try.underlying3
    · cases hj; exact Try.underlying3
    · cases hj; exact Try.underlying23
    · cases hj; exact Try.underlying23
    · simp at hj) (hval 0 33 v0 rfl rfl) h0
  obtain ⟨a1, xs, c1, rfl, _, hU⟩ := Open.u64s Try.underlying22 Try.underlying23 (by kernel_rfl) (hval 1 22 v1 rfl rfl) h1
  exact walk a c n F a1 c1 xs W hN hU

/-! THE ROW's STEP -/
set_option maxRecDepth 100000 in
theorem lifted (os : Os) (started : os.Started) (H : Type) (enc : TypeId × Value → H) :
    ReturnsInHanded {} Try.checked os 4 .any (Rows.cellOnceSpec.pre6 enc Try.prog Try.f4 Rows.cellOnceRow.domain false) (Rows.cellOnceSpec.post enc Try.prog Try.f4 false true false false) := by
  refine returnsInHanded_of_change (C := Try.checked) Lift.own started (by kernel_rfl) Try.func4
    (ChangeSpec.witness6 (enc := enc) (C := Try.checked) false ⟨#[], #[.slice none 0 0, .slice none 0 0], []⟩ 8 (by kernel_rfl) (by kernel_rfl) (by kernel_rfl) (by kernel_rfl)) ?_
  intro W base args ds gs before hval0 hW hcnd _
  have hval : ∀ (j : Nat) t v, Try.f4.params[j]? = some t → args[j]? = some v → Value.okWide Try.prog W .any base t v := hval0
  have hW' := hW
  obtain ⟨p, q, hA0, hV, rfl, hfz, hnd⟩ := hW
  have hA : DataW.TrodAll enc Try.prog W 0 (fun _ => true) true Try.f4.params.toList args.toList ds p := hA0
  have hlen : ds.length = 2 := by
    have hl := Lift.trodAll_len _ _ _ _ hA
    rw [Try.params4] at hl
    simpa using hl
  have hall := fun W' (hb : Below W.heap.size W W') => Lift.trodAll_below Lift.laidOut hb Try.f4.params.toList args.toList ds p (by kernel_rfl) hA
  obtain ⟨rfl, rfl⟩ := trodVars_none hV
  refine (contract H enc W base args ds p hval hA).mono fun e W' ⟨he, bel⟩ => ?_
  subst he
  have hspec : (Rows.cellOnceSpec.fn H (ds ++ [])).results = [.lit (.bool true)] ∧ (Rows.cellOnceSpec.fn H (ds ++ [])).args = ds ∧ (Rows.cellOnceSpec.fn H (ds ++ [])).vars = [] := by
    match ds, hlen with
    | [d1, d2], _ => exact ⟨rfl, rfl, rfl⟩
  exact ⟨_, rfl, _, _, _, [], _, [], hW', by rw [hspec.1]; exact trodAll_mk1 (shut_bool Try.underlying4 _), by rw [hspec.2.1]; exact hall W' bel, by rw [hspec.2.2]; rfl, bel.frame _, fun h => by cases h⟩

theorem over : Rows.cellOnceRow.holds Try.pinned (OpenSpec.ofChange Rows.cellOnceSpec) :=
  OpenClaim.holds_of_wide 4 Try.f4 rfl rfl rfl rfl rfl rfl rfl ⟨rfl, rfl, rfl, rfl, rfl⟩ rfl rfl rfl rfl rfl (by kernel_rfl) Try.func4 (by kernel_rfl)
    (of_decide_eq_true (by kernel_rfl)) (by unfold Func.isWrapper; first | (rw [if_pos (by decide +kernel)]; kernel_rfl) | (rw [if_neg (by decide +kernel)]; exact ⟨rfl, rfl⟩))
    (fun os started H enc _ => lifted os started H enc)

theorem proved : Rows.CellOnceSaid := over
#print axioms proved
end Go.Proofs.Ytaeifmfghnolcaa.cellOnce
