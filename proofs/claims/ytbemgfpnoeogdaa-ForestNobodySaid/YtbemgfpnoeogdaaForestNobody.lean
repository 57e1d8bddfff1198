/-
  ForestNobody: a view that is nil, or that no call made, knows nothing, learns nothing, and is given up. For every known and number; no condition.
-/
import Derived.Test.YtbemgfpnoeogdaaLift
import Derived.Test.YtbemgfpnoeogdaaFDo
import Derived.Test.YtbemgfpnoeogdaaApiOpen
namespace Go.Proofs.Ytbemgfpnoeogdaa.forestNobody
open Go.ChangeShapes Go.WideShapes Go.ChangeAt Go.RowKit RefP FoP Dp
set_option linter.unusedVariables false
set_option linter.unusedSimpArgs false
theorem op_known : ∃ C : Cod (Int × Int × Int × NodeV × Unit), C.k = 11 ∧ Ox Try.prog 53 C :=
  ⟨_, by decide, ox_struct Try.underlying53 (by kernel_rfl) (ox_cons rfl (by kernel_rfl) op_i64 (ox_cons rfl (by kernel_rfl) op_u64 (ox_cons rfl (by kernel_rfl) op_u64 (ox_cons rfl (by kernel_rfl) op_node ox_nil))))⟩
theorem eleven (cs : Array Value) (h : cs.size = 11) : ∃ x0 x1 x2 x3 x4 x5 x6 x7 x8 x9 x10, cs = #[x0, x1, x2, x3, x4, x5, x6, x7, x8, x9, x10] := by
  obtain ⟨l⟩ := cs
  simp at h
  match l, h with
  | [x0, x1, x2, x3, x4, x5, x6, x7, x8, x9, x10], _ => exact ⟨x0, x1, x2, x3, x4, x5, x6, x7, x8, x9, x10, rfl⟩
abbrev ptrs (p q : Option Addr) : Array Value := #[.pointer p, .pointer q]
set_option maxRecDepth 100000 in
set_option maxHeartbeats 6400000 in
theorem walk (x0 x1 x2 x3 x4 x5 x6 x7 x8 x9 x10 : Value) (n : Int) (w : World) :
    Calls Try.prog 6 #[.agg #[x0, x1, x2, x3, x4, x5, x6, x7, x8, x9, x10], .int .i64 n] w fun e w' => e = .returned (.bool true) ∧ Below w.heap.size w w' := by
  have hb3 : Below w.heap.size w (((w.alloc (.cells #[x0, x1, x2, x3, x4, x5, x6, x7, x8, x9, x10] 53)).alloc (.cells (vwA none none 0 0 0 0) 88)).alloc (.cells (ptrs none (some ⟨w.heap.size + 1, 0, none⟩)) 32)) := by (repeat (first | exact Below.refl _ _ | assumption | refine below_alloc2 ?_ (by first | exact Nat.le_refl _ | omega) _ | refine Below.drew ?_ | refine below_drewN ?_ _ | refine below_push2 ?_ ‹_› (by first | exact Nat.le_refl _ | omega) | refine Below.setCell ?_ (by first | (simp; done) | (simp; omega) | omega) _))
  have BK : Blk (((w.alloc (.cells #[x0, x1, x2, x3, x4, x5, x6, x7, x8, x9, x10] 53)).alloc (.cells (vwA none none 0 0 0 0) 88)).alloc (.cells (ptrs none (some ⟨w.heap.size + 1, 0, none⟩)) 32)) w.heap.size #[x0, x1, x2, x3, x4, x5, x6, x7, x8, x9, x10] 53 := ((Blk.new w #[x0, x1, x2, x3, x4, x5, x6, x7, x8, x9, x10] 53).alloc _).alloc _
  have BV : Blk (((w.alloc (.cells #[x0, x1, x2, x3, x4, x5, x6, x7, x8, x9, x10] 53)).alloc (.cells (vwA none none 0 0 0 0) 88)).alloc (.cells (ptrs none (some ⟨w.heap.size + 1, 0, none⟩)) 32)) (w.heap.size + 1) (vwA none none 0 0 0 0) 88 := by
    have := (Blk.new (w.alloc (.cells #[x0, x1, x2, x3, x4, x5, x6, x7, x8, x9, x10] 53)) (vwA none none 0 0 0 0) 88).alloc (.cells (ptrs none (some ⟨w.heap.size + 1, 0, none⟩)) 32)
    simpa using this
  have BL : Blk (((w.alloc (.cells #[x0, x1, x2, x3, x4, x5, x6, x7, x8, x9, x10] 53)).alloc (.cells (vwA none none 0 0 0 0) 88)).alloc (.cells (ptrs none (some ⟨w.heap.size + 1, 0, none⟩)) 32)) (w.heap.size + 1 + 1) (ptrs none (some ⟨w.heap.size + 1, 0, none⟩)) 32 := by
    have := Blk.new ((w.alloc (.cells #[x0, x1, x2, x3, x4, x5, x6, x7, x8, x9, x10] 53)).alloc (.cells (vwA none none 0 0 0 0) 88)) (ptrs none (some ⟨w.heap.size + 1, 0, none⟩)) 32
    simpa using this
  go_enter Try.func6, Try.ntmps6
  go_wp2_with fail
  generalize (((w.alloc (.cells #[x0, x1, x2, x3, x4, x5, x6, x7, x8, x9, x10] 53)).alloc (.cells (vwA none none 0 0 0 0) 88)).alloc (.cells (ptrs none (some ⟨w.heap.size + 1, 0, none⟩)) 32)) = w3 at hb3 BK BV BL ⊢
  go_loopw [15] (fun i wr => ∃ k : Nat, k ≤ 2 ∧ i = .int .i64 k ∧ Below w.heap.size w wr ∧ Blk wr w.heap.size #[x0, x1, x2, x3, x4, x5, x6, x7, x8, x9, x10] 53 ∧ Blk wr (w.heap.size + 1) (vwA none none 0 0 0 0) 88 ∧ Blk wr (w.heap.size + 1 + 1) (ptrs none (some ⟨(w.heap.size + 1), 0, none⟩)) 32) (fun i _ => 2 - (intOf i).toNat)
  case atStart => exact ⟨0, Nat.zero_le _, rfl, hb3, BK, BV, BL⟩
  case round =>
    clear hb3 BL BV BK
    obtain ⟨k, hk, rfl, hB, BK, BV, BL⟩ := hrel
    by_cases hlt : k < 2
    · obtain ⟨p, hp, NP⟩ : ∃ p, wr.cell? ⟨(w.heap.size + 1 + 1), k, none⟩ = some p ∧ NoV wr p := by
        have h3 : k = 0 ∨ k = 1 := by omega
        rcases h3 with e | e <;> subst e
        · exact ⟨_, BL.at 0 rfl, .inl rfl⟩
        · exact ⟨_, BL.at 1 rfl, .inr ⟨_, rfl, BV⟩⟩
      have hlt' : (k : Int) < 2 := by omega
      go_wp2_with fail
      refine (giveup_no _ p NP).mono ?_
      rintro e w4 ⟨rfl, rfl⟩
      go_wp2_with fail
      refine (again_no _ p NP).mono ?_
      rintro e w5 ⟨rfl, rfl⟩
      go_wp2_with fail
      refine (at_no _ p n NP).mono ?_
      rintro e w6 ⟨rfl, hb6⟩
      have hb7 := hb6.alloc (by have h5 := hb6.size; omega) (.cells kz 53)
      go_wp2_with fail
      generalize w6.alloc (.cells kz 53) = w7 at hb7 ⊢
      refine (take_no _ p n (NP.below hb7)).mono ?_
      rintro e w8 ⟨rfl, hb8⟩
      have hb9 := (below_push2 hb7 hb8 (Nat.le_refl _)).alloc (by have h5 := hb7.size; have h6 := hb8.size; omega) (.cells sz 60)
      clear hb6 hb7 hb8
      have BK9 := BK.below hb9
      have NP9 := NP.below hb9
      generalize hW : w8.alloc (.cells sz 60) = w9 at hb9 BK9 NP9
      replace hW := Lib.hid hW
      have y0 := BK9.at 0 rfl
      have y1 := BK9.at 1 rfl
      have y2 := BK9.at 2 rfl
      have y3 := BK9.at 3 rfl
      have y4 := BK9.at 4 rfl
      have y5 := BK9.at 5 rfl
      have y6 := BK9.at 6 rfl
      have y7 := BK9.at 7 rfl
      have y8 := BK9.at 8 rfl
      have y9 := BK9.at 9 rfl
      have y10 := BK9.at 10 rfl
      go_wp2_with (first
        | (refine wpList_store_row rfl 60 _ _ rfl _ _ rfl rfl 60 _ (Blk.new w8 _ _).h (by kernel_rfl) (by rfl) (by kernel_rfl) ?_; rw [World.setRow_alloc_new, hW.out]))
      clear hW y0 y1 y2 y3 y4 y5 y6 y7 y8 y9 y10
      refine (learn_no _ p #[x0, x1, x2, x3, x4, x5, x6, x7, x8, x9, x10] NP9).mono ?_
      rintro e w10 ⟨rfl, hb10⟩
      go_wp2_with fail
      refine (spare_no _ p _ (NP9.below hb10)).mono ?_
      rintro e w11 ⟨rfl, hb11⟩
      have hb12 := below_push2 hb9 (below_push2 hb10 hb11 (Nat.le_refl _)) (Nat.le_refl _)
      have NP12 := NP.below hb12
      clear NP9 hb9 hb10 hb11
      go_wp2_with fail
      refine (forget_no _ p n NP12).mono ?_
      rintro e w12 ⟨rfl, rfl⟩
      go_wp2_with fail
      refine (cells_no _ p NP12).mono ?_
      rintro e w12 ⟨rfl, rfl⟩
      go_wp2_with fail
      refine (spares_no _ p NP12).mono ?_
      rintro e w12 ⟨rfl, rfl⟩
      go_wp2_with fail
      refine (need_no _ p NP12).mono ?_
      rintro e w12 ⟨rfl, hb13⟩
      have hbt := below_push2 hb12 hb13 (Nat.le_refl _)
      go_wp2_with fail
      go_roundw
      case rel => exact ⟨k + 1, by omega, by go_num, below_push2 hB hbt (Nat.le_refl _), BK.below hbt, BV.below hbt, BL.below hbt⟩
      case measure => simp [intOf]; omega
    · obtain rfl : k = 2 := by omega
      go_wp2_with fail
      refine (fLives_any _).mono ?_
      rintro e w5 ⟨rfl, hb5⟩
      go_wp2_with fail
      go_ret
      exact ⟨rfl, below_push2 hB hb5 (Nat.le_refl _)⟩

set_option maxRecDepth 100000 in
theorem contract (H : Type) (enc : TypeId × Value → H) (W : World) (base : Nat) (args : Array Value) (ds : List (DataW H)) (p : List MemPlace)
    (hval : ∀ (j : Nat) t v, Try.f6.params[j]? = some t → args[j]? = some v → Value.okWide Try.prog W .any base t v)
    (hA : DataW.TrodAll enc Try.prog W 0 (fun _ => true) true Try.f6.params.toList args.toList ds p) :
    Calls Try.prog 6 args W fun e W' => e = .returned (.bool true) ∧ Below W.heap.size W W' := by
  rw [Try.params6] at hA hval
  obtain ⟨v0, vs0, d0, ds0, p0, q0, hargs, rfl, rfl, h0, r0⟩ := trodAll_cons hA
  obtain ⟨v1, vs1, d1, ds1, p1, q1, rfl, rfl, rfl, h1, r1⟩ := trodAll_cons r0
  obtain ⟨rfl, rfl, rfl⟩ := trodAll_nil r1
  obtain rfl : args = #[v0, v1] := by cases args; simp_all
  obtain ⟨C, hC, hop⟩ := op_known
  obtain ⟨cs, x, rfl, hx⟩ := opens_agg (ox_opens hop) Try.underlying53 (hval 0 53 v0 rfl rfl) h0
  obtain ⟨a1, rfl, w1⟩ := Lift.int_of Try.underlying3 (hval 1 3 v1 rfl rfl) h1
  obtain ⟨x0, x1, x2, x3, x4, x5, x6, x7, x8, x9, x10, rfl⟩ := eleven cs (by have := C.len hx; simpa [hC] using this)
  exact walk x0 x1 x2 x3 x4 x5 x6 x7 x8 x9 x10 a1 W

/-! THE ROW's STEP -/
set_option maxRecDepth 100000 in
theorem lifted (os : Os) (started : os.Started) (H : Type) (enc : TypeId × Value → H) :
    ReturnsInHanded {} Try.checked os 6 .any (Rows.forestNobodySpec.pre6 enc Try.prog Try.f6 Rows.forestNobodyRow.domain false) (Rows.forestNobodySpec.post enc Try.prog Try.f6 false true false false) := by
  refine returnsInHanded_of_change (C := Try.checked) Lift.own started (by kernel_rfl) Try.func6
    (ChangeSpec.witness6 (enc := enc) (C := Try.checked) false ⟨#[], #[.agg #[.int .i64 0, .int .u64 0, .int .u64 0, .int .i64 0, .string ⟨#[]⟩, .string ⟨#[]⟩, .bool false, .int .i64 0, .slice none 0 0, .slice none 0 0, .slice none 0 0], .int .i64 0], []⟩ 8 (by kernel_rfl) (by kernel_rfl) (by kernel_rfl) (by kernel_rfl)) ?_
  intro W base args ds gs before hval0 hW hcnd _
  have hval : ∀ (j : Nat) t v, Try.f6.params[j]? = some t → args[j]? = some v → Value.okWide Try.prog W .any base t v := hval0
  have hW' := hW
  obtain ⟨p, q, hA0, hV, rfl, hfz, hnd⟩ := hW
  have hA : DataW.TrodAll enc Try.prog W 0 (fun _ => true) true Try.f6.params.toList args.toList ds p := hA0
  have hlen : ds.length = 2 := by
    have hl := Lift.trodAll_len _ _ _ _ hA
    rw [Try.params6] at hl
    simpa using hl
  have hall := fun W' (hb : Below W.heap.size W W') => Lift.trodAll_below Lift.laidOut hb Try.f6.params.toList args.toList ds p (by kernel_rfl) hA
  obtain ⟨rfl, rfl⟩ := trodVars_none hV
  refine (contract H enc W base args ds p hval hA).mono fun e W' ⟨he, bel⟩ => ?_
  subst he
  have hspec : (Rows.forestNobodySpec.fn H (ds ++ [])).results = [.lit (.bool true)] ∧ (Rows.forestNobodySpec.fn H (ds ++ [])).args = ds ∧ (Rows.forestNobodySpec.fn H (ds ++ [])).vars = [] := by
    match ds, hlen with
    | [d1, d2], _ => exact ⟨rfl, rfl, rfl⟩
  exact ⟨_, rfl, _, _, _, [], _, [], hW', by rw [hspec.1]; exact trodAll_mk1 (shut_bool Try.underlying4 _), by rw [hspec.2.1]; exact hall W' bel, by rw [hspec.2.2]; rfl, bel.frame _, fun h => by cases h⟩

theorem over : Rows.forestNobodyRow.holds Try.pinned (OpenSpec.ofChange Rows.forestNobodySpec) :=
  OpenClaim.holds_of_wide 6 Try.f6 rfl rfl rfl rfl rfl rfl rfl ⟨rfl, rfl, rfl, rfl, rfl⟩ rfl rfl rfl rfl rfl (by kernel_rfl) Try.func6 (by kernel_rfl)
    (of_decide_eq_true (by kernel_rfl)) (by unfold Func.isWrapper; first | (rw [if_pos (by decide +kernel)]; kernel_rfl) | (rw [if_neg (by decide +kernel)]; exact ⟨rfl, rfl⟩))
    (fun os started H enc _ => lifted os started H enc)

theorem proved : Rows.ForestNobodySaid := over
#print axioms proved
end Go.Proofs.Ytbemgfpnoeogdaa.forestNobody
