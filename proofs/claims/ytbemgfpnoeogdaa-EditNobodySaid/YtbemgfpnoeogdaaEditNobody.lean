/-
  EditNobody: an edit that is nil, or that no call made, or of no view, does nothing. For every act; no condition.
-/
import Derived.Test.YtbemgfpnoeogdaaLift
import Derived.Test.YtbemgfpnoeogdaaEdN
namespace Go.Proofs.Ytbemgfpnoeogdaa.editNobody
open Go.ChangeShapes Go.WideShapes Go.ChangeAt Go.RowKit RefP FoP Dp EdP
set_option linter.unusedVariables false
set_option linter.unusedSimpArgs false
set_option maxRecDepth 100000 in
set_option maxHeartbeats 6400000 in
theorem walk (kd n : Int) (q : NodeH) (x : NodeV) (b : Bool) (w : World) (hn : NodeOk w [] q x) : Calls Try.prog 3 #[.agg (eactA kd n q x b)] w fun e w' => e = .returned (.bool true) ∧ Below w.heap.size w w' := by
  have hb1 : Below w.heap.size w (w.alloc (.cells (eactA kd n q x b) 28)) := by (repeat (first | exact Below.refl _ _ | assumption | refine below_alloc2 ?_ (by first | exact Nat.le_refl _ | omega) _ | refine Below.drew ?_ | refine below_drewN ?_ _ | refine below_push2 ?_ ‹_› (by first | exact Nat.le_refl _ | omega) | refine Below.setCell ?_ (by first | (simp; done) | (simp; omega) | omega) _))
  have BX := Blk.new w (eactA kd n q x b) 28
  obtain ⟨X, hX⟩ : ∃ b, b = w.heap.size := ⟨_, rfl⟩
  go_enter Try.func3, Try.ntmps3
  go_upto_region 1 with (fail)
  rw [← hX] at BX ⊢
  replace hX := Lib.hid hX
  generalize w.alloc (.cells (eactA kd n q x b) 28) = w1 at hb1 BX ⊢
  go_wp2_with (refine wpList_load_mid rfl 26 _ rfl X 2 rfl (nodeA q x).toList _ (eact_node BX) Try.underlying26 rfl (by kernel_rfl) ?_)
  refine (light10_any _ q x w1 (hn.keep (Keeps.of_below hb1))).mono ?_
  rintro e w2 ⟨rfl, hb2⟩
  have hB2 := below_push2 hb1 hb2 (Nat.le_refl _)
  replace BX := BX.below hb2
  cases hl : lightN x
  · go_wp2_with fail
    refine (lives21_any _).mono ?_
    rintro e w5 ⟨rfl, hb5⟩
    go_wp2_with fail
    go_ret
    exact ⟨rfl, below_push2 hB2 hb5 (Nat.le_refl _)⟩
  · clear hl
    go_wp2_with fail
    refine (ebegin_any none _).mono ?_
    rintro e w3 ⟨rfl, rfl⟩
    go_wp2_with fail
    have hbA : Below w2.heap.size w2 (((w2.alloc (.cells #[.pointer none, .slice none 0 0, .slice none 0 0] 36)).alloc (.cells #[.pointer none, .slice none 0 0, .slice none 0 0] 36)).alloc (.cells #[.pointer none, .pointer (some ⟨w2.heap.size, 0, none⟩), .pointer (some ⟨w2.heap.size + 1, 0, none⟩)] 31)) := by (repeat (first | exact Below.refl _ _ | assumption | refine below_alloc2 ?_ (by first | exact Nat.le_refl _ | omega) _ | refine Below.drew ?_ | refine below_drewN ?_ _ | refine below_push2 ?_ ‹_› (by first | exact Nat.le_refl _ | omega) | refine Below.setCell ?_ (by first | (simp; done) | (simp; omega) | omega) _))
    have B1 := ((Blk.new w2 #[.pointer none, .slice none 0 0, .slice none 0 0] 36).alloc (.cells #[.pointer none, .slice none 0 0, .slice none 0 0] 36)).alloc (.cells #[.pointer none, .pointer (some ⟨w2.heap.size, 0, none⟩), .pointer (some ⟨w2.heap.size + 1, 0, none⟩)] 31)
    have B2 := (Blk.new (w2.alloc (.cells #[.pointer none, .slice none 0 0, .slice none 0 0] 36)) #[.pointer none, .slice none 0 0, .slice none 0 0] 36).alloc (.cells #[.pointer none, .pointer (some ⟨w2.heap.size, 0, none⟩), .pointer (some ⟨w2.heap.size + 1, 0, none⟩)] 31)
    have BL := Blk.new ((w2.alloc (.cells #[.pointer none, .slice none 0 0, .slice none 0 0] 36)).alloc (.cells #[.pointer none, .slice none 0 0, .slice none 0 0] 36)) #[.pointer none, .pointer (some ⟨w2.heap.size, 0, none⟩), .pointer (some ⟨w2.heap.size + 1, 0, none⟩)] 31
    simp only [World.size_alloc] at B2 BL
    have hB3 := below_push2 hB2 hbA (Nat.le_refl _)
    have BX3 := BX.below hbA
    generalize ((w2.alloc (.cells #[.pointer none, .slice none 0 0, .slice none 0 0] 36)).alloc (.cells #[.pointer none, .slice none 0 0, .slice none 0 0] 36)).alloc (.cells #[.pointer none, .pointer (some ⟨w2.heap.size, 0, none⟩), .pointer (some ⟨w2.heap.size + 1, 0, none⟩)] 31) = w5 at B1 B2 BL hB3 BX3 ⊢
    generalize w2.heap.size = E1 at B1 B2 BL ⊢
    clear BX hbA
    go_loopg [19] 3 (fun gg i wr => ∃ k : Nat, k ≤ 3 ∧ 3 ≤ k + gg ∧ i = .int .i64 k ∧ Below w5.heap.size w5 wr)
    case atStart => exact ⟨0, Nat.zero_le _, by omega, rfl, Below.refl _ _⟩
    case round =>
      obtain ⟨k, hk, hkg, rfl, hbr⟩ := hrel
      have hBr := below_push2 hB3 hbr (Nat.le_refl _)
      by_cases hlt : k < 3
      · have hlt' : (k : Int) < 3 := by omega
        have BLr := BL.below hbr
        obtain ⟨p, hp, N⟩ : ∃ p, wr.cell? ⟨E1 + 1 + 1, k, none⟩ = some (.pointer p) ∧ NoE wr (.pointer p) := by
          have hk3 : k = 0 ∨ k = 1 ∨ k = 2 := by omega
          rcases hk3 with rfl | rfl | rfl
          · exact ⟨_, BLr.at 0 rfl, .inl rfl⟩
          · exact ⟨_, BLr.at 1 rfl, .inr ⟨_, rfl, B1.below hbr⟩⟩
          · exact ⟨_, BLr.at 2 rfl, .inr ⟨_, rfl, B2.below hbr⟩⟩
        have BXr := BX3.below hbr
        have x1 := BXr.at 1 rfl
        go_wp2_with fail
        refine (eat_no wr _ N n).mono ?_
        rintro e w6 ⟨rfl, hb6⟩
        have hbx : Below w6.heap.size w6 (w6.alloc (.cells nd0 26)) := by (repeat (first | exact Below.refl _ _ | assumption | refine below_alloc2 ?_ (by first | exact Nat.le_refl _ | omega) _ | refine Below.drew ?_ | refine below_drewN ?_ _ | refine below_push2 ?_ ‹_› (by first | exact Nat.le_refl _ | omega) | refine Below.setCell ?_ (by first | (simp; done) | (simp; omega) | omega) _))
        go_upto_region 7 with (refine wpList_store_row rfl 26 _ _ rfl _ _ rfl rfl 26 _ (Blk.new w6 _ _).h (by kernel_rfl) (by rfl) (by kernel_rfl) ?_; rw [World.setRow_alloc_new])
        have hb7 := below_push2 hb6 hbx (Nat.le_refl _)
        generalize w6.alloc (.cells nd0 26) = w7 at hb7 ⊢
        go_wp2_with fail
        refine (espare_no w7 _ (N.under hb7)).mono ?_
        rintro e w8 ⟨rfl, rfl⟩
        have BX8 := BXr.below hb7
        have x1' := BX8.at 1 rfl
        have x10 := BX8.at 10 rfl
        go_wp2_with (first
          | (refine wpList_load_mid rfl 26 _ rfl X 2 rfl (nodeA q x).toList _ (eact_node BX8) Try.underlying26 rfl (by kernel_rfl) ?_)
          | (refine wpList_load_midw (by rfl) 26 _ rfl X 2 rfl (nodeA q x).toList _ (eact_node BX8) Try.underlying26 rfl (by kernel_rfl) ?_))
        refine (set_no w8 _ (N.under hb7) n q x b).mono ?_
        rintro e w9 ⟨rfl, hb9⟩
        have hb19 := below_push2 hb7 hb9 (Nat.le_refl _)
        have x1'' := (BXr.below hb19).at 1 rfl
        go_wp2_with fail
        refine (clear_no w9 _ (N.under hb19) n).mono ?_
        rintro e w10 ⟨rfl, hb10⟩
        have hb110 := below_push2 hb19 hb10 (Nat.le_refl _)
        go_wp2_with fail
        refine (changes_no w10 _ (N.under hb110)).mono ?_
        rintro e w11 ⟨rfl, rfl⟩
        go_wp2_with fail
        refine (view_no w11 _ (N.under hb110)).mono ?_
        rintro e w12 ⟨rfl, rfl⟩
        go_wp2_with fail
        go_roundg (3 - (k + 1))
        case measure => omega
        case rel => exact ⟨k + 1, by omega, by omega, by go_num, below_push2 hbr hb110 (Nat.le_refl _)⟩
      · obtain rfl : k = 3 := by omega
        go_wp2_with fail
        refine (lives21_any _).mono ?_
        rintro e w6 ⟨rfl, hb6⟩
        go_wp2_with fail
        go_ret
        exact ⟨rfl, below_push2 hBr hb6 (Nat.le_refl _)⟩

set_option maxRecDepth 100000 in
theorem contract (H : Type) (enc : TypeId × Value → H) (W : World) (base : Nat) (args : Array Value) (ds : List (DataW H)) (p : List MemPlace)
    (hval : ∀ (j : Nat) t v, Try.f3.params[j]? = some t → args[j]? = some v → Value.okWide Try.prog W .any base t v)
    (hA : DataW.TrodAll enc Try.prog W 0 (fun _ => true) true Try.f3.params.toList args.toList ds p) :
    Calls Try.prog 3 args W fun e W' => e = .returned (.bool true) ∧ Below W.heap.size W W' := by
  rw [Try.params3] at hA hval
  obtain ⟨v0, vs0, d0, ds0, p0, q0, hargs, rfl, rfl, h0, r0⟩ := trodAll_cons hA
  obtain ⟨rfl, rfl, rfl⟩ := trodAll_nil r0
  obtain rfl : args = #[v0] := by cases args; simp_all
  obtain ⟨cs, x, rfl, hx⟩ := opens_agg (ox_opens op_eact) Try.underlying28 (hval 0 28 v0 rfl rfl) h0
  obtain ⟨q, hcs, _, _, hok⟩ := eact_of hx
  obtain rfl : cs = eactA x.1 x.2.1 q x.2.2.1 x.2.2.2.1 := Array.ext' (by rw [hcs])
  exact walk _ _ q x.2.2.1 _ W hok

/-! THE ROW's STEP -/
set_option maxRecDepth 100000 in
theorem lifted (os : Os) (started : os.Started) (H : Type) (enc : TypeId × Value → H) :
    ReturnsInHanded {} Try.checked os 3 .any (Rows.editNobodySpec.pre6 enc Try.prog Try.f3 Rows.editNobodyRow.domain false) (Rows.editNobodySpec.post enc Try.prog Try.f3 false true false false) := by
  refine returnsInHanded_of_change (C := Try.checked) Lift.own started (by kernel_rfl) Try.func3
    (ChangeSpec.witness6 (enc := enc) (C := Try.checked) false ⟨#[], #[.agg #[.int .i64 0, .int .i64 0, .int .i64 0, .string ⟨#[]⟩, .string ⟨#[]⟩, .bool false, .int .i64 0, .slice none 0 0, .slice none 0 0, .slice none 0 0, .bool false]], []⟩ 8 (by kernel_rfl) (by kernel_rfl) (by kernel_rfl) (by kernel_rfl)) ?_
  intro W base args ds gs before hval0 hW hcnd _
  have hval : ∀ (j : Nat) t v, Try.f3.params[j]? = some t → args[j]? = some v → Value.okWide Try.prog W .any base t v := hval0
  have hW' := hW
  obtain ⟨p, q, hA0, hV, rfl, hfz, hnd⟩ := hW
  have hA : DataW.TrodAll enc Try.prog W 0 (fun _ => true) true Try.f3.params.toList args.toList ds p := hA0
  have hlen : ds.length = 1 := by
    have hl := Lift.trodAll_len _ _ _ _ hA
    rw [Try.params3] at hl
    simpa using hl
  have hall := fun W' (hb : Below W.heap.size W W') => Lift.trodAll_below Lift.laidOut hb Try.f3.params.toList args.toList ds p (by kernel_rfl) hA
  obtain ⟨rfl, rfl⟩ := trodVars_none hV
  refine (contract H enc W base args ds p hval hA).mono fun e W' ⟨he, bel⟩ => ?_
  subst he
  have hspec : (Rows.editNobodySpec.fn H (ds ++ [])).results = [.lit (.bool true)] ∧ (Rows.editNobodySpec.fn H (ds ++ [])).args = ds ∧ (Rows.editNobodySpec.fn H (ds ++ [])).vars = [] := by
    match ds, hlen with
    | [d1], _ => exact ⟨rfl, rfl, rfl⟩
  exact ⟨_, rfl, _, _, _, [], _, [], hW', by rw [hspec.1]; exact trodAll_mk1 (shut_bool Try.underlying4 _), by rw [hspec.2.1]; exact hall W' bel, by rw [hspec.2.2]; rfl, bel.frame _, fun h => by cases h⟩

theorem over : Rows.editNobodyRow.holds Try.pinned (OpenSpec.ofChange Rows.editNobodySpec) :=
  OpenClaim.holds_of_wide 3 Try.f3 rfl rfl rfl rfl rfl rfl rfl ⟨rfl, rfl, rfl, rfl, rfl⟩ rfl rfl rfl rfl rfl (by kernel_rfl) Try.func3 (by kernel_rfl)
    (of_decide_eq_true (by kernel_rfl)) (by unfold Func.isWrapper; first | (rw [if_pos (by decide +kernel)]; kernel_rfl) | (rw [if_neg (by decide +kernel)]; exact ⟨rfl, rfl⟩))
    (fun os started H enc _ => lifted os started H enc)

theorem proved : Rows.EditNobodySaid := over
#print axioms proved
end Go.Proofs.Ytbemgfpnoeogdaa.editNobody
