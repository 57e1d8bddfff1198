/-
  ReadNobody: a task of reading that is none, or of no memory, reads nothing. For every thread and node; no condition.
-/
import Derived.Test.YtpmlbdnhgeeaoaaLift
import Derived.Test.YtpmlbdnhgeeaoaaReadL
import Derived.Test.YtpmlbdnhgeeaoaaRecs
namespace Go.Proofs.Ytpmlbdnhgeeaoaa.readNobody
open Go.ChangeShapes Go.WideShapes Go.ChangeAt Go.RowKit RefP CellP MemP
set_option linter.unusedVariables false
set_option linter.unusedSimpArgs false
abbrev ptrs (p q r : Option Addr) : Array Value := #[.pointer p, .pointer q, .pointer r]
set_option maxRecDepth 100000 in
set_option maxHeartbeats 6400000 in
theorem walk (th nd : Int) (w : World) :
    Calls Try.prog 9 #[.int .i64 th, .int .i64 nd] w fun e w' => e = .returned (.bool true) ∧ Below w.heap.size w w' := by
  have hB1 : Below w.heap.size w (w.alloc (.cells (rdA none 0 0 0 false 0 0 0 (.int .i64 0) (.string ⟨#[]⟩) (.string ⟨#[]⟩) (.bool false) (.int .i64 0) (.slice none 0 0) (.slice none 0 0) (.slice none 0 0)) 95)) := by (repeat (first | exact Below.refl _ _ | assumption | refine below_alloc2 ?_ (by first | exact Nat.le_refl _ | omega) _ | refine Below.drew ?_ | refine below_drewN ?_ _ | refine below_push2 ?_ ‹_› (by first | exact Nat.le_refl _ | omega) | refine Below.setCell ?_ (by first | (simp; done) | (simp; omega) | omega) _))
  have BT := Blk.new w (rdA none 0 0 0 false 0 0 0 (.int .i64 0) (.string ⟨#[]⟩) (.string ⟨#[]⟩) (.bool false) (.int .i64 0) (.slice none 0 0) (.slice none 0 0) (.slice none 0 0)) 95
  go_enter Try.func9, Try.ntmps9
  go_wp2_with fail
  generalize w.alloc (.cells (rdA none 0 0 0 false 0 0 0 (.int .i64 0) (.string ⟨#[]⟩) (.string ⟨#[]⟩) (.bool false) (.int .i64 0) (.slice none 0 0) (.slice none 0 0) (.slice none 0 0)) 95) = w1 at hB1 BT ⊢
  refine (rdNew_any none th nd _).mono ?_
  rintro e w2 ⟨rfl, rfl⟩
  have BN := Blk.new w1 (rdA none th 0 0 false nd 0 0 (.int .i64 0) (.string ⟨#[]⟩) (.string ⟨#[]⟩) (.bool false) (.int .i64 0) (.slice none 0 0) (.slice none 0 0) (.slice none 0 0)) 95
  have hB2 := below_alloc2 hB1 (Nat.le_refl _) (.cells (rdA none th 0 0 false nd 0 0 (.int .i64 0) (.string ⟨#[]⟩) (.string ⟨#[]⟩) (.bool false) (.int .i64 0) (.slice none 0 0) (.slice none 0 0) (.slice none 0 0)) 95)
  replace BT := BT.alloc (.cells (rdA none th 0 0 false nd 0 0 (.int .i64 0) (.string ⟨#[]⟩) (.string ⟨#[]⟩) (.bool false) (.int .i64 0) (.slice none 0 0) (.slice none 0 0) (.slice none 0 0)) 95)
  generalize w1.alloc (.cells (rdA none th 0 0 false nd 0 0 (.int .i64 0) (.string ⟨#[]⟩) (.string ⟨#[]⟩) (.bool false) (.int .i64 0) (.slice none 0 0) (.slice none 0 0) (.slice none 0 0)) 95) = w2 at BN hB2 BT ⊢
  have BL := Blk.new w2 (ptrs none (some ⟨w.heap.size, 0, none⟩) (some ⟨w1.heap.size, 0, none⟩)) 78
  have hB3 := below_alloc2 hB2 (Nat.le_refl _) (.cells (ptrs none (some ⟨w.heap.size, 0, none⟩) (some ⟨w1.heap.size, 0, none⟩)) 78)
  replace BN := BN.alloc (.cells (ptrs none (some ⟨w.heap.size, 0, none⟩) (some ⟨w1.heap.size, 0, none⟩)) 78)
  replace BT := BT.alloc (.cells (ptrs none (some ⟨w.heap.size, 0, none⟩) (some ⟨w1.heap.size, 0, none⟩)) 78)
  clear hB1 hB2
  go_wp2_with fail
  generalize w2.alloc (.cells (ptrs none (some ⟨w.heap.size, 0, none⟩) (some ⟨w1.heap.size, 0, none⟩)) 78) = w3 at BL hB3 BN BT ⊢
  have N1 : NoRd w3 (some ⟨w.heap.size, 0, none⟩) := .inr ⟨_, _, _, rfl, BT⟩
  have N2 : NoRd w3 (some ⟨w1.heap.size, 0, none⟩) := .inr ⟨_, _, _, rfl, BN⟩
  clear BN BT
  go_loopw [17] (fun i wr => ∃ k : Nat, k ≤ 3 ∧ i = .int .i64 k ∧ Below w.heap.size w wr ∧ Blk wr w2.heap.size (ptrs none (some ⟨w.heap.size, 0, none⟩) (some ⟨w1.heap.size, 0, none⟩)) 78 ∧ NoRd wr (some ⟨w.heap.size, 0, none⟩) ∧ NoRd wr (some ⟨w1.heap.size, 0, none⟩)) (fun i _ => 3 - (intOf i).toNat)
  case atStart => exact ⟨0, Nat.zero_le _, rfl, hB3, BL, N1, N2⟩
  case round =>
    clear hB3 BL N1 N2
    obtain ⟨k, hk, rfl, hB, BL, N1, N2⟩ := hrel
    by_cases hlt : k < 3
    · obtain ⟨p, hp, NP⟩ : ∃ p, wr.cell? ⟨w2.heap.size, k, none⟩ = some (.pointer p) ∧ NoRd wr p := by
        have h3 : k = 0 ∨ k = 1 ∨ k = 2 := by omega
        rcases h3 with e | e | e <;> subst e
        · exact ⟨none, BL.at 0 rfl, .inl rfl⟩
        · exact ⟨_, BL.at 1 rfl, N1⟩
        · exact ⟨_, BL.at 2 rfl, N2⟩
      have hlt' : (k : Int) < 3 := by omega
      go_wp2_with fail
      refine (rdTell_none p _ NP).mono ?_
      rintro e w5 ⟨rfl, hb5⟩
      go_wp2_with fail
      refine (rdNext_none p _ (NP.below hb5)).mono ?_
      rintro e w6 ⟨rfl, hb6⟩
      have hb7 := ((below_push2 hb5 hb6 (Nat.le_refl _))).alloc (by have h5 := hb5.size; have h6 := hb6.size; omega) (.cells (accY 0 0 0 0) 39)
      generalize hW : w6.alloc (.cells (accY 0 0 0 0) 39) = w7 at hb7
      replace hW := Lib.hid hW
      clear hb5 hb6
      go_wp2_with (refine wpList_store_row rfl 39 _ _ rfl _ _ rfl rfl 39 _ (Blk.new w6 _ _).h (by kernel_rfl) (by rfl) (by kernel_rfl) ?_; rw [World.setRow_alloc_new, hW.out])
      clear hW
      refine (rdKnown_none p _ (NP.below hb7)).mono ?_
      rintro e w8 ⟨rfl, hb8⟩
      have hb9 := ((below_push2 hb7 hb8 (Nat.le_refl _))).alloc (by have h5 := hb7.size; have h6 := hb8.size; omega) (.cells (knA 0 0 0 (.int .i64 0) (.string ⟨#[]⟩) (.string ⟨#[]⟩) (.bool false) (.int .i64 0) (.slice none 0 0) (.slice none 0 0) (.slice none 0 0)) 83)
      generalize hW : w8.alloc (.cells (knA 0 0 0 (.int .i64 0) (.string ⟨#[]⟩) (.string ⟨#[]⟩) (.bool false) (.int .i64 0) (.slice none 0 0) (.slice none 0 0) (.slice none 0 0)) 83) = w9 at hb9
      replace hW := Lib.hid hW
      clear hb7 hb8
      go_wp2_with (refine wpList_store_row rfl 83 _ _ rfl _ _ rfl rfl 83 _ (Blk.new w8 _ _).h (by kernel_rfl) (by rfl) (by kernel_rfl) ?_; rw [World.setRow_alloc_new, hW.out])
      clear hW
      refine (rdSure_none p _ (NP.below hb9)).mono ?_
      rintro e w10 ⟨rfl, rfl⟩
      go_wp2_with fail
      refine (rdState_none p _ (NP.below hb9)).mono ?_
      rintro e w10 ⟨rfl, hb10⟩
      have hbt := below_push2 hb9 hb10 (Nat.le_refl _)
      go_wp2_with fail
      go_roundw
      case rel => exact ⟨k + 1, by omega, by go_num, below_push2 hB hbt (Nat.le_refl _), BL.below hbt, N1.below hbt, N2.below hbt⟩
      case measure => simp [intOf]; omega
    · obtain rfl : k = 3 := by omega
      go_wp2_with fail
      refine (rdLives_any _).mono ?_
      rintro e w5 ⟨rfl, hb5⟩
      go_wp2_with fail
      go_ret
      exact ⟨rfl, below_push2 hB hb5 (Nat.le_refl _)⟩

set_option maxRecDepth 100000 in
theorem contract (H : Type) (enc : TypeId × Value → H) (W : World) (base : Nat) (args : Array Value) (ds : List (DataW H)) (p : List MemPlace)
    (hval : ∀ (j : Nat) t v, Try.f9.params[j]? = some t → args[j]? = some v → Value.okWide Try.prog W .any base t v)
    (hA : DataW.TrodAll enc Try.prog W 0 (fun _ => true) true Try.f9.params.toList args.toList ds p) :
    Calls Try.prog 9 args W fun e W' => e = .returned (.bool true) ∧ Below W.heap.size W W' := by
  rw [Try.params9] at hA hval
  obtain ⟨v0, vs0, d0, ds0, p0, q0, hargs, rfl, rfl, h0, r0⟩ := trodAll_cons hA
  obtain ⟨v1, vs1, d1, ds1, p1, q1, rfl, rfl, rfl, h1, r1⟩ := trodAll_cons r0
  obtain ⟨rfl, rfl, rfl⟩ := trodAll_nil r1
  obtain rfl : args = #[v0, v1] := by cases args; simp_all
  obtain ⟨a0, rfl, w0⟩ := Lift.int_of Try.underlying3 (hval 0 3 v0 rfl rfl) h0
  obtain ⟨a1, rfl, w1⟩ := Lift.int_of Try.underlying3 (hval 1 3 v1 rfl rfl) h1
  exact walk a0 a1 W

/-! THE ROW's STEP -/
set_option maxRecDepth 100000 in
theorem lifted (os : Os) (started : os.Started) (H : Type) (enc : TypeId × Value → H) :
    ReturnsInHanded {} Try.checked os 9 .any (Rows.readNobodySpec.pre6 enc Try.prog Try.f9 Rows.readNobodyRow.domain false) (Rows.readNobodySpec.post enc Try.prog Try.f9 false true false false) := by
  refine returnsInHanded_of_change (C := Try.checked) Lift.own started (by kernel_rfl) Try.func9
    (ChangeSpec.witness6 (enc := enc) (C := Try.checked) false ⟨#[], #[.int .i64 0, .int .i64 0], []⟩ 8 (by kernel_rfl) (by kernel_rfl) (by kernel_rfl) (by kernel_rfl)) ?_
  intro W base args ds gs before hval0 hW hcnd _
  have hval : ∀ (j : Nat) t v, Try.f9.params[j]? = some t → args[j]? = some v → Value.okWide Try.prog W .any base t v := hval0
  have hW' := hW
  obtain ⟨p, q, hA0, hV, rfl, hfz, hnd⟩ := hW
  have hA : DataW.TrodAll enc Try.prog W 0 (fun _ => true) true Try.f9.params.toList args.toList ds p := hA0
  have hlen : ds.length = 2 := by
    have hl := Lift.trodAll_len _ _ _ _ hA
    rw [Try.params9] at hl
    simpa using hl
  have hall := fun W' (hb : Below W.heap.size W W') => Lift.trodAll_below Lift.laidOut hb Try.f9.params.toList args.toList ds p (by kernel_rfl) hA
  obtain ⟨rfl, rfl⟩ := trodVars_none hV
  refine (contract H enc W base args ds p hval hA).mono fun e W' ⟨he, bel⟩ => ?_
  subst he
  have hspec : (Rows.readNobodySpec.fn H (ds ++ [])).results = [.lit (.bool true)] ∧ (Rows.readNobodySpec.fn H (ds ++ [])).args = ds ∧ (Rows.readNobodySpec.fn H (ds ++ [])).vars = [] := by
    match ds, hlen with
    | [d1, d2], _ => exact ⟨rfl, rfl, rfl⟩
  exact ⟨_, rfl, _, _, _, [], _, [], hW', by rw [hspec.1]; exact trodAll_mk1 (shut_bool Try.underlying4 _), by rw [hspec.2.1]; exact hall W' bel, by rw [hspec.2.2]; rfl, bel.frame _, fun h => by cases h⟩

theorem over : Rows.readNobodyRow.holds Try.pinned (OpenSpec.ofChange Rows.readNobodySpec) :=
  OpenClaim.holds_of_wide 9 Try.f9 rfl rfl rfl rfl rfl rfl rfl ⟨rfl, rfl, rfl, rfl, rfl⟩ rfl rfl rfl rfl rfl (by kernel_rfl) Try.func9 (by kernel_rfl)
    (of_decide_eq_true (by kernel_rfl)) (by unfold Func.isWrapper; first | (rw [if_pos (by decide +kernel)]; kernel_rfl) | (rw [if_neg (by decide +kernel)]; exact ⟨rfl, rfl⟩))
    (fun os started H enc _ => lifted os started H enc)

theorem proved : Rows.ReadNobodySaid := over
#print axioms proved
end Go.Proofs.Ytpmlbdnhgeeaoaa.readNobody
