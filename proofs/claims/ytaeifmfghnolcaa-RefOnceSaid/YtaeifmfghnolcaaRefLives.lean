/-
  The example of chapter 7 is true.
-/
import Derived.Test.YtaeifmfghnolcaaRefGated
namespace Go.Proofs.Ytaeifmfghnolcaa.RefP
open Go.RowKit
set_option linter.unusedVariables false
theorem shut_zero : shutI 0 0 0 = 0 := by rw [shutI_yes (gateB_mk (by omega))]; omega
theorem shut_one : shutI 1 2 0 = 4755801206503243776 := by rw [shutI_yes (gateB_mk (by omega))]; omega

set_option maxHeartbeats 800000 in
theorem lives_any (w : World) : Calls Try.prog 39 #[] w fun e w' => e = .returned (.bool true) ∧ Below w.heap.size w w' := by
  have o : opensB 16385 = true := decide_eq_true (by omega)
  have o1 : openP 16385 = 0 := by rw [openP_yes o]; omega
  have o2 : openG 16385 = 1 := by rw [openG_yes o]; omega
  have o3 : packI 0 1 = 16385 := by rw [packI_yes _ _ (by omega) (by omega) (by omega) (by omega)]; omega
  have o4 : useI 1 3 = 13 := by rw [useI_yes _ _ (by omega) (by omega) (by omega)]; omega
  have o5 := shut_zero
  have o6 := shut_one
  go_enter Try.func39, Try.ntmps39
  go_wp2_with fail
  refine (open_any _ _ (by omega) (by omega)).mono ?_
  rintro e w1 ⟨rfl, hb1⟩
  go_wp2_with fail
  refine (pack_any _ _ _ (by omega) (by omega) (by omega) (by omega)).mono ?_
  rintro e w2 ⟨rfl, rfl⟩
  go_wp2_with fail
  refine (use_any _ _ _ (by omega) (by omega) (by omega) (by omega)).mono ?_
  rintro e w2 ⟨rfl, rfl⟩
  go_wp2_with fail
  refine (shut_any _ _ _ _ (by omega) (by omega) (by omega) (by omega) (by omega) (by omega)).mono ?_
  rintro e w2 ⟨rfl, hb2⟩
  go_wp2_with fail
  refine (shut_any _ _ _ _ (by omega) (by omega) (by omega) (by omega) (by omega) (by omega)).mono ?_
  rintro e w3 ⟨rfl, hb3⟩
  go_wp2_with fail
  go_ret
  exact ⟨rfl, below_two (below_two hb1 hb2) hb3⟩
end Go.Proofs.Ytaeifmfghnolcaa.RefP
