/-
  The example of chapter 8 is true.
-/
import Derived.Test.YtaeifmfghnolcaaCellWalk
namespace Go.Proofs.Ytaeifmfghnolcaa.CellP
open Go.RowKit RefP
set_option linter.unusedVariables false
set_option linter.unusedSimpArgs false
theorem ex1 : casB (List.replicate 2 (0, 0)) 0 0 = true := by decide
theorem ex2 : casL (List.replicate 2 (0, 0)) 0 0 7 = [(7, 1), (0, 0)] := by decide
theorem ex3 : casB [(7, 1), (0, 0)] 0 0 = false := by decide
theorem ex4 : casL [(7, 1), (0, 0)] 0 0 8 = [(7, 1), (0, 0)] := by decide
theorem ex5 : loadW [(7, 1), (0, 0)] 0 = 7 ∧ loadV [(7, 1), (0, 0)] 0 = 1 ∧ inB [((7 : Int), (1 : Int)), (0, 0)].length 0 = true := by decide
set_option maxHeartbeats 1600000 in
theorem lives_any (w : World) : Calls Try.prog 18 #[] w fun e w' => e = .returned (.bool true) ∧ Below w.heap.size w w' := by
  go_enter Try.func18, Try.ntmps18
  go_wp2_with fail
  refine (new_yes 2 _ (by omega)).mono ?_
  rintro e w1 ⟨o, g, rfl, hC, hb1, hO, hG⟩
  go_wp2_with fail
  refine (cas_any _ _ _ _ _ _ _ hC (by omega) (by omega) (by omega) (by omega)).mono ?_
  rintro e w2 ⟨rfl, hC2, hg2⟩
  have hb2 := below_only hb1 hg2 (Nat.le_refl _) hG
  rw [ex2] at hC2
  rw [ex1]
  go_wp2_with fail
  refine (cas_any _ _ _ _ _ _ _ hC2 (by omega) (by omega) (by omega) (by omega)).mono ?_
  rintro e w3 ⟨rfl, hC3, hg3⟩
  have hb3 := below_only hb2 hg3 (Nat.le_refl _) hG
  rw [ex4] at hC3
  rw [ex3]
  go_wp2_with fail
  refine (load_any _ _ _ _ _ hC3).mono ?_
  rintro e w4 ⟨rfl, hb4⟩
  rw [ex5.1, ex5.2.1, ex5.2.2]
  have hC4 := hC3.below hb4
  go_wp2_with fail
  refine (len_any _ _ _ _ hC4).mono ?_
  rintro e w5 ⟨rfl, rfl⟩
  go_wp2_with fail
  go_ret
  exact ⟨rfl, below_push2 hb3 hb4 (Nat.le_refl _)⟩
end Go.Proofs.Ytaeifmfghnolcaa.CellP
