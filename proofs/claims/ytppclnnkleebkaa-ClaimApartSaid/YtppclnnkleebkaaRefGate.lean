/-
  ref.Shut, ref.Gated and the document's: contracts, each for every gate and word.
-/
import Derived.Test.YtppclnnkleebkaaRefState
namespace Go.Proofs.Ytppclnnkleebkaa.RefP
open Go.RowKit
set_option linter.unusedVariables false

theorem gateB_two (t x : Int) (h0 : 0 ≤ t) (h1 : t ≤ 15) : gateB 2 t x = opensB x := by
  cases ho : opensB x
  · exact gateB_mk_no (by simp [ho])
  · exact gateB_mk ⟨h0, h1, .inr (.inr ⟨rfl, ho⟩)⟩
theorem gateB_zero (t x : Int) (h0 : 0 ≤ t) (h1 : t ≤ 15) : gateB 0 t x = (t == 0 && x == 0) := by
  by_cases a : t = 0 ∧ x = 0
  · obtain ⟨rfl, rfl⟩ := a
    exact gateB_mk (by omega)
  · rw [gateB_mk_no (by omega)]
    by_cases b : t = 0
    · have : ¬ x = 0 := fun e => a ⟨b, e⟩
      simp [this]
    · simp [b]
theorem gateB_one (t x : Int) (h0 : 0 ≤ t) (h1 : t ≤ 15) : gateB 1 t x = (x == 0) := by
  by_cases a : x = 0
  · subst a; exact gateB_mk (by omega)
  · rw [gateB_mk_no (by omega)]; simp [a]
theorem gateB_three (t x : Int) (h0 : 0 ≤ t) (h1 : t ≤ 15) : gateB 3 t x = (x == 0) := by
  by_cases a : x = 0
  · subst a; exact gateB_mk (by omega)
  · rw [gateB_mk_no (by omega)]; simp [a]
end Go.Proofs.Ytppclnnkleebkaa.RefP
