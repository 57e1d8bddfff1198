/-
  gate.After, gate.Ahead and the document's: contracts.
-/
import Derived.Test.YtppclnnkleebkaaRows
import Derived.Test.YtppclnnkleebkaaAid
import Derived.Test.YtppclnnkleebkaaGatePlain
import Derived.WalkLawsBesides
import Derived.WalkSpells
import Derived.Outline
import Derived.BigQuiet
import Derived.LoopTactic
import Derived.Lib.MinMax
namespace Go.Proofs.Ytppclnnkleebkaa.GateP
open Go.RowKit RefP
set_option linter.unusedVariables false
set_option linter.unusedSimpArgs false
theorem ret_after {xs : List Int} : Hid (maxL xs = 18446744073709551615 → afterI xs = maxL xs) ∧ Hid (maxL xs ≠ 18446744073709551615 → afterI xs = maxL xs + 1) :=
  ⟨fun h => if_pos h, fun h => if_neg h⟩
theorem aheadB_def (t p u q : Int) : aheadB t p u q = decide (p < q ∨ p = q ∧ t < u) := rfl
end Go.Proofs.Ytppclnnkleebkaa.GateP
