/-
  The example of chapter 8 is true.
-/
import Derived.Test.YtfnjggefinkcaaaCellWalk
namespace Go.Proofs.Ytfnjggefinkcaaa.CellP
open Go.RowKit RefP
set_option linter.unusedVariables false
set_option linter.unusedSimpArgs false
theorem ex1 : casB (List.replicate 2 (0, 0)) 0 0 = true := by decide
theorem ex2 : casL (List.replicate 2 (0, 0)) 0 0 7 = [(7, 1), (0, 0)] := by decide
theorem ex3 : casB [(7, 1), (0, 0)] 0 0 = false := by decide
theorem ex4 : casL [(7, 1), (0, 0)] 0 0 8 = [(7, 1), (0, 0)] := by decide
theorem ex5 : loadW [(7, 1), (0, 0)] 0 = 7 ∧ loadV [(7, 1), (0, 0)] 0 = 1 ∧ inB [((7 : Int), (1 : Int)), (0, 0)].length 0 = true := by decide
end Go.Proofs.Ytfnjggefinkcaaa.CellP
