/-
  gate.First: contract. The example of chapter 32 is true.
-/
import Derived.Test.YtppclnnkleebkaaGateWalk
import Derived.Lib.QuietBelow
namespace Go.Proofs.Ytppclnnkleebkaa.GateP
open Go.RowKit RefP
set_option linter.unusedVariables false
set_option linter.unusedSimpArgs false

theorem ret_ib {a b : Int} {x y : Bool} (h : a = b) (k : x = y) : Ending.returned (.tuple #[.int .i64 a, .bool x]) = .returned (.tuple #[.int .i64 b, .bool y]) := by rw [h, k]
end Go.Proofs.Ytppclnnkleebkaa.GateP
