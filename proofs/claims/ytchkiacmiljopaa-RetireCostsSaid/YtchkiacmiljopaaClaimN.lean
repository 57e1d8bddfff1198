/-
  claim: Cost; tasks that are none: contracts.
-/
import Derived.Test.YtchkiacmiljopaaMemZero
import Derived.Test.YtchkiacmiljopaaCarryN
import Derived.Test.YtchkiacmiljopaaRefOpen
import Derived.Test.YtchkiacmiljopaaWords
namespace Go.Proofs.Ytchkiacmiljopaa.MemP
open Go.RowKit RefP CellP
set_option linter.unusedVariables false
set_option linter.unusedSimpArgs false
abbrev clA (m : Option Addr) (ws : Value) (many place seen : Int) (ld : Bool) (word ver : Int) : Array Value := #[.pointer m, ws, .int .i64 many, .int .i64 place, .int .i64 seen, .bool ld, .int .u64 word, .int .u64 ver]
def costI (a m : Int) : Int := if (1 ≤ a ∧ a ≤ 8192) ∧ 1 ≤ m ∧ m ≤ 8192 then 2 * a * m else 0
theorem exOpenP : openP 16385 = 0 := by decide +kernel
theorem exOpens : opensB 16385 = true := by decide +kernel
end Go.Proofs.Ytchkiacmiljopaa.MemP
