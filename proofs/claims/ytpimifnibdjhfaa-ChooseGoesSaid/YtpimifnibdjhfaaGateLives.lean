/-
  The example of chapter 32 is true.
-/
import Derived.Test.YtpimifnibdjhfaaGateFst
namespace Go.Proofs.Ytpimifnibdjhfaa.GateP
open Go.RowKit RefP
set_option linter.unusedVariables false
set_option linter.unusedSimpArgs false
theorem Holds.of_blk {w : World} {b : Nat} {cs : Array Value} {T : TypeId} (B : Blk w b cs T) (m : Nat) (f : Nat → Value) (e : ∀ i, i < m → cs[i]? = some (f i)) : Holds w (some ⟨b, 0, none⟩) m f :=
  ⟨fun _ => ⟨b, 0, rfl, B.lt, fun i hi => by rw [Nat.zero_add]; exact B.at i (e i hi)⟩⟩
theorem first_ex : firstT [(2, 5), (1, 7), (0, 7)] = 2 := by decide
theorem after_ex1 : afterI [3, 9] = 10 := by decide
theorem after_ex2 : afterI [] = 1 := by decide
end Go.Proofs.Ytpimifnibdjhfaa.GateP
