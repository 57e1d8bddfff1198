/-
  claim: Tell: contracts.
-/
import Derived.Test.YtchkiacmiljopaaClaimS
namespace Go.Proofs.Ytchkiacmiljopaa.MemP
open Go.RowKit RefP CellP
set_option linter.unusedVariables false
set_option linter.unusedSimpArgs false
def mayI (x : Int) : Bool := statesB x && (stateS x == 0 && decide (stateG x < 4294967295))
/-- a row's own block -/
def ownS (v : Value) : List Nat := match v.ownBlock with | some q => [q] | none => []
theorem ownS_mem {v : Value} {q : Nat} (h : v.ownBlock = some q) : q ∈ ownS v := by unfold ownS; rw [h]; simp
theorem ownS_of {v : Value} {q : Nat} (h : q ∈ ownS v) : v.ownBlock = some q := by
  unfold ownS at h
  split at h
  · rename_i e
    rw [List.mem_singleton.1 h]; exact e
  · cases h
theorem packI_rng (p g : Int) (h : 0 ≤ g) : 0 ≤ packI p g ∧ packI p g ≤ 18446744073709551615 := by
  unfold packI
  split <;> omega
end Go.Proofs.Ytchkiacmiljopaa.MemP
