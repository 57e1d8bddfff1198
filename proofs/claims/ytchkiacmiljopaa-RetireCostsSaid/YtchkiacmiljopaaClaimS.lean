/-
  claim: a task of a memory, step by step: contracts of Next and Tell.
-/
import Derived.Test.YtchkiacmiljopaaClaimN
import Derived.Test.YtchkiacmiljopaaMemDoW
import Derived.Test.YtchkiacmiljopaaRefState
import Derived.Test.YtchkiacmiljopaaChooseP
import Derived.Deep.RegionHeld
import Derived.Deep.RegionLaw
import Derived.StillTailTactics
namespace Go.Proofs.Ytchkiacmiljopaa.MemP
open Go.RowKit RefP CellP
set_option linter.unusedVariables false
set_option linter.unusedSimpArgs false
theorem OwnsU.heap {w w' : World} {base : Nat} {a : Option Addr} {c : Nat} {l : List Int} (h : OwnsU w base a c l) (hk : ∀ g, (Value.slice a l.length c).ownBlock = some g → w'.heap[g]? = w.heap[g]?) : OwnsU w' base a c l := by
  refine ⟨⟨h.own.1, ?_⟩, h.rng⟩
  rcases h.own.2 with q | ⟨g, cap, cur, e', hg, hh, r⟩
  · exact .inl q
  · refine .inr ⟨g, cap, cur, e', hg, ?_, r⟩
    rw [hk g (by rw [e']; rfl)]; exact hh
theorem stateG_rng (x : Int) (h : 0 ≤ x) : 0 ≤ stateG x ∧ stateG x ≤ 4294967295 := by
  unfold stateG
  split
  · rename_i hb
    have := statesB_yes hb
    omega
  · omega
end Go.Proofs.Ytchkiacmiljopaa.MemP
