/-
  No cell of these rows narrows 'for every input' (looked for: loops, veiled, ifaces, maps, wideKeys, modest, calm, conditions, laid).
  DERIVED. THE GIVEN ROWS OF THIS SEAT. 3 by the template 'for every input the law returns true; each argument reads behind the call as it read before'; 0 by the template 'total and deterministic' (their statements: YtchkiacmiljopaaTotals.lean).
  GIVEN WITH THE SEED: the statements are not yours to turn. If you find one false, say at which input.
  Laid BY PROGRAM, IN A SANDBOX (cutbox-rows.mjs): the forced cells as the released guide's own fill.sh prints them over the translation ca4307a4f5dc32ac… (all of the seat's roots in one cut). By AI agents, Wed Nov 11 2026. No macro, syntax, notation, axiom, sorry.
-/
import Derived.Test.YtchkiacmiljopaaChecked
import GoSem.Claim
import GoSem.ClaimJoined
import GoSem.ClaimMapViews
import Derived.JoinedTies
import Derived.KernelRfl
namespace Go.Proofs.Ytchkiacmiljopaa
/- THE CELL 'sum', in the pinned program and in every row, IS THE sha256 OF THE DUMP (.gsa) THAT YtchkiacmiljopaaProg.lean LOADS. Nothing in Lean hashes anything: it is a label: what it is worth is what the hold of that sum in a sandbox is worth. -/
noncomputable def Try.pinned : Pinned := { name := "ytchkiacmiljopaa", sum := "ca4307a4f5dc32ac9b4c75fedf2b5991ae670b1b65ca8c0b5b9b91f48d4732c2", checked := Try.checked }
namespace Rows
def none {H : Type} : Left H := { results := [], args := [] }

/-- 'bowerlaw28.RetireKeeps': WHATEVER THE INPUT: true; the input reads as it did. -/
def retireKeepsSpec : ChangeSpec := { name := "retireKeeps", fn := fun _ => fun
  | [d1, d2] => { results := [.lit (.bool true)], args := [d1, d2] }
  | _ => none }
def retireKeepsRow : OpenClaim := { program := "ytchkiacmiljopaa", sum := "ca4307a4f5dc32ac9b4c75fedf2b5991ae670b1b65ca8c0b5b9b91f48d4732c2", func := "bower/bowerlaw28.RetireKeeps", spec := "retireKeeps", unfollowed := true, recurses := true, apart := false }
def RetireKeepsSaid : Prop := retireKeepsRow.holds Try.pinned (OpenSpec.ofChange retireKeepsSpec)

/-- ITS FALSE NEIGHBOUR: 'it returns false'. Refute it at one input. -/
def retireKeepsWrong : ChangeSpec := { name := "retireKeeps", fn := fun _ => fun
  | [d1, d2] => { results := [.lit (.bool false)], args := [d1, d2] }
  | _ => none }
def RetireKeepsWrongFalsely : Prop := retireKeepsRow.holds Try.pinned (OpenSpec.ofChange retireKeepsWrong)

/-- 'bowerlaw28.RetireSweeps': WHATEVER THE INPUT: true; the input reads as it did. -/
def retireSweepsSpec : ChangeSpec := { name := "retireSweeps", fn := fun _ => fun
  | [d] => { results := [.lit (.bool true)], args := [d] }
  | _ => none }
def retireSweepsRow : OpenClaim := { program := "ytchkiacmiljopaa", sum := "ca4307a4f5dc32ac9b4c75fedf2b5991ae670b1b65ca8c0b5b9b91f48d4732c2", func := "bower/bowerlaw28.RetireSweeps", spec := "retireSweeps", unfollowed := true, recurses := true, apart := false }
def RetireSweepsSaid : Prop := retireSweepsRow.holds Try.pinned (OpenSpec.ofChange retireSweepsSpec)

/-- ITS FALSE NEIGHBOUR: 'it returns false'. Refute it at one input. -/
def retireSweepsWrong : ChangeSpec := { name := "retireSweeps", fn := fun _ => fun
  | [d] => { results := [.lit (.bool false)], args := [d] }
  | _ => none }
def RetireSweepsWrongFalsely : Prop := retireSweepsRow.holds Try.pinned (OpenSpec.ofChange retireSweepsWrong)

/-- 'bowerlaw28.RetireCosts': WHATEVER THE INPUT: true; the input reads as it did. -/
def retireCostsSpec : ChangeSpec := { name := "retireCosts", fn := fun _ => fun
  | [d1, d2] => { results := [.lit (.bool true)], args := [d1, d2] }
  | _ => none }
def retireCostsRow : OpenClaim := { program := "ytchkiacmiljopaa", sum := "ca4307a4f5dc32ac9b4c75fedf2b5991ae670b1b65ca8c0b5b9b91f48d4732c2", func := "bower/bowerlaw28.RetireCosts", spec := "retireCosts", unfollowed := true, recurses := true, apart := false }
def RetireCostsSaid : Prop := retireCostsRow.holds Try.pinned (OpenSpec.ofChange retireCostsSpec)

/-- ITS FALSE NEIGHBOUR: 'it returns false'. Refute it at one input. -/
def retireCostsWrong : ChangeSpec := { name := "retireCosts", fn := fun _ => fun
  | [d1, d2] => { results := [.lit (.bool false)], args := [d1, d2] }
  | _ => none }
def RetireCostsWrongFalsely : Prop := retireCostsRow.holds Try.pinned (OpenSpec.ofChange retireCostsWrong)

/- THE SECOND FORM. 'bulk': how many values and letters a reading holds, each counted each time it is reached (what is shared counts as often as it is met; a slice's spare places count too). A statement '..UptoSaid' is the law's where the arguments, and the package variables that the reading takes, are together of bulk at most 1048576: NARROWER than '..Said'. Prove '..Said' where nothing that the law and all that it calls make is longer than what came in: it says more and counts as full. Else prove '..UptoSaid'. A law counts once. -/
mutual
def uptoBulk {H : Type} : DataW H → Nat
  | .lit (.string bytes) => bytes.length + 1
  | .lit _ => 1
  | .nil => 1
  | .ptr d => uptoBulk d + 1
  | .slice elems spare => uptoBulkAll elems + uptoBulkAll spare + 1
  | .agg parts => uptoBulkAll parts + 1
  | .iface _ d => uptoBulk d + 1
  | .map entries => uptoBulkEntries entries + 1
  | .held _ => 1
def uptoBulkAll {H : Type} : List (DataW H) → Nat
  | [] => 0
  | d :: r => uptoBulk d + uptoBulkAll r
def uptoBulkEntries {H : Type} : List (Lit × DataW H) → Nat
  | [] => 0
  | x :: r => uptoBulkEntry x + uptoBulkEntries r
def uptoBulkEntry {H : Type} : Lit × DataW H → Nat
  | (.string bytes, d) => bytes.length + uptoBulk d + 1
  | (_, d) => uptoBulk d + 1
 end
def uptoSmall : (H : Type) → List (DataW H) → Bool := fun _ ds => decide (uptoBulkAll ds ≤ 1048576)
def OpenSpec.upto (s : _root_.Go.ChangeSpec) : _root_.Go.OpenSpec := { _root_.Go.OpenSpec.ofChange s with cond := some uptoSmall }

/-- 'bowerlaw28.RetireKeeps', WHERE WHAT IT READS IS OF BULK AT MOST 1048576: true; the input reads as it did. -/
def retireKeepsUptoRow : OpenClaim := { program := "ytchkiacmiljopaa", sum := "ca4307a4f5dc32ac9b4c75fedf2b5991ae670b1b65ca8c0b5b9b91f48d4732c2", func := "bower/bowerlaw28.RetireKeeps", spec := "retireKeeps", unfollowed := true, recurses := true, apart := false, narrowed := true }
def RetireKeepsUptoSaid : Prop := retireKeepsUptoRow.holds Try.pinned (OpenSpec.upto retireKeepsSpec)

/-- 'bowerlaw28.RetireSweeps', WHERE WHAT IT READS IS OF BULK AT MOST 1048576: true; the input reads as it did. -/
def retireSweepsUptoRow : OpenClaim := { program := "ytchkiacmiljopaa", sum := "ca4307a4f5dc32ac9b4c75fedf2b5991ae670b1b65ca8c0b5b9b91f48d4732c2", func := "bower/bowerlaw28.RetireSweeps", spec := "retireSweeps", unfollowed := true, recurses := true, apart := false, narrowed := true }
def RetireSweepsUptoSaid : Prop := retireSweepsUptoRow.holds Try.pinned (OpenSpec.upto retireSweepsSpec)

/-- 'bowerlaw28.RetireCosts', WHERE WHAT IT READS IS OF BULK AT MOST 1048576: true; the input reads as it did. -/
def retireCostsUptoRow : OpenClaim := { program := "ytchkiacmiljopaa", sum := "ca4307a4f5dc32ac9b4c75fedf2b5991ae670b1b65ca8c0b5b9b91f48d4732c2", func := "bower/bowerlaw28.RetireCosts", spec := "retireCosts", unfollowed := true, recurses := true, apart := false, narrowed := true }
def RetireCostsUptoSaid : Prop := retireCostsUptoRow.holds Try.pinned (OpenSpec.upto retireCostsSpec)

end Rows
end Go.Proofs.Ytchkiacmiljopaa
