/-
  No cell of these rows narrows 'for every input' (looked for: loops, veiled, ifaces, maps, wideKeys, modest, calm, conditions, laid).
  DERIVED. THE GIVEN ROWS OF THIS SEAT. 3 by the template 'for every input the law returns true; each argument reads behind the call as it read before'; 0 by the template 'total and deterministic' (their statements: YtgdeiaholkmfeaaTotals.lean).
  GIVEN WITH THE SEED: the statements are not yours to turn. If you find one false, say at which input.
  Laid BY PROGRAM, IN A SANDBOX (cutbox-rows.mjs): the forced cells as the released guide's own fill.sh prints them over the translation b56782072e4444f9… (all of the seat's roots in one cut). By AI agents, Wed Nov 11 2026. No macro, syntax, notation, axiom, sorry.
-/
import Derived.Test.YtgdeiaholkmfeaaChecked
import GoSem.Claim
import GoSem.ClaimJoined
import GoSem.ClaimMapViews
import Derived.JoinedTies
import Derived.KernelRfl
namespace Go.Proofs.Ytgdeiaholkmfeaa
/- THE CELL 'sum', in the pinned program and in every row, IS THE sha256 OF THE DUMP (.gsa) THAT YtgdeiaholkmfeaaProg.lean LOADS. Nothing in Lean hashes anything: it is a label: what it is worth is what the hold of that sum in a sandbox is worth. -/
noncomputable def Try.pinned : Pinned := { name := "ytgdeiaholkmfeaa", sum := "b56782072e4444f956892febc254e667a2cc98c02ac8066f598bdbf85d5a1dc6", checked := Try.checked }
namespace Rows
def none {H : Type} : Left H := { results := [], args := [] }

/-- 'bowerlaw30.ReadGoes': WHATEVER THE INPUT: true; the input reads as it did. -/
def readGoesSpec : ChangeSpec := { name := "readGoes", fn := fun _ => fun
  | [d1, d2, d3, d4] => { results := [.lit (.bool true)], args := [d1, d2, d3, d4] }
  | _ => none }
def readGoesRow : OpenClaim := { program := "ytgdeiaholkmfeaa", sum := "b56782072e4444f956892febc254e667a2cc98c02ac8066f598bdbf85d5a1dc6", func := "bower/bowerlaw30.ReadGoes", spec := "readGoes", unfollowed := true, recurses := true, apart := false }
def ReadGoesSaid : Prop := readGoesRow.holds Try.pinned (OpenSpec.ofChange readGoesSpec)

/-- ITS FALSE NEIGHBOUR: 'it returns false'. Refute it at one input. -/
def readGoesWrong : ChangeSpec := { name := "readGoes", fn := fun _ => fun
  | [d1, d2, d3, d4] => { results := [.lit (.bool false)], args := [d1, d2, d3, d4] }
  | _ => none }
def ReadGoesWrongFalsely : Prop := readGoesRow.holds Try.pinned (OpenSpec.ofChange readGoesWrong)

/-- 'bowerlaw30.ReadHolds': WHATEVER THE INPUT: true; the input reads as it did. -/
def readHoldsSpec : ChangeSpec := { name := "readHolds", fn := fun _ => fun
  | [d1, d2] => { results := [.lit (.bool true)], args := [d1, d2] }
  | _ => none }
def readHoldsRow : OpenClaim := { program := "ytgdeiaholkmfeaa", sum := "b56782072e4444f956892febc254e667a2cc98c02ac8066f598bdbf85d5a1dc6", func := "bower/bowerlaw30.ReadHolds", spec := "readHolds", unfollowed := true, recurses := true, apart := false }
def ReadHoldsSaid : Prop := readHoldsRow.holds Try.pinned (OpenSpec.ofChange readHoldsSpec)

/-- ITS FALSE NEIGHBOUR: 'it returns false'. Refute it at one input. -/
def readHoldsWrong : ChangeSpec := { name := "readHolds", fn := fun _ => fun
  | [d1, d2] => { results := [.lit (.bool false)], args := [d1, d2] }
  | _ => none }
def ReadHoldsWrongFalsely : Prop := readHoldsRow.holds Try.pinned (OpenSpec.ofChange readHoldsWrong)

/-- 'bowerlaw30.ReadNobody': WHATEVER THE INPUT: true; the input reads as it did. -/
def readNobodySpec : ChangeSpec := { name := "readNobody", fn := fun _ => fun
  | [d1, d2] => { results := [.lit (.bool true)], args := [d1, d2] }
  | _ => none }
def readNobodyRow : OpenClaim := { program := "ytgdeiaholkmfeaa", sum := "b56782072e4444f956892febc254e667a2cc98c02ac8066f598bdbf85d5a1dc6", func := "bower/bowerlaw30.ReadNobody", spec := "readNobody", unfollowed := true, recurses := true, apart := false }
def ReadNobodySaid : Prop := readNobodyRow.holds Try.pinned (OpenSpec.ofChange readNobodySpec)

/-- ITS FALSE NEIGHBOUR: 'it returns false'. Refute it at one input. -/
def readNobodyWrong : ChangeSpec := { name := "readNobody", fn := fun _ => fun
  | [d1, d2] => { results := [.lit (.bool false)], args := [d1, d2] }
  | _ => none }
def ReadNobodyWrongFalsely : Prop := readNobodyRow.holds Try.pinned (OpenSpec.ofChange readNobodyWrong)

/- THE SECOND FORM. 'bulk': how many values and letters a reading holds, each counted each time it is reached (what is shared counts as often as it is met; a slice's spare places count too). A statement '..UptoSaid' is the law's where the arguments, and the package variables that the reading takes, are together of bulk at most 1048576: NARROWER than '..Said'. Prove '..Said' where nothing that the law and all that it calls make is longer than what came in: it says more and counts as full. Else prove '..UptoSaid'. A law counts once. -/
mutual
def uptoBulk {H : Type} : DataW H → Nat
  | .lit (.string bytes) => bytes.length + 1
  | .lit _ => 1
  | .nil => 1
  | .ptr d => uptoBulk d + 1
  | .slice elems spare => uptoBulkAll elems + uptoBulkAll spare + 1
  | .agg parts => uptoBulkAll parts + 1
  | .iface _ d => uptoBulk d + 1
  | .map entries => uptoBulkEntries entries + 1
  | .held _ => 1
def uptoBulkAll {H : Type} : List (DataW H) → Nat
  | [] => 0
  | d :: r => uptoBulk d + uptoBulkAll r
def uptoBulkEntries {H : Type} : List (Lit × DataW H) → Nat
  | [] => 0
  | x :: r => uptoBulkEntry x + uptoBulkEntries r
def uptoBulkEntry {H : Type} : Lit × DataW H → Nat
  | (.string bytes, d) => bytes.length + uptoBulk d + 1
  | (_, d) => uptoBulk d + 1
 end
def uptoSmall : (H : Type) → List (DataW H) → Bool := fun _ ds => decide (uptoBulkAll ds ≤ 1048576)
def OpenSpec.upto (s : _root_.Go.ChangeSpec) : _root_.Go.OpenSpec := { _root_.Go.OpenSpec.ofChange s with cond := some uptoSmall }

/-- 'bowerlaw30.ReadGoes', WHERE WHAT IT READS IS OF BULK AT MOST 1048576: true; the input reads as it did. -/
def readGoesUptoRow : OpenClaim := { program := "ytgdeiaholkmfeaa", sum := "b56782072e4444f956892febc254e667a2cc98c02ac8066f598bdbf85d5a1dc6", func := "bower/bowerlaw30.ReadGoes", spec := "readGoes", unfollowed := true, recurses := true, apart := false, narrowed := true }
def ReadGoesUptoSaid : Prop := readGoesUptoRow.holds Try.pinned (OpenSpec.upto readGoesSpec)

/-- 'bowerlaw30.ReadHolds', WHERE WHAT IT READS IS OF BULK AT MOST 1048576: true; the input reads as it did. -/
def readHoldsUptoRow : OpenClaim := { program := "ytgdeiaholkmfeaa", sum := "b56782072e4444f956892febc254e667a2cc98c02ac8066f598bdbf85d5a1dc6", func := "bower/bowerlaw30.ReadHolds", spec := "readHolds", unfollowed := true, recurses := true, apart := false, narrowed := true }
def ReadHoldsUptoSaid : Prop := readHoldsUptoRow.holds Try.pinned (OpenSpec.upto readHoldsSpec)

/-- 'bowerlaw30.ReadNobody', WHERE WHAT IT READS IS OF BULK AT MOST 1048576: true; the input reads as it did. -/
def readNobodyUptoRow : OpenClaim := { program := "ytgdeiaholkmfeaa", sum := "b56782072e4444f956892febc254e667a2cc98c02ac8066f598bdbf85d5a1dc6", func := "bower/bowerlaw30.ReadNobody", spec := "readNobody", unfollowed := true, recurses := true, apart := false, narrowed := true }
def ReadNobodyUptoSaid : Prop := readNobodyUptoRow.holds Try.pinned (OpenSpec.upto readNobodySpec)

end Rows
end Go.Proofs.Ytgdeiaholkmfeaa
