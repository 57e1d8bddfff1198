/-
  No cell of these rows narrows 'for every input' (looked for: loops, veiled, ifaces, maps, wideKeys, modest, calm, conditions, laid).
  DERIVED. THE GIVEN ROWS OF THIS SEAT. 4 by the template 'for every input the law returns true; each argument reads behind the call as it read before'; 0 by the template 'total and deterministic' (their statements: YtfnjggefinkcaaaTotals.lean).
  GIVEN WITH THE SEED: the statements are not yours to turn. If you find one false, say at which input.
  Laid BY PROGRAM, IN A SANDBOX (cutbox-rows.mjs): the forced cells as the released guide's own fill.sh prints them over the translation c1db85308c0cdd01… (all of the seat's roots in one cut). By AI agents, Wed Nov 11 2026. No macro, syntax, notation, axiom, sorry.
-/
import Derived.Test.YtfnjggefinkcaaaChecked
import GoSem.Claim
import GoSem.ClaimJoined
import GoSem.ClaimMapViews
import Derived.JoinedTies
import Derived.KernelRfl
namespace Go.Proofs.Ytfnjggefinkcaaa
/- THE CELL 'sum', in the pinned program and in every row, IS THE sha256 OF THE DUMP (.gsa) THAT YtfnjggefinkcaaaProg.lean LOADS. Nothing in Lean hashes anything: it is a label: what it is worth is what the hold of that sum in a sandbox is worth. -/
noncomputable def Try.pinned : Pinned := { name := "ytfnjggefinkcaaa", sum := "c1db85308c0cdd01308add8af1ba6e92dbb73cbbb0a7867f3c65f4f09ec7712d", checked := Try.checked }
namespace Rows
def none {H : Type} : Left H := { results := [], args := [] }

/-- 'bowerlaw26.MemoryNobody': WHATEVER THE INPUT: true; the input reads as it did. -/
def memoryNobodySpec : ChangeSpec := { name := "memoryNobody", fn := fun _ => fun
  | [d] => { results := [.lit (.bool true)], args := [d] }
  | _ => none }
def memoryNobodyRow : OpenClaim := { program := "ytfnjggefinkcaaa", sum := "c1db85308c0cdd01308add8af1ba6e92dbb73cbbb0a7867f3c65f4f09ec7712d", func := "bower/bowerlaw26.MemoryNobody", spec := "memoryNobody", unfollowed := true, recurses := true, apart := false }
def MemoryNobodySaid : Prop := memoryNobodyRow.holds Try.pinned (OpenSpec.ofChange memoryNobodySpec)

/-- ITS FALSE NEIGHBOUR: 'it returns false'. Refute it at one input. -/
def memoryNobodyWrong : ChangeSpec := { name := "memoryNobody", fn := fun _ => fun
  | [d] => { results := [.lit (.bool false)], args := [d] }
  | _ => none }
def MemoryNobodyWrongFalsely : Prop := memoryNobodyRow.holds Try.pinned (OpenSpec.ofChange memoryNobodyWrong)

/-- 'bowerlaw26.MemoryApart': WHATEVER THE INPUT: true; the input reads as it did. -/
def memoryApartSpec : ChangeSpec := { name := "memoryApart", fn := fun _ => fun
  | [d1, d2, d3, d4] => { results := [.lit (.bool true)], args := [d1, d2, d3, d4] }
  | _ => none }
def memoryApartRow : OpenClaim := { program := "ytfnjggefinkcaaa", sum := "c1db85308c0cdd01308add8af1ba6e92dbb73cbbb0a7867f3c65f4f09ec7712d", func := "bower/bowerlaw26.MemoryApart", spec := "memoryApart", unfollowed := true, recurses := true, apart := false }
def MemoryApartSaid : Prop := memoryApartRow.holds Try.pinned (OpenSpec.ofChange memoryApartSpec)

/-- ITS FALSE NEIGHBOUR: 'it returns false'. Refute it at one input. -/
def memoryApartWrong : ChangeSpec := { name := "memoryApart", fn := fun _ => fun
  | [d1, d2, d3, d4] => { results := [.lit (.bool false)], args := [d1, d2, d3, d4] }
  | _ => none }
def MemoryApartWrongFalsely : Prop := memoryApartRow.holds Try.pinned (OpenSpec.ofChange memoryApartWrong)

/-- 'bowerlaw26.MemoryKeeps': WHATEVER THE INPUT: true; the input reads as it did. -/
def memoryKeepsSpec : ChangeSpec := { name := "memoryKeeps", fn := fun _ => fun
  | [d1, d2] => { results := [.lit (.bool true)], args := [d1, d2] }
  | _ => none }
def memoryKeepsRow : OpenClaim := { program := "ytfnjggefinkcaaa", sum := "c1db85308c0cdd01308add8af1ba6e92dbb73cbbb0a7867f3c65f4f09ec7712d", func := "bower/bowerlaw26.MemoryKeeps", spec := "memoryKeeps", unfollowed := true, recurses := true, apart := false }
def MemoryKeepsSaid : Prop := memoryKeepsRow.holds Try.pinned (OpenSpec.ofChange memoryKeepsSpec)

/-- ITS FALSE NEIGHBOUR: 'it returns false'. Refute it at one input. -/
def memoryKeepsWrong : ChangeSpec := { name := "memoryKeeps", fn := fun _ => fun
  | [d1, d2] => { results := [.lit (.bool false)], args := [d1, d2] }
  | _ => none }
def MemoryKeepsWrongFalsely : Prop := memoryKeepsRow.holds Try.pinned (OpenSpec.ofChange memoryKeepsWrong)

/-- 'bowerlaw26.MemoryDoes': WHATEVER THE INPUT: true; the input reads as it did. -/
def memoryDoesSpec : ChangeSpec := { name := "memoryDoes", fn := fun _ => fun
  | [d1, d2, d3, d4] => { results := [.lit (.bool true)], args := [d1, d2, d3, d4] }
  | _ => none }
def memoryDoesRow : OpenClaim := { program := "ytfnjggefinkcaaa", sum := "c1db85308c0cdd01308add8af1ba6e92dbb73cbbb0a7867f3c65f4f09ec7712d", func := "bower/bowerlaw26.MemoryDoes", spec := "memoryDoes", unfollowed := true, recurses := true, apart := false }
def MemoryDoesSaid : Prop := memoryDoesRow.holds Try.pinned (OpenSpec.ofChange memoryDoesSpec)

/-- ITS FALSE NEIGHBOUR: 'it returns false'. Refute it at one input. -/
def memoryDoesWrong : ChangeSpec := { name := "memoryDoes", fn := fun _ => fun
  | [d1, d2, d3, d4] => { results := [.lit (.bool false)], args := [d1, d2, d3, d4] }
  | _ => none }
def MemoryDoesWrongFalsely : Prop := memoryDoesRow.holds Try.pinned (OpenSpec.ofChange memoryDoesWrong)

/- THE SECOND FORM. 'bulk': how many values and letters a reading holds, each counted each time it is reached (what is shared counts as often as it is met; a slice's spare places count too). A statement '..UptoSaid' is the law's where the arguments, and the package variables that the reading takes, are together of bulk at most 1048576: NARROWER than '..Said'. Prove '..Said' where nothing that the law and all that it calls make is longer than what came in: it says more and counts as full. Else prove '..UptoSaid'. A law counts once. -/
mutual
def uptoBulk {H : Type} : DataW H → Nat
  | .lit (.string bytes) => bytes.length + 1
  | .lit _ => 1
  | .nil => 1
  | .ptr d => uptoBulk d + 1
  | .slice elems spare => uptoBulkAll elems + uptoBulkAll spare + 1
  | .agg parts => uptoBulkAll parts + 1
  | .iface _ d => uptoBulk d + 1
  | .map entries => uptoBulkEntries entries + 1
  | .held _ => 1
def uptoBulkAll {H : Type} : List (DataW H) → Nat
  | [] => 0
  | d :: r => uptoBulk d + uptoBulkAll r
def uptoBulkEntries {H : Type} : List (Lit × DataW H) → Nat
  | [] => 0
  | x :: r => uptoBulkEntry x + uptoBulkEntries r
def uptoBulkEntry {H : Type} : Lit × DataW H → Nat
  | (.string bytes, d) => bytes.length + uptoBulk d + 1
  | (_, d) => uptoBulk d + 1
 end
def uptoSmall : (H : Type) → List (DataW H) → Bool := fun _ ds => decide (uptoBulkAll ds ≤ 1048576)
def OpenSpec.upto (s : _root_.Go.ChangeSpec) : _root_.Go.OpenSpec := { _root_.Go.OpenSpec.ofChange s with cond := some uptoSmall }

/-- 'bowerlaw26.MemoryNobody', WHERE WHAT IT READS IS OF BULK AT MOST 1048576: true; the input reads as it did. -/
def memoryNobodyUptoRow : OpenClaim := { program := "ytfnjggefinkcaaa", sum := "c1db85308c0cdd01308add8af1ba6e92dbb73cbbb0a7867f3c65f4f09ec7712d", func := "bower/bowerlaw26.MemoryNobody", spec := "memoryNobody", unfollowed := true, recurses := true, apart := false, narrowed := true }
def MemoryNobodyUptoSaid : Prop := memoryNobodyUptoRow.holds Try.pinned (OpenSpec.upto memoryNobodySpec)

/-- 'bowerlaw26.MemoryApart', WHERE WHAT IT READS IS OF BULK AT MOST 1048576: true; the input reads as it did. -/
def memoryApartUptoRow : OpenClaim := { program := "ytfnjggefinkcaaa", sum := "c1db85308c0cdd01308add8af1ba6e92dbb73cbbb0a7867f3c65f4f09ec7712d", func := "bower/bowerlaw26.MemoryApart", spec := "memoryApart", unfollowed := true, recurses := true, apart := false, narrowed := true }
def MemoryApartUptoSaid : Prop := memoryApartUptoRow.holds Try.pinned (OpenSpec.upto memoryApartSpec)

/-- 'bowerlaw26.MemoryKeeps', WHERE WHAT IT READS IS OF BULK AT MOST 1048576: true; the input reads as it did. -/
def memoryKeepsUptoRow : OpenClaim := { program := "ytfnjggefinkcaaa", sum := "c1db85308c0cdd01308add8af1ba6e92dbb73cbbb0a7867f3c65f4f09ec7712d", func := "bower/bowerlaw26.MemoryKeeps", spec := "memoryKeeps", unfollowed := true, recurses := true, apart := false, narrowed := true }
def MemoryKeepsUptoSaid : Prop := memoryKeepsUptoRow.holds Try.pinned (OpenSpec.upto memoryKeepsSpec)

/-- 'bowerlaw26.MemoryDoes', WHERE WHAT IT READS IS OF BULK AT MOST 1048576: true; the input reads as it did. -/
def memoryDoesUptoRow : OpenClaim := { program := "ytfnjggefinkcaaa", sum := "c1db85308c0cdd01308add8af1ba6e92dbb73cbbb0a7867f3c65f4f09ec7712d", func := "bower/bowerlaw26.MemoryDoes", spec := "memoryDoes", unfollowed := true, recurses := true, apart := false, narrowed := true }
def MemoryDoesUptoSaid : Prop := memoryDoesUptoRow.holds Try.pinned (OpenSpec.upto memoryDoesSpec)

end Rows
end Go.Proofs.Ytfnjggefinkcaaa
