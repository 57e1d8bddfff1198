/-
  No cell of these rows narrows 'for every input' (looked for: loops, veiled, ifaces, maps, wideKeys, modest, calm, conditions, laid).
  DERIVED. THE GIVEN ROWS OF THIS SEAT. 7 by the template 'for every input the law returns true; each argument reads behind the call as it read before'; 0 by the template 'total and deterministic' (their statements: YtpempcefgfmniaaTotals.lean).
  GIVEN WITH THE SEED: the statements are not yours to turn. If you find one false, say at which input.
  Laid BY PROGRAM, IN A SANDBOX (cutbox-rows.mjs): the forced cells as the released guide's own fill.sh prints them over the translation 58ca4c8125927710… (all of the seat's roots in one cut). By AI agents, Wed Nov 11 2026. No macro, syntax, notation, axiom, sorry.
-/
import Derived.Test.YtpempcefgfmniaaChecked
import GoSem.Claim
import GoSem.ClaimJoined
import GoSem.ClaimMapViews
import Derived.JoinedTies
import Derived.KernelRfl
namespace Go.Proofs.Ytpempcefgfmniaa
/- THE CELL 'sum', in the pinned program and in every row, IS THE sha256 OF THE DUMP (.gsa) THAT YtpempcefgfmniaaProg.lean LOADS. Nothing in Lean hashes anything: it is a label: what it is worth is what the hold of that sum in a sandbox is worth. -/
noncomputable def Try.pinned : Pinned := { name := "ytpempcefgfmniaa", sum := "58ca4c8125927710607407856431860639f1f3f54279602e2bbde6c91e51a364", checked := Try.checked }
namespace Rows
def none {H : Type} : Left H := { results := [], args := [] }

/-- 'bowerlaw26.MemoryNobody': WHATEVER THE INPUT: true; the input reads as it did. -/
def memoryNobodySpec : ChangeSpec := { name := "memoryNobody", fn := fun _ => fun
  | [d] => { results := [.lit (.bool true)], args := [d] }
  | _ => none }
def memoryNobodyRow : OpenClaim := { program := "ytpempcefgfmniaa", sum := "58ca4c8125927710607407856431860639f1f3f54279602e2bbde6c91e51a364", func := "bower/bowerlaw26.MemoryNobody", spec := "memoryNobody", unfollowed := true, recurses := true, apart := false }
def MemoryNobodySaid : Prop := memoryNobodyRow.holds Try.pinned (OpenSpec.ofChange memoryNobodySpec)

/-- ITS FALSE NEIGHBOUR: 'it returns false'. Refute it at one input. -/
def memoryNobodyWrong : ChangeSpec := { name := "memoryNobody", fn := fun _ => fun
  | [d] => { results := [.lit (.bool false)], args := [d] }
  | _ => none }
def MemoryNobodyWrongFalsely : Prop := memoryNobodyRow.holds Try.pinned (OpenSpec.ofChange memoryNobodyWrong)

/-- 'bowerlaw26.MemoryApart': WHATEVER THE INPUT: true; the input reads as it did. -/
def memoryApartSpec : ChangeSpec := { name := "memoryApart", fn := fun _ => fun
  | [d1, d2, d3, d4] => { results := [.lit (.bool true)], args := [d1, d2, d3, d4] }
  | _ => none }
def memoryApartRow : OpenClaim := { program := "ytpempcefgfmniaa", sum := "58ca4c8125927710607407856431860639f1f3f54279602e2bbde6c91e51a364", func := "bower/bowerlaw26.MemoryApart", spec := "memoryApart", unfollowed := true, recurses := true, apart := false }
def MemoryApartSaid : Prop := memoryApartRow.holds Try.pinned (OpenSpec.ofChange memoryApartSpec)

/-- ITS FALSE NEIGHBOUR: 'it returns false'. Refute it at one input. -/
def memoryApartWrong : ChangeSpec := { name := "memoryApart", fn := fun _ => fun
  | [d1, d2, d3, d4] => { results := [.lit (.bool false)], args := [d1, d2, d3, d4] }
  | _ => none }
def MemoryApartWrongFalsely : Prop := memoryApartRow.holds Try.pinned (OpenSpec.ofChange memoryApartWrong)

/-- 'bowerlaw26.MemoryKeeps': WHATEVER THE INPUT: true; the input reads as it did. -/
def memoryKeepsSpec : ChangeSpec := { name := "memoryKeeps", fn := fun _ => fun
  | [d1, d2] => { results := [.lit (.bool true)], args := [d1, d2] }
  | _ => none }
def memoryKeepsRow : OpenClaim := { program := "ytpempcefgfmniaa", sum := "58ca4c8125927710607407856431860639f1f3f54279602e2bbde6c91e51a364", func := "bower/bowerlaw26.MemoryKeeps", spec := "memoryKeeps", unfollowed := true, recurses := true, apart := false }
def MemoryKeepsSaid : Prop := memoryKeepsRow.holds Try.pinned (OpenSpec.ofChange memoryKeepsSpec)

/-- ITS FALSE NEIGHBOUR: 'it returns false'. Refute it at one input. -/
def memoryKeepsWrong : ChangeSpec := { name := "memoryKeeps", fn := fun _ => fun
  | [d1, d2] => { results := [.lit (.bool false)], args := [d1, d2] }
  | _ => none }
def MemoryKeepsWrongFalsely : Prop := memoryKeepsRow.holds Try.pinned (OpenSpec.ofChange memoryKeepsWrong)

/-- 'bowerlaw26.MemoryDoes': WHATEVER THE INPUT: true; the input reads as it did. -/
def memoryDoesSpec : ChangeSpec := { name := "memoryDoes", fn := fun _ => fun
  | [d1, d2, d3, d4] => { results := [.lit (.bool true)], args := [d1, d2, d3, d4] }
  | _ => none }
def memoryDoesRow : OpenClaim := { program := "ytpempcefgfmniaa", sum := "58ca4c8125927710607407856431860639f1f3f54279602e2bbde6c91e51a364", func := "bower/bowerlaw26.MemoryDoes", spec := "memoryDoes", unfollowed := true, recurses := true, apart := false }
def MemoryDoesSaid : Prop := memoryDoesRow.holds Try.pinned (OpenSpec.ofChange memoryDoesSpec)

/-- ITS FALSE NEIGHBOUR: 'it returns false'. Refute it at one input. -/
def memoryDoesWrong : ChangeSpec := { name := "memoryDoes", fn := fun _ => fun
  | [d1, d2, d3, d4] => { results := [.lit (.bool false)], args := [d1, d2, d3, d4] }
  | _ => none }
def MemoryDoesWrongFalsely : Prop := memoryDoesRow.holds Try.pinned (OpenSpec.ofChange memoryDoesWrong)

/-- 'bowerlaw35.CarryGoes': WHATEVER THE INPUT: true; the input reads as it did. -/
def carryGoesSpec : ChangeSpec := { name := "carryGoes", fn := fun _ => fun
  | [d1, d2, d3, d4, d5] => { results := [.lit (.bool true)], args := [d1, d2, d3, d4, d5] }
  | _ => none }
def carryGoesRow : OpenClaim := { program := "ytpempcefgfmniaa", sum := "58ca4c8125927710607407856431860639f1f3f54279602e2bbde6c91e51a364", func := "bower/bowerlaw35.CarryGoes", spec := "carryGoes", unfollowed := true, recurses := true, apart := false }
def CarryGoesSaid : Prop := carryGoesRow.holds Try.pinned (OpenSpec.ofChange carryGoesSpec)

/-- ITS FALSE NEIGHBOUR: 'it returns false'. Refute it at one input. -/
def carryGoesWrong : ChangeSpec := { name := "carryGoes", fn := fun _ => fun
  | [d1, d2, d3, d4, d5] => { results := [.lit (.bool false)], args := [d1, d2, d3, d4, d5] }
  | _ => none }
def CarryGoesWrongFalsely : Prop := carryGoesRow.holds Try.pinned (OpenSpec.ofChange carryGoesWrong)

/-- 'bowerlaw35.CarryOnce': WHATEVER THE INPUT: true; the input reads as it did. -/
def carryOnceSpec : ChangeSpec := { name := "carryOnce", fn := fun _ => fun
  | [d1, d2, d3] => { results := [.lit (.bool true)], args := [d1, d2, d3] }
  | _ => none }
def carryOnceRow : OpenClaim := { program := "ytpempcefgfmniaa", sum := "58ca4c8125927710607407856431860639f1f3f54279602e2bbde6c91e51a364", func := "bower/bowerlaw35.CarryOnce", spec := "carryOnce", unfollowed := true, recurses := true, apart := false }
def CarryOnceSaid : Prop := carryOnceRow.holds Try.pinned (OpenSpec.ofChange carryOnceSpec)

/-- ITS FALSE NEIGHBOUR: 'it returns false'. Refute it at one input. -/
def carryOnceWrong : ChangeSpec := { name := "carryOnce", fn := fun _ => fun
  | [d1, d2, d3] => { results := [.lit (.bool false)], args := [d1, d2, d3] }
  | _ => none }
def CarryOnceWrongFalsely : Prop := carryOnceRow.holds Try.pinned (OpenSpec.ofChange carryOnceWrong)

/-- 'bowerlaw35.CarryNobody': WHATEVER THE INPUT: true; the input reads as it did. -/
def carryNobodySpec : ChangeSpec := { name := "carryNobody", fn := fun _ => fun
  | [d1, d2] => { results := [.lit (.bool true)], args := [d1, d2] }
  | _ => none }
def carryNobodyRow : OpenClaim := { program := "ytpempcefgfmniaa", sum := "58ca4c8125927710607407856431860639f1f3f54279602e2bbde6c91e51a364", func := "bower/bowerlaw35.CarryNobody", spec := "carryNobody", unfollowed := true, recurses := true, apart := false }
def CarryNobodySaid : Prop := carryNobodyRow.holds Try.pinned (OpenSpec.ofChange carryNobodySpec)

/-- ITS FALSE NEIGHBOUR: 'it returns false'. Refute it at one input. -/
def carryNobodyWrong : ChangeSpec := { name := "carryNobody", fn := fun _ => fun
  | [d1, d2] => { results := [.lit (.bool false)], args := [d1, d2] }
  | _ => none }
def CarryNobodyWrongFalsely : Prop := carryNobodyRow.holds Try.pinned (OpenSpec.ofChange carryNobodyWrong)

/- THE SECOND FORM. 'bulk': how many values and letters a reading holds, each counted each time it is reached (what is shared counts as often as it is met; a slice's spare places count too). A statement '..UptoSaid' is the law's where the arguments, and the package variables that the reading takes, are together of bulk at most 1048576: NARROWER than '..Said'. Prove '..Said' where nothing that the law and all that it calls make is longer than what came in: it says more and counts as full. Else prove '..UptoSaid'. A law counts once. -/
mutual
def uptoBulk {H : Type} : DataW H → Nat
  | .lit (.string bytes) => bytes.length + 1
  | .lit _ => 1
  | .nil => 1
  | .ptr d => uptoBulk d + 1
  | .slice elems spare => uptoBulkAll elems + uptoBulkAll spare + 1
  | .agg parts => uptoBulkAll parts + 1
  | .iface _ d => uptoBulk d + 1
  | .map entries => uptoBulkEntries entries + 1
  | .held _ => 1
def uptoBulkAll {H : Type} : List (DataW H) → Nat
  | [] => 0
  | d :: r => uptoBulk d + uptoBulkAll r
def uptoBulkEntries {H : Type} : List (Lit × DataW H) → Nat
  | [] => 0
  | x :: r => uptoBulkEntry x + uptoBulkEntries r
def uptoBulkEntry {H : Type} : Lit × DataW H → Nat
  | (.string bytes, d) => bytes.length + uptoBulk d + 1
  | (_, d) => uptoBulk d + 1
 end
def uptoSmall : (H : Type) → List (DataW H) → Bool := fun _ ds => decide (uptoBulkAll ds ≤ 1048576)
def OpenSpec.upto (s : _root_.Go.ChangeSpec) : _root_.Go.OpenSpec := { _root_.Go.OpenSpec.ofChange s with cond := some uptoSmall }

/-- 'bowerlaw26.MemoryNobody', WHERE WHAT IT READS IS OF BULK AT MOST 1048576: true; the input reads as it did. -/
def memoryNobodyUptoRow : OpenClaim := { program := "ytpempcefgfmniaa", sum := "58ca4c8125927710607407856431860639f1f3f54279602e2bbde6c91e51a364", func := "bower/bowerlaw26.MemoryNobody", spec := "memoryNobody", unfollowed := true, recurses := true, apart := false, narrowed := true }
def MemoryNobodyUptoSaid : Prop := memoryNobodyUptoRow.holds Try.pinned (OpenSpec.upto memoryNobodySpec)

/-- 'bowerlaw26.MemoryApart', WHERE WHAT IT READS IS OF BULK AT MOST 1048576: true; the input reads as it did. -/
def memoryApartUptoRow : OpenClaim := { program := "ytpempcefgfmniaa", sum := "58ca4c8125927710607407856431860639f1f3f54279602e2bbde6c91e51a364", func := "bower/bowerlaw26.MemoryApart", spec := "memoryApart", unfollowed := true, recurses := true, apart := false, narrowed := true }
def MemoryApartUptoSaid : Prop := memoryApartUptoRow.holds Try.pinned (OpenSpec.upto memoryApartSpec)

/-- 'bowerlaw26.MemoryKeeps', WHERE WHAT IT READS IS OF BULK AT MOST 1048576: true; the input reads as it did. -/
def memoryKeepsUptoRow : OpenClaim := { program := "ytpempcefgfmniaa", sum := "58ca4c8125927710607407856431860639f1f3f54279602e2bbde6c91e51a364", func := "bower/bowerlaw26.MemoryKeeps", spec := "memoryKeeps", unfollowed := true, recurses := true, apart := false, narrowed := true }
def MemoryKeepsUptoSaid : Prop := memoryKeepsUptoRow.holds Try.pinned (OpenSpec.upto memoryKeepsSpec)

/-- 'bowerlaw26.MemoryDoes', WHERE WHAT IT READS IS OF BULK AT MOST 1048576: true; the input reads as it did. -/
def memoryDoesUptoRow : OpenClaim := { program := "ytpempcefgfmniaa", sum := "58ca4c8125927710607407856431860639f1f3f54279602e2bbde6c91e51a364", func := "bower/bowerlaw26.MemoryDoes", spec := "memoryDoes", unfollowed := true, recurses := true, apart := false, narrowed := true }
def MemoryDoesUptoSaid : Prop := memoryDoesUptoRow.holds Try.pinned (OpenSpec.upto memoryDoesSpec)

/-- 'bowerlaw35.CarryGoes', WHERE WHAT IT READS IS OF BULK AT MOST 1048576: true; the input reads as it did. -/
def carryGoesUptoRow : OpenClaim := { program := "ytpempcefgfmniaa", sum := "58ca4c8125927710607407856431860639f1f3f54279602e2bbde6c91e51a364", func := "bower/bowerlaw35.CarryGoes", spec := "carryGoes", unfollowed := true, recurses := true, apart := false, narrowed := true }
def CarryGoesUptoSaid : Prop := carryGoesUptoRow.holds Try.pinned (OpenSpec.upto carryGoesSpec)

/-- 'bowerlaw35.CarryOnce', WHERE WHAT IT READS IS OF BULK AT MOST 1048576: true; the input reads as it did. -/
def carryOnceUptoRow : OpenClaim := { program := "ytpempcefgfmniaa", sum := "58ca4c8125927710607407856431860639f1f3f54279602e2bbde6c91e51a364", func := "bower/bowerlaw35.CarryOnce", spec := "carryOnce", unfollowed := true, recurses := true, apart := false, narrowed := true }
def CarryOnceUptoSaid : Prop := carryOnceUptoRow.holds Try.pinned (OpenSpec.upto carryOnceSpec)

/-- 'bowerlaw35.CarryNobody', WHERE WHAT IT READS IS OF BULK AT MOST 1048576: true; the input reads as it did. -/
def carryNobodyUptoRow : OpenClaim := { program := "ytpempcefgfmniaa", sum := "58ca4c8125927710607407856431860639f1f3f54279602e2bbde6c91e51a364", func := "bower/bowerlaw35.CarryNobody", spec := "carryNobody", unfollowed := true, recurses := true, apart := false, narrowed := true }
def CarryNobodyUptoSaid : Prop := carryNobodyUptoRow.holds Try.pinned (OpenSpec.upto carryNobodySpec)

end Rows
end Go.Proofs.Ytpempcefgfmniaa
