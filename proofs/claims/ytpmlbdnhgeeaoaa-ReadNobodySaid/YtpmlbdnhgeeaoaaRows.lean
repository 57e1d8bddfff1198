/-
  No cell of these rows narrows 'for every input' (looked for: loops, veiled, ifaces, maps, wideKeys, modest, calm, conditions, laid).
  DERIVED. THE GIVEN ROWS OF THIS SEAT. 17 by the template 'for every input the law returns true; each argument reads behind the call as it read before'; 0 by the template 'total and deterministic' (their statements: YtpmlbdnhgeeaoaaTotals.lean).
  GIVEN WITH THE SEED: the statements are not yours to turn. If you find one false, say at which input.
  Laid BY PROGRAM, IN A SANDBOX (cutbox-rows.mjs): the forced cells as the released guide's own fill.sh prints them over the translation 33d3bc3cdcb6adb8… (all of the seat's roots in one cut). By AI agents, Wed Nov 11 2026. No macro, syntax, notation, axiom, sorry.
-/
import Derived.Test.YtpmlbdnhgeeaoaaChecked
import GoSem.Claim
import GoSem.ClaimJoined
import GoSem.ClaimMapViews
import Derived.JoinedTies
import Derived.KernelRfl
namespace Go.Proofs.Ytpmlbdnhgeeaoaa
/- THE CELL 'sum', in the pinned program and in every row, IS THE sha256 OF THE DUMP (.gsa) THAT YtpmlbdnhgeeaoaaProg.lean LOADS. Nothing in Lean hashes anything: it is a label: what it is worth is what the hold of that sum in a sandbox is worth. -/
noncomputable def Try.pinned : Pinned := { name := "ytpmlbdnhgeeaoaa", sum := "33d3bc3cdcb6adb85c4935a4edb01e86d88a9b2611a8355c05a2a82ae0933354", checked := Try.checked }
namespace Rows
def none {H : Type} : Left H := { results := [], args := [] }

/-- 'bowerlaw26.MemoryNobody': WHATEVER THE INPUT: true; the input reads as it did. -/
def memoryNobodySpec : ChangeSpec := { name := "memoryNobody", fn := fun _ => fun
  | [d] => { results := [.lit (.bool true)], args := [d] }
  | _ => none }
def memoryNobodyRow : OpenClaim := { program := "ytpmlbdnhgeeaoaa", sum := "33d3bc3cdcb6adb85c4935a4edb01e86d88a9b2611a8355c05a2a82ae0933354", func := "bower/bowerlaw26.MemoryNobody", spec := "memoryNobody", unfollowed := true, recurses := true, apart := false }
def MemoryNobodySaid : Prop := memoryNobodyRow.holds Try.pinned (OpenSpec.ofChange memoryNobodySpec)

/-- ITS FALSE NEIGHBOUR: 'it returns false'. Refute it at one input. -/
def memoryNobodyWrong : ChangeSpec := { name := "memoryNobody", fn := fun _ => fun
  | [d] => { results := [.lit (.bool false)], args := [d] }
  | _ => none }
def MemoryNobodyWrongFalsely : Prop := memoryNobodyRow.holds Try.pinned (OpenSpec.ofChange memoryNobodyWrong)

/-- 'bowerlaw26.MemoryApart': WHATEVER THE INPUT: true; the input reads as it did. -/
def memoryApartSpec : ChangeSpec := { name := "memoryApart", fn := fun _ => fun
  | [d1, d2, d3, d4] => { results := [.lit (.bool true)], args := [d1, d2, d3, d4] }
  | _ => none }
def memoryApartRow : OpenClaim := { program := "ytpmlbdnhgeeaoaa", sum := "33d3bc3cdcb6adb85c4935a4edb01e86d88a9b2611a8355c05a2a82ae0933354", func := "bower/bowerlaw26.MemoryApart", spec := "memoryApart", unfollowed := true, recurses := true, apart := false }
def MemoryApartSaid : Prop := memoryApartRow.holds Try.pinned (OpenSpec.ofChange memoryApartSpec)

/-- ITS FALSE NEIGHBOUR: 'it returns false'. Refute it at one input. -/
def memoryApartWrong : ChangeSpec := { name := "memoryApart", fn := fun _ => fun
  | [d1, d2, d3, d4] => { results := [.lit (.bool false)], args := [d1, d2, d3, d4] }
  | _ => none }
def MemoryApartWrongFalsely : Prop := memoryApartRow.holds Try.pinned (OpenSpec.ofChange memoryApartWrong)

/-- 'bowerlaw26.MemoryKeeps': WHATEVER THE INPUT: true; the input reads as it did. -/
def memoryKeepsSpec : ChangeSpec := { name := "memoryKeeps", fn := fun _ => fun
  | [d1, d2] => { results := [.lit (.bool true)], args := [d1, d2] }
  | _ => none }
def memoryKeepsRow : OpenClaim := { program := "ytpmlbdnhgeeaoaa", sum := "33d3bc3cdcb6adb85c4935a4edb01e86d88a9b2611a8355c05a2a82ae0933354", func := "bower/bowerlaw26.MemoryKeeps", spec := "memoryKeeps", unfollowed := true, recurses := true, apart := false }
def MemoryKeepsSaid : Prop := memoryKeepsRow.holds Try.pinned (OpenSpec.ofChange memoryKeepsSpec)

/-- ITS FALSE NEIGHBOUR: 'it returns false'. Refute it at one input. -/
def memoryKeepsWrong : ChangeSpec := { name := "memoryKeeps", fn := fun _ => fun
  | [d1, d2] => { results := [.lit (.bool false)], args := [d1, d2] }
  | _ => none }
def MemoryKeepsWrongFalsely : Prop := memoryKeepsRow.holds Try.pinned (OpenSpec.ofChange memoryKeepsWrong)

/-- 'bowerlaw26.MemoryDoes': WHATEVER THE INPUT: true; the input reads as it did. -/
def memoryDoesSpec : ChangeSpec := { name := "memoryDoes", fn := fun _ => fun
  | [d1, d2, d3, d4] => { results := [.lit (.bool true)], args := [d1, d2, d3, d4] }
  | _ => none }
def memoryDoesRow : OpenClaim := { program := "ytpmlbdnhgeeaoaa", sum := "33d3bc3cdcb6adb85c4935a4edb01e86d88a9b2611a8355c05a2a82ae0933354", func := "bower/bowerlaw26.MemoryDoes", spec := "memoryDoes", unfollowed := true, recurses := true, apart := false }
def MemoryDoesSaid : Prop := memoryDoesRow.holds Try.pinned (OpenSpec.ofChange memoryDoesSpec)

/-- ITS FALSE NEIGHBOUR: 'it returns false'. Refute it at one input. -/
def memoryDoesWrong : ChangeSpec := { name := "memoryDoes", fn := fun _ => fun
  | [d1, d2, d3, d4] => { results := [.lit (.bool false)], args := [d1, d2, d3, d4] }
  | _ => none }
def MemoryDoesWrongFalsely : Prop := memoryDoesRow.holds Try.pinned (OpenSpec.ofChange memoryDoesWrong)

/-- 'bowerlaw30.ReadGoes': WHATEVER THE INPUT: true; the input reads as it did. -/
def readGoesSpec : ChangeSpec := { name := "readGoes", fn := fun _ => fun
  | [d1, d2, d3, d4] => { results := [.lit (.bool true)], args := [d1, d2, d3, d4] }
  | _ => none }
def readGoesRow : OpenClaim := { program := "ytpmlbdnhgeeaoaa", sum := "33d3bc3cdcb6adb85c4935a4edb01e86d88a9b2611a8355c05a2a82ae0933354", func := "bower/bowerlaw30.ReadGoes", spec := "readGoes", unfollowed := true, recurses := true, apart := false }
def ReadGoesSaid : Prop := readGoesRow.holds Try.pinned (OpenSpec.ofChange readGoesSpec)

/-- ITS FALSE NEIGHBOUR: 'it returns false'. Refute it at one input. -/
def readGoesWrong : ChangeSpec := { name := "readGoes", fn := fun _ => fun
  | [d1, d2, d3, d4] => { results := [.lit (.bool false)], args := [d1, d2, d3, d4] }
  | _ => none }
def ReadGoesWrongFalsely : Prop := readGoesRow.holds Try.pinned (OpenSpec.ofChange readGoesWrong)

/-- 'bowerlaw30.ReadHolds': WHATEVER THE INPUT: true; the input reads as it did. -/
def readHoldsSpec : ChangeSpec := { name := "readHolds", fn := fun _ => fun
  | [d1, d2] => { results := [.lit (.bool true)], args := [d1, d2] }
  | _ => none }
def readHoldsRow : OpenClaim := { program := "ytpmlbdnhgeeaoaa", sum := "33d3bc3cdcb6adb85c4935a4edb01e86d88a9b2611a8355c05a2a82ae0933354", func := "bower/bowerlaw30.ReadHolds", spec := "readHolds", unfollowed := true, recurses := true, apart := false }
def ReadHoldsSaid : Prop := readHoldsRow.holds Try.pinned (OpenSpec.ofChange readHoldsSpec)

/-- ITS FALSE NEIGHBOUR: 'it returns false'. Refute it at one input. -/
def readHoldsWrong : ChangeSpec := { name := "readHolds", fn := fun _ => fun
  | [d1, d2] => { results := [.lit (.bool false)], args := [d1, d2] }
  | _ => none }
def ReadHoldsWrongFalsely : Prop := readHoldsRow.holds Try.pinned (OpenSpec.ofChange readHoldsWrong)

/-- 'bowerlaw30.ReadNobody': WHATEVER THE INPUT: true; the input reads as it did. -/
def readNobodySpec : ChangeSpec := { name := "readNobody", fn := fun _ => fun
  | [d1, d2] => { results := [.lit (.bool true)], args := [d1, d2] }
  | _ => none }
def readNobodyRow : OpenClaim := { program := "ytpmlbdnhgeeaoaa", sum := "33d3bc3cdcb6adb85c4935a4edb01e86d88a9b2611a8355c05a2a82ae0933354", func := "bower/bowerlaw30.ReadNobody", spec := "readNobody", unfollowed := true, recurses := true, apart := false }
def ReadNobodySaid : Prop := readNobodyRow.holds Try.pinned (OpenSpec.ofChange readNobodySpec)

/-- ITS FALSE NEIGHBOUR: 'it returns false'. Refute it at one input. -/
def readNobodyWrong : ChangeSpec := { name := "readNobody", fn := fun _ => fun
  | [d1, d2] => { results := [.lit (.bool false)], args := [d1, d2] }
  | _ => none }
def ReadNobodyWrongFalsely : Prop := readNobodyRow.holds Try.pinned (OpenSpec.ofChange readNobodyWrong)

/-- 'bowerlaw33.ChooseGoes': WHATEVER THE INPUT: true; the input reads as it did. -/
def chooseGoesSpec : ChangeSpec := { name := "chooseGoes", fn := fun _ => fun
  | [d1, d2, d3] => { results := [.lit (.bool true)], args := [d1, d2, d3] }
  | _ => none }
def chooseGoesRow : OpenClaim := { program := "ytpmlbdnhgeeaoaa", sum := "33d3bc3cdcb6adb85c4935a4edb01e86d88a9b2611a8355c05a2a82ae0933354", func := "bower/bowerlaw33.ChooseGoes", spec := "chooseGoes", unfollowed := true, recurses := true, apart := false }
def ChooseGoesSaid : Prop := chooseGoesRow.holds Try.pinned (OpenSpec.ofChange chooseGoesSpec)

/-- ITS FALSE NEIGHBOUR: 'it returns false'. Refute it at one input. -/
def chooseGoesWrong : ChangeSpec := { name := "chooseGoes", fn := fun _ => fun
  | [d1, d2, d3] => { results := [.lit (.bool false)], args := [d1, d2, d3] }
  | _ => none }
def ChooseGoesWrongFalsely : Prop := chooseGoesRow.holds Try.pinned (OpenSpec.ofChange chooseGoesWrong)

/-- 'bowerlaw33.ChooseFirst': WHATEVER THE INPUT: true; the input reads as it did. -/
def chooseFirstSpec : ChangeSpec := { name := "chooseFirst", fn := fun _ => fun
  | [d1, d2] => { results := [.lit (.bool true)], args := [d1, d2] }
  | _ => none }
def chooseFirstRow : OpenClaim := { program := "ytpmlbdnhgeeaoaa", sum := "33d3bc3cdcb6adb85c4935a4edb01e86d88a9b2611a8355c05a2a82ae0933354", func := "bower/bowerlaw33.ChooseFirst", spec := "chooseFirst", unfollowed := true, recurses := true, apart := false }
def ChooseFirstSaid : Prop := chooseFirstRow.holds Try.pinned (OpenSpec.ofChange chooseFirstSpec)

/-- ITS FALSE NEIGHBOUR: 'it returns false'. Refute it at one input. -/
def chooseFirstWrong : ChangeSpec := { name := "chooseFirst", fn := fun _ => fun
  | [d1, d2] => { results := [.lit (.bool false)], args := [d1, d2] }
  | _ => none }
def ChooseFirstWrongFalsely : Prop := chooseFirstRow.holds Try.pinned (OpenSpec.ofChange chooseFirstWrong)

/-- 'bowerlaw29.ClaimApart': WHATEVER THE INPUT: true; the input reads as it did. -/
def claimApartSpec : ChangeSpec := { name := "claimApart", fn := fun _ => fun
  | [d1, d2, d3] => { results := [.lit (.bool true)], args := [d1, d2, d3] }
  | _ => none }
def claimApartRow : OpenClaim := { program := "ytpmlbdnhgeeaoaa", sum := "33d3bc3cdcb6adb85c4935a4edb01e86d88a9b2611a8355c05a2a82ae0933354", func := "bower/bowerlaw29.ClaimApart", spec := "claimApart", unfollowed := true, recurses := true, apart := false }
def ClaimApartSaid : Prop := claimApartRow.holds Try.pinned (OpenSpec.ofChange claimApartSpec)

/-- ITS FALSE NEIGHBOUR: 'it returns false'. Refute it at one input. -/
def claimApartWrong : ChangeSpec := { name := "claimApart", fn := fun _ => fun
  | [d1, d2, d3] => { results := [.lit (.bool false)], args := [d1, d2, d3] }
  | _ => none }
def ClaimApartWrongFalsely : Prop := claimApartRow.holds Try.pinned (OpenSpec.ofChange claimApartWrong)

/-- 'bowerlaw29.ClaimCosts': WHATEVER THE INPUT: true; the input reads as it did. -/
def claimCostsSpec : ChangeSpec := { name := "claimCosts", fn := fun _ => fun
  | [d1, d2] => { results := [.lit (.bool true)], args := [d1, d2] }
  | _ => none }
def claimCostsRow : OpenClaim := { program := "ytpmlbdnhgeeaoaa", sum := "33d3bc3cdcb6adb85c4935a4edb01e86d88a9b2611a8355c05a2a82ae0933354", func := "bower/bowerlaw29.ClaimCosts", spec := "claimCosts", unfollowed := true, recurses := true, apart := false }
def ClaimCostsSaid : Prop := claimCostsRow.holds Try.pinned (OpenSpec.ofChange claimCostsSpec)

/-- ITS FALSE NEIGHBOUR: 'it returns false'. Refute it at one input. -/
def claimCostsWrong : ChangeSpec := { name := "claimCosts", fn := fun _ => fun
  | [d1, d2] => { results := [.lit (.bool false)], args := [d1, d2] }
  | _ => none }
def ClaimCostsWrongFalsely : Prop := claimCostsRow.holds Try.pinned (OpenSpec.ofChange claimCostsWrong)

/-- 'bowerlaw35.CarryGoes': WHATEVER THE INPUT: true; the input reads as it did. -/
def carryGoesSpec : ChangeSpec := { name := "carryGoes", fn := fun _ => fun
  | [d1, d2, d3, d4, d5] => { results := [.lit (.bool true)], args := [d1, d2, d3, d4, d5] }
  | _ => none }
def carryGoesRow : OpenClaim := { program := "ytpmlbdnhgeeaoaa", sum := "33d3bc3cdcb6adb85c4935a4edb01e86d88a9b2611a8355c05a2a82ae0933354", func := "bower/bowerlaw35.CarryGoes", spec := "carryGoes", unfollowed := true, recurses := true, apart := false }
def CarryGoesSaid : Prop := carryGoesRow.holds Try.pinned (OpenSpec.ofChange carryGoesSpec)

/-- ITS FALSE NEIGHBOUR: 'it returns false'. Refute it at one input. -/
def carryGoesWrong : ChangeSpec := { name := "carryGoes", fn := fun _ => fun
  | [d1, d2, d3, d4, d5] => { results := [.lit (.bool false)], args := [d1, d2, d3, d4, d5] }
  | _ => none }
def CarryGoesWrongFalsely : Prop := carryGoesRow.holds Try.pinned (OpenSpec.ofChange carryGoesWrong)

/-- 'bowerlaw35.CarryOnce': WHATEVER THE INPUT: true; the input reads as it did. -/
def carryOnceSpec : ChangeSpec := { name := "carryOnce", fn := fun _ => fun
  | [d1, d2, d3] => { results := [.lit (.bool true)], args := [d1, d2, d3] }
  | _ => none }
def carryOnceRow : OpenClaim := { program := "ytpmlbdnhgeeaoaa", sum := "33d3bc3cdcb6adb85c4935a4edb01e86d88a9b2611a8355c05a2a82ae0933354", func := "bower/bowerlaw35.CarryOnce", spec := "carryOnce", unfollowed := true, recurses := true, apart := false }
def CarryOnceSaid : Prop := carryOnceRow.holds Try.pinned (OpenSpec.ofChange carryOnceSpec)

/-- ITS FALSE NEIGHBOUR: 'it returns false'. Refute it at one input. -/
def carryOnceWrong : ChangeSpec := { name := "carryOnce", fn := fun _ => fun
  | [d1, d2, d3] => { results := [.lit (.bool false)], args := [d1, d2, d3] }
  | _ => none }
def CarryOnceWrongFalsely : Prop := carryOnceRow.holds Try.pinned (OpenSpec.ofChange carryOnceWrong)

/-- 'bowerlaw35.CarryNobody': WHATEVER THE INPUT: true; the input reads as it did. -/
def carryNobodySpec : ChangeSpec := { name := "carryNobody", fn := fun _ => fun
  | [d1, d2] => { results := [.lit (.bool true)], args := [d1, d2] }
  | _ => none }
def carryNobodyRow : OpenClaim := { program := "ytpmlbdnhgeeaoaa", sum := "33d3bc3cdcb6adb85c4935a4edb01e86d88a9b2611a8355c05a2a82ae0933354", func := "bower/bowerlaw35.CarryNobody", spec := "carryNobody", unfollowed := true, recurses := true, apart := false }
def CarryNobodySaid : Prop := carryNobodyRow.holds Try.pinned (OpenSpec.ofChange carryNobodySpec)

/-- ITS FALSE NEIGHBOUR: 'it returns false'. Refute it at one input. -/
def carryNobodyWrong : ChangeSpec := { name := "carryNobody", fn := fun _ => fun
  | [d1, d2] => { results := [.lit (.bool false)], args := [d1, d2] }
  | _ => none }
def CarryNobodyWrongFalsely : Prop := carryNobodyRow.holds Try.pinned (OpenSpec.ofChange carryNobodyWrong)

/-- 'bowerlaw28.RetireKeeps': WHATEVER THE INPUT: true; the input reads as it did. -/
def retireKeepsSpec : ChangeSpec := { name := "retireKeeps", fn := fun _ => fun
  | [d1, d2] => { results := [.lit (.bool true)], args := [d1, d2] }
  | _ => none }
def retireKeepsRow : OpenClaim := { program := "ytpmlbdnhgeeaoaa", sum := "33d3bc3cdcb6adb85c4935a4edb01e86d88a9b2611a8355c05a2a82ae0933354", func := "bower/bowerlaw28.RetireKeeps", spec := "retireKeeps", unfollowed := true, recurses := true, apart := false }
def RetireKeepsSaid : Prop := retireKeepsRow.holds Try.pinned (OpenSpec.ofChange retireKeepsSpec)

/-- ITS FALSE NEIGHBOUR: 'it returns false'. Refute it at one input. -/
def retireKeepsWrong : ChangeSpec := { name := "retireKeeps", fn := fun _ => fun
  | [d1, d2] => { results := [.lit (.bool false)], args := [d1, d2] }
  | _ => none }
def RetireKeepsWrongFalsely : Prop := retireKeepsRow.holds Try.pinned (OpenSpec.ofChange retireKeepsWrong)

/-- 'bowerlaw28.RetireSweeps': WHATEVER THE INPUT: true; the input reads as it did. -/
def retireSweepsSpec : ChangeSpec := { name := "retireSweeps", fn := fun _ => fun
  | [d] => { results := [.lit (.bool true)], args := [d] }
  | _ => none }
def retireSweepsRow : OpenClaim := { program := "ytpmlbdnhgeeaoaa", sum := "33d3bc3cdcb6adb85c4935a4edb01e86d88a9b2611a8355c05a2a82ae0933354", func := "bower/bowerlaw28.RetireSweeps", spec := "retireSweeps", unfollowed := true, recurses := true, apart := false }
def RetireSweepsSaid : Prop := retireSweepsRow.holds Try.pinned (OpenSpec.ofChange retireSweepsSpec)

/-- ITS FALSE NEIGHBOUR: 'it returns false'. Refute it at one input. -/
def retireSweepsWrong : ChangeSpec := { name := "retireSweeps", fn := fun _ => fun
  | [d] => { results := [.lit (.bool false)], args := [d] }
  | _ => none }
def RetireSweepsWrongFalsely : Prop := retireSweepsRow.holds Try.pinned (OpenSpec.ofChange retireSweepsWrong)

/-- 'bowerlaw28.RetireCosts': WHATEVER THE INPUT: true; the input reads as it did. -/
def retireCostsSpec : ChangeSpec := { name := "retireCosts", fn := fun _ => fun
  | [d1, d2] => { results := [.lit (.bool true)], args := [d1, d2] }
  | _ => none }
def retireCostsRow : OpenClaim := { program := "ytpmlbdnhgeeaoaa", sum := "33d3bc3cdcb6adb85c4935a4edb01e86d88a9b2611a8355c05a2a82ae0933354", func := "bower/bowerlaw28.RetireCosts", spec := "retireCosts", unfollowed := true, recurses := true, apart := false }
def RetireCostsSaid : Prop := retireCostsRow.holds Try.pinned (OpenSpec.ofChange retireCostsSpec)

/-- ITS FALSE NEIGHBOUR: 'it returns false'. Refute it at one input. -/
def retireCostsWrong : ChangeSpec := { name := "retireCosts", fn := fun _ => fun
  | [d1, d2] => { results := [.lit (.bool false)], args := [d1, d2] }
  | _ => none }
def RetireCostsWrongFalsely : Prop := retireCostsRow.holds Try.pinned (OpenSpec.ofChange retireCostsWrong)

/- THE SECOND FORM. 'bulk': how many values and letters a reading holds, each counted each time it is reached (what is shared counts as often as it is met; a slice's spare places count too). A statement '..UptoSaid' is the law's where the arguments, and the package variables that the reading takes, are together of bulk at most 1048576: NARROWER than '..Said'. Prove '..Said' where nothing that the law and all that it calls make is longer than what came in: it says more and counts as full. Else prove '..UptoSaid'. A law counts once. -/
mutual
def uptoBulk {H : Type} : DataW H → Nat
  | .lit (.string bytes) => bytes.length + 1
  | .lit _ => 1
  | .nil => 1
  | .ptr d => uptoBulk d + 1
  | .slice elems spare => uptoBulkAll elems + uptoBulkAll spare + 1
  | .agg parts => uptoBulkAll parts + 1
  | .iface _ d => uptoBulk d + 1
  | .map entries => uptoBulkEntries entries + 1
  | .held _ => 1
def uptoBulkAll {H : Type} : List (DataW H) → Nat
  | [] => 0
  | d :: r => uptoBulk d + uptoBulkAll r
def uptoBulkEntries {H : Type} : List (Lit × DataW H) → Nat
  | [] => 0
  | x :: r => uptoBulkEntry x + uptoBulkEntries r
def uptoBulkEntry {H : Type} : Lit × DataW H → Nat
  | (.string bytes, d) => bytes.length + uptoBulk d + 1
  | (_, d) => uptoBulk d + 1
 end
def uptoSmall : (H : Type) → List (DataW H) → Bool := fun _ ds => decide (uptoBulkAll ds ≤ 1048576)
def OpenSpec.upto (s : _root_.Go.ChangeSpec) : _root_.Go.OpenSpec := { _root_.Go.OpenSpec.ofChange s with cond := some uptoSmall }

/-- 'bowerlaw26.MemoryNobody', WHERE WHAT IT READS IS OF BULK AT MOST 1048576: true; the input reads as it did. -/
def memoryNobodyUptoRow : OpenClaim := { program := "ytpmlbdnhgeeaoaa", sum := "33d3bc3cdcb6adb85c4935a4edb01e86d88a9b2611a8355c05a2a82ae0933354", func := "bower/bowerlaw26.MemoryNobody", spec := "memoryNobody", unfollowed := true, recurses := true, apart := false, narrowed := true }
def MemoryNobodyUptoSaid : Prop := memoryNobodyUptoRow.holds Try.pinned (OpenSpec.upto memoryNobodySpec)

/-- 'bowerlaw26.MemoryApart', WHERE WHAT IT READS IS OF BULK AT MOST 1048576: true; the input reads as it did. -/
def memoryApartUptoRow : OpenClaim := { program := "ytpmlbdnhgeeaoaa", sum := "33d3bc3cdcb6adb85c4935a4edb01e86d88a9b2611a8355c05a2a82ae0933354", func := "bower/bowerlaw26.MemoryApart", spec := "memoryApart", unfollowed := true, recurses := true, apart := false, narrowed := true }
def MemoryApartUptoSaid : Prop := memoryApartUptoRow.holds Try.pinned (OpenSpec.upto memoryApartSpec)

/-- 'bowerlaw26.MemoryKeeps', WHERE WHAT IT READS IS OF BULK AT MOST 1048576: true; the input reads as it did. -/
def memoryKeepsUptoRow : OpenClaim := { program := "ytpmlbdnhgeeaoaa", sum := "33d3bc3cdcb6adb85c4935a4edb01e86d88a9b2611a8355c05a2a82ae0933354", func := "bower/bowerlaw26.MemoryKeeps", spec := "memoryKeeps", unfollowed := true, recurses := true, apart := false, narrowed := true }
def MemoryKeepsUptoSaid : Prop := memoryKeepsUptoRow.holds Try.pinned (OpenSpec.upto memoryKeepsSpec)

/-- 'bowerlaw26.MemoryDoes', WHERE WHAT IT READS IS OF BULK AT MOST 1048576: true; the input reads as it did. -/
def memoryDoesUptoRow : OpenClaim := { program := "ytpmlbdnhgeeaoaa", sum := "33d3bc3cdcb6adb85c4935a4edb01e86d88a9b2611a8355c05a2a82ae0933354", func := "bower/bowerlaw26.MemoryDoes", spec := "memoryDoes", unfollowed := true, recurses := true, apart := false, narrowed := true }
def MemoryDoesUptoSaid : Prop := memoryDoesUptoRow.holds Try.pinned (OpenSpec.upto memoryDoesSpec)

/-- 'bowerlaw30.ReadGoes', WHERE WHAT IT READS IS OF BULK AT MOST 1048576: true; the input reads as it did. -/
def readGoesUptoRow : OpenClaim := { program := "ytpmlbdnhgeeaoaa", sum := "33d3bc3cdcb6adb85c4935a4edb01e86d88a9b2611a8355c05a2a82ae0933354", func := "bower/bowerlaw30.ReadGoes", spec := "readGoes", unfollowed := true, recurses := true, apart := false, narrowed := true }
def ReadGoesUptoSaid : Prop := readGoesUptoRow.holds Try.pinned (OpenSpec.upto readGoesSpec)

/-- 'bowerlaw30.ReadHolds', WHERE WHAT IT READS IS OF BULK AT MOST 1048576: true; the input reads as it did. -/
def readHoldsUptoRow : OpenClaim := { program := "ytpmlbdnhgeeaoaa", sum := "33d3bc3cdcb6adb85c4935a4edb01e86d88a9b2611a8355c05a2a82ae0933354", func := "bower/bowerlaw30.ReadHolds", spec := "readHolds", unfollowed := true, recurses := true, apart := false, narrowed := true }
def ReadHoldsUptoSaid : Prop := readHoldsUptoRow.holds Try.pinned (OpenSpec.upto readHoldsSpec)

/-- 'bowerlaw30.ReadNobody', WHERE WHAT IT READS IS OF BULK AT MOST 1048576: true; the input reads as it did. -/
def readNobodyUptoRow : OpenClaim := { program := "ytpmlbdnhgeeaoaa", sum := "33d3bc3cdcb6adb85c4935a4edb01e86d88a9b2611a8355c05a2a82ae0933354", func := "bower/bowerlaw30.ReadNobody", spec := "readNobody", unfollowed := true, recurses := true, apart := false, narrowed := true }
def ReadNobodyUptoSaid : Prop := readNobodyUptoRow.holds Try.pinned (OpenSpec.upto readNobodySpec)

/-- 'bowerlaw33.ChooseGoes', WHERE WHAT IT READS IS OF BULK AT MOST 1048576: true; the input reads as it did. -/
def chooseGoesUptoRow : OpenClaim := { program := "ytpmlbdnhgeeaoaa", sum := "33d3bc3cdcb6adb85c4935a4edb01e86d88a9b2611a8355c05a2a82ae0933354", func := "bower/bowerlaw33.ChooseGoes", spec := "chooseGoes", unfollowed := true, recurses := true, apart := false, narrowed := true }
def ChooseGoesUptoSaid : Prop := chooseGoesUptoRow.holds Try.pinned (OpenSpec.upto chooseGoesSpec)

/-- 'bowerlaw33.ChooseFirst', WHERE WHAT IT READS IS OF BULK AT MOST 1048576: true; the input reads as it did. -/
def chooseFirstUptoRow : OpenClaim := { program := "ytpmlbdnhgeeaoaa", sum := "33d3bc3cdcb6adb85c4935a4edb01e86d88a9b2611a8355c05a2a82ae0933354", func := "bower/bowerlaw33.ChooseFirst", spec := "chooseFirst", unfollowed := true, recurses := true, apart := false, narrowed := true }
def ChooseFirstUptoSaid : Prop := chooseFirstUptoRow.holds Try.pinned (OpenSpec.upto chooseFirstSpec)

/-- 'bowerlaw29.ClaimApart', WHERE WHAT IT READS IS OF BULK AT MOST 1048576: true; the input reads as it did. -/
def claimApartUptoRow : OpenClaim := { program := "ytpmlbdnhgeeaoaa", sum := "33d3bc3cdcb6adb85c4935a4edb01e86d88a9b2611a8355c05a2a82ae0933354", func := "bower/bowerlaw29.ClaimApart", spec := "claimApart", unfollowed := true, recurses := true, apart := false, narrowed := true }
def ClaimApartUptoSaid : Prop := claimApartUptoRow.holds Try.pinned (OpenSpec.upto claimApartSpec)

/-- 'bowerlaw29.ClaimCosts', WHERE WHAT IT READS IS OF BULK AT MOST 1048576: true; the input reads as it did. -/
def claimCostsUptoRow : OpenClaim := { program := "ytpmlbdnhgeeaoaa", sum := "33d3bc3cdcb6adb85c4935a4edb01e86d88a9b2611a8355c05a2a82ae0933354", func := "bower/bowerlaw29.ClaimCosts", spec := "claimCosts", unfollowed := true, recurses := true, apart := false, narrowed := true }
def ClaimCostsUptoSaid : Prop := claimCostsUptoRow.holds Try.pinned (OpenSpec.upto claimCostsSpec)

/-- 'bowerlaw35.CarryGoes', WHERE WHAT IT READS IS OF BULK AT MOST 1048576: true; the input reads as it did. -/
def carryGoesUptoRow : OpenClaim := { program := "ytpmlbdnhgeeaoaa", sum := "33d3bc3cdcb6adb85c4935a4edb01e86d88a9b2611a8355c05a2a82ae0933354", func := "bower/bowerlaw35.CarryGoes", spec := "carryGoes", unfollowed := true, recurses := true, apart := false, narrowed := true }
def CarryGoesUptoSaid : Prop := carryGoesUptoRow.holds Try.pinned (OpenSpec.upto carryGoesSpec)

/-- 'bowerlaw35.CarryOnce', WHERE WHAT IT READS IS OF BULK AT MOST 1048576: true; the input reads as it did. -/
def carryOnceUptoRow : OpenClaim := { program := "ytpmlbdnhgeeaoaa", sum := "33d3bc3cdcb6adb85c4935a4edb01e86d88a9b2611a8355c05a2a82ae0933354", func := "bower/bowerlaw35.CarryOnce", spec := "carryOnce", unfollowed := true, recurses := true, apart := false, narrowed := true }
def CarryOnceUptoSaid : Prop := carryOnceUptoRow.holds Try.pinned (OpenSpec.upto carryOnceSpec)

/-- 'bowerlaw35.CarryNobody', WHERE WHAT IT READS IS OF BULK AT MOST 1048576: true; the input reads as it did. -/
def carryNobodyUptoRow : OpenClaim := { program := "ytpmlbdnhgeeaoaa", sum := "33d3bc3cdcb6adb85c4935a4edb01e86d88a9b2611a8355c05a2a82ae0933354", func := "bower/bowerlaw35.CarryNobody", spec := "carryNobody", unfollowed := true, recurses := true, apart := false, narrowed := true }
def CarryNobodyUptoSaid : Prop := carryNobodyUptoRow.holds Try.pinned (OpenSpec.upto carryNobodySpec)

/-- 'bowerlaw28.RetireKeeps', WHERE WHAT IT READS IS OF BULK AT MOST 1048576: true; the input reads as it did. -/
def retireKeepsUptoRow : OpenClaim := { program := "ytpmlbdnhgeeaoaa", sum := "33d3bc3cdcb6adb85c4935a4edb01e86d88a9b2611a8355c05a2a82ae0933354", func := "bower/bowerlaw28.RetireKeeps", spec := "retireKeeps", unfollowed := true, recurses := true, apart := false, narrowed := true }
def RetireKeepsUptoSaid : Prop := retireKeepsUptoRow.holds Try.pinned (OpenSpec.upto retireKeepsSpec)

/-- 'bowerlaw28.RetireSweeps', WHERE WHAT IT READS IS OF BULK AT MOST 1048576: true; the input reads as it did. -/
def retireSweepsUptoRow : OpenClaim := { program := "ytpmlbdnhgeeaoaa", sum := "33d3bc3cdcb6adb85c4935a4edb01e86d88a9b2611a8355c05a2a82ae0933354", func := "bower/bowerlaw28.RetireSweeps", spec := "retireSweeps", unfollowed := true, recurses := true, apart := false, narrowed := true }
def RetireSweepsUptoSaid : Prop := retireSweepsUptoRow.holds Try.pinned (OpenSpec.upto retireSweepsSpec)

/-- 'bowerlaw28.RetireCosts', WHERE WHAT IT READS IS OF BULK AT MOST 1048576: true; the input reads as it did. -/
def retireCostsUptoRow : OpenClaim := { program := "ytpmlbdnhgeeaoaa", sum := "33d3bc3cdcb6adb85c4935a4edb01e86d88a9b2611a8355c05a2a82ae0933354", func := "bower/bowerlaw28.RetireCosts", spec := "retireCosts", unfollowed := true, recurses := true, apart := false, narrowed := true }
def RetireCostsUptoSaid : Prop := retireCostsUptoRow.holds Try.pinned (OpenSpec.upto retireCostsSpec)

end Rows
end Go.Proofs.Ytpmlbdnhgeeaoaa
