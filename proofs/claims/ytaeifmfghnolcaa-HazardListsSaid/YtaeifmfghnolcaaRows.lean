/-
  No cell of these rows narrows 'for every input' (looked for: loops, veiled, ifaces, maps, wideKeys, modest, calm, conditions, laid).
  DERIVED. THE GIVEN ROWS OF THIS SEAT. 10 by the template 'for every input the law returns true; each argument reads behind the call as it read before'; 0 by the template 'total and deterministic' (their statements: YtaeifmfghnolcaaTotals.lean).
  GIVEN WITH THE SEED: the statements are not yours to turn. If you find one false, say at which input.
  Laid BY PROGRAM, IN A SANDBOX (cutbox-rows.mjs): the forced cells as the released guide's own fill.sh prints them over the translation 5077be441c525839… (all of the seat's roots in one cut). By AI agents, Wed Nov 11 2026. No macro, syntax, notation, axiom, sorry.
-/
import Derived.Test.YtaeifmfghnolcaaChecked
import GoSem.Claim
import GoSem.ClaimJoined
import GoSem.ClaimMapViews
import Derived.JoinedTies
import Derived.KernelRfl
namespace Go.Proofs.Ytaeifmfghnolcaa
/- THE CELL 'sum', in the pinned program and in every row, IS THE sha256 OF THE DUMP (.gsa) THAT YtaeifmfghnolcaaProg.lean LOADS. Nothing in Lean hashes anything: it is a label: what it is worth is what the hold of that sum in a sandbox is worth. -/
noncomputable def Try.pinned : Pinned := { name := "ytaeifmfghnolcaa", sum := "5077be441c5258394d35d68bd75a479ea2a42cb45151027c8137eb83a3e8b700", checked := Try.checked }
namespace Rows
def none {H : Type} : Left H := { results := [], args := [] }

/-- 'bowerlaw32.GateAfter': WHATEVER THE INPUT: true; the input reads as it did. -/
def gateAfterSpec : ChangeSpec := { name := "gateAfter", fn := fun _ => fun
  | [d1, d2, d3] => { results := [.lit (.bool true)], args := [d1, d2, d3] }
  | _ => none }
def gateAfterRow : OpenClaim := { program := "ytaeifmfghnolcaa", sum := "5077be441c5258394d35d68bd75a479ea2a42cb45151027c8137eb83a3e8b700", func := "bower/bowerlaw32.GateAfter", spec := "gateAfter", apart := false }
def GateAfterSaid : Prop := gateAfterRow.holds Try.pinned (OpenSpec.ofChange gateAfterSpec)

/-- ITS FALSE NEIGHBOUR: 'it returns false'. Refute it at one input. -/
def gateAfterWrong : ChangeSpec := { name := "gateAfter", fn := fun _ => fun
  | [d1, d2, d3] => { results := [.lit (.bool false)], args := [d1, d2, d3] }
  | _ => none }
def GateAfterWrongFalsely : Prop := gateAfterRow.holds Try.pinned (OpenSpec.ofChange gateAfterWrong)

/-- 'bowerlaw08.CellOnce': WHATEVER THE INPUT: true; the input reads as it did. -/
def cellOnceSpec : ChangeSpec := { name := "cellOnce", fn := fun _ => fun
  | [d1, d2] => { results := [.lit (.bool true)], args := [d1, d2] }
  | _ => none }
def cellOnceRow : OpenClaim := { program := "ytaeifmfghnolcaa", sum := "5077be441c5258394d35d68bd75a479ea2a42cb45151027c8137eb83a3e8b700", func := "bower/bowerlaw08.CellOnce", spec := "cellOnce", apart := false }
def CellOnceSaid : Prop := cellOnceRow.holds Try.pinned (OpenSpec.ofChange cellOnceSpec)

/-- ITS FALSE NEIGHBOUR: 'it returns false'. Refute it at one input. -/
def cellOnceWrong : ChangeSpec := { name := "cellOnce", fn := fun _ => fun
  | [d1, d2] => { results := [.lit (.bool false)], args := [d1, d2] }
  | _ => none }
def CellOnceWrongFalsely : Prop := cellOnceRow.holds Try.pinned (OpenSpec.ofChange cellOnceWrong)

/-- 'bowerlaw08.CellPlays': WHATEVER THE INPUT: true; the input reads as it did. -/
def cellPlaysSpec : ChangeSpec := { name := "cellPlays", fn := fun _ => fun
  | [d1, d2] => { results := [.lit (.bool true)], args := [d1, d2] }
  | _ => none }
def cellPlaysRow : OpenClaim := { program := "ytaeifmfghnolcaa", sum := "5077be441c5258394d35d68bd75a479ea2a42cb45151027c8137eb83a3e8b700", func := "bower/bowerlaw08.CellPlays", spec := "cellPlays", apart := false }
def CellPlaysSaid : Prop := cellPlaysRow.holds Try.pinned (OpenSpec.ofChange cellPlaysSpec)

/-- ITS FALSE NEIGHBOUR: 'it returns false'. Refute it at one input. -/
def cellPlaysWrong : ChangeSpec := { name := "cellPlays", fn := fun _ => fun
  | [d1, d2] => { results := [.lit (.bool false)], args := [d1, d2] }
  | _ => none }
def CellPlaysWrongFalsely : Prop := cellPlaysRow.holds Try.pinned (OpenSpec.ofChange cellPlaysWrong)

/-- 'bowerlaw32.GateFirst': WHATEVER THE INPUT: true; the input reads as it did. -/
def gateFirstSpec : ChangeSpec := { name := "gateFirst", fn := fun _ => fun
  | [d] => { results := [.lit (.bool true)], args := [d] }
  | _ => none }
def gateFirstRow : OpenClaim := { program := "ytaeifmfghnolcaa", sum := "5077be441c5258394d35d68bd75a479ea2a42cb45151027c8137eb83a3e8b700", func := "bower/bowerlaw32.GateFirst", spec := "gateFirst", unfollowed := true, recurses := true, apart := false }
def GateFirstSaid : Prop := gateFirstRow.holds Try.pinned (OpenSpec.ofChange gateFirstSpec)

/-- ITS FALSE NEIGHBOUR: 'it returns false'. Refute it at one input. -/
def gateFirstWrong : ChangeSpec := { name := "gateFirst", fn := fun _ => fun
  | [d] => { results := [.lit (.bool false)], args := [d] }
  | _ => none }
def GateFirstWrongFalsely : Prop := gateFirstRow.holds Try.pinned (OpenSpec.ofChange gateFirstWrong)

/-- 'bowerlaw07.RefPacks': WHATEVER THE INPUT: true; the input reads as it did. -/
def refPacksSpec : ChangeSpec := { name := "refPacks", fn := fun _ => fun
  | [d1, d2, d3] => { results := [.lit (.bool true)], args := [d1, d2, d3] }
  | _ => none }
def refPacksRow : OpenClaim := { program := "ytaeifmfghnolcaa", sum := "5077be441c5258394d35d68bd75a479ea2a42cb45151027c8137eb83a3e8b700", func := "bower/bowerlaw07.RefPacks", spec := "refPacks", unfollowed := true, recurses := true, apart := false }
def RefPacksSaid : Prop := refPacksRow.holds Try.pinned (OpenSpec.ofChange refPacksSpec)

/-- ITS FALSE NEIGHBOUR: 'it returns false'. Refute it at one input. -/
def refPacksWrong : ChangeSpec := { name := "refPacks", fn := fun _ => fun
  | [d1, d2, d3] => { results := [.lit (.bool false)], args := [d1, d2, d3] }
  | _ => none }
def RefPacksWrongFalsely : Prop := refPacksRow.holds Try.pinned (OpenSpec.ofChange refPacksWrong)

/-- 'bowerlaw07.RefGates': WHATEVER THE INPUT: true; the input reads as it did. -/
def refGatesSpec : ChangeSpec := { name := "refGates", fn := fun _ => fun
  | [d1, d2] => { results := [.lit (.bool true)], args := [d1, d2] }
  | _ => none }
def refGatesRow : OpenClaim := { program := "ytaeifmfghnolcaa", sum := "5077be441c5258394d35d68bd75a479ea2a42cb45151027c8137eb83a3e8b700", func := "bower/bowerlaw07.RefGates", spec := "refGates", unfollowed := true, recurses := true, apart := false }
def RefGatesSaid : Prop := refGatesRow.holds Try.pinned (OpenSpec.ofChange refGatesSpec)

/-- ITS FALSE NEIGHBOUR: 'it returns false'. Refute it at one input. -/
def refGatesWrong : ChangeSpec := { name := "refGates", fn := fun _ => fun
  | [d1, d2] => { results := [.lit (.bool false)], args := [d1, d2] }
  | _ => none }
def RefGatesWrongFalsely : Prop := refGatesRow.holds Try.pinned (OpenSpec.ofChange refGatesWrong)

/-- 'bowerlaw07.RefOnce': WHATEVER THE INPUT: true; the input reads as it did. -/
def refOnceSpec : ChangeSpec := { name := "refOnce", fn := fun _ => fun
  | [d1, d2, d3, d4] => { results := [.lit (.bool true)], args := [d1, d2, d3, d4] }
  | _ => none }
def refOnceRow : OpenClaim := { program := "ytaeifmfghnolcaa", sum := "5077be441c5258394d35d68bd75a479ea2a42cb45151027c8137eb83a3e8b700", func := "bower/bowerlaw07.RefOnce", spec := "refOnce", unfollowed := true, recurses := true, apart := false }
def RefOnceSaid : Prop := refOnceRow.holds Try.pinned (OpenSpec.ofChange refOnceSpec)

/-- ITS FALSE NEIGHBOUR: 'it returns false'. Refute it at one input. -/
def refOnceWrong : ChangeSpec := { name := "refOnce", fn := fun _ => fun
  | [d1, d2, d3, d4] => { results := [.lit (.bool false)], args := [d1, d2, d3, d4] }
  | _ => none }
def RefOnceWrongFalsely : Prop := refOnceRow.holds Try.pinned (OpenSpec.ofChange refOnceWrong)

/-- 'bowerlaw27.HazardLists': WHATEVER THE INPUT: true; the input reads as it did. -/
def hazardListsSpec : ChangeSpec := { name := "hazardLists", fn := fun _ => fun
  | [d1, d2] => { results := [.lit (.bool true)], args := [d1, d2] }
  | _ => none }
def hazardListsRow : OpenClaim := { program := "ytaeifmfghnolcaa", sum := "5077be441c5258394d35d68bd75a479ea2a42cb45151027c8137eb83a3e8b700", func := "bower/bowerlaw27.HazardLists", spec := "hazardLists", unfollowed := true, recurses := true, apart := false }
def HazardListsSaid : Prop := hazardListsRow.holds Try.pinned (OpenSpec.ofChange hazardListsSpec)

/-- ITS FALSE NEIGHBOUR: 'it returns false'. Refute it at one input. -/
def hazardListsWrong : ChangeSpec := { name := "hazardLists", fn := fun _ => fun
  | [d1, d2] => { results := [.lit (.bool false)], args := [d1, d2] }
  | _ => none }
def HazardListsWrongFalsely : Prop := hazardListsRow.holds Try.pinned (OpenSpec.ofChange hazardListsWrong)

/-- 'bowerlaw27.HazardRoom': WHATEVER THE INPUT: true; the input reads as it did. -/
def hazardRoomSpec : ChangeSpec := { name := "hazardRoom", fn := fun _ => fun
  | [d1, d2, d3] => { results := [.lit (.bool true)], args := [d1, d2, d3] }
  | _ => none }
def hazardRoomRow : OpenClaim := { program := "ytaeifmfghnolcaa", sum := "5077be441c5258394d35d68bd75a479ea2a42cb45151027c8137eb83a3e8b700", func := "bower/bowerlaw27.HazardRoom", spec := "hazardRoom", unfollowed := true, recurses := true, apart := false }
def HazardRoomSaid : Prop := hazardRoomRow.holds Try.pinned (OpenSpec.ofChange hazardRoomSpec)

/-- ITS FALSE NEIGHBOUR: 'it returns false'. Refute it at one input. -/
def hazardRoomWrong : ChangeSpec := { name := "hazardRoom", fn := fun _ => fun
  | [d1, d2, d3] => { results := [.lit (.bool false)], args := [d1, d2, d3] }
  | _ => none }
def HazardRoomWrongFalsely : Prop := hazardRoomRow.holds Try.pinned (OpenSpec.ofChange hazardRoomWrong)

/-- 'bowerlaw27.HazardSifts': WHATEVER THE INPUT: true; the input reads as it did. -/
def hazardSiftsSpec : ChangeSpec := { name := "hazardSifts", fn := fun _ => fun
  | [d1, d2, d3, d4] => { results := [.lit (.bool true)], args := [d1, d2, d3, d4] }
  | _ => none }
def hazardSiftsRow : OpenClaim := { program := "ytaeifmfghnolcaa", sum := "5077be441c5258394d35d68bd75a479ea2a42cb45151027c8137eb83a3e8b700", func := "bower/bowerlaw27.HazardSifts", spec := "hazardSifts", unfollowed := true, recurses := true, apart := false }
def HazardSiftsSaid : Prop := hazardSiftsRow.holds Try.pinned (OpenSpec.ofChange hazardSiftsSpec)

/-- ITS FALSE NEIGHBOUR: 'it returns false'. Refute it at one input. -/
def hazardSiftsWrong : ChangeSpec := { name := "hazardSifts", fn := fun _ => fun
  | [d1, d2, d3, d4] => { results := [.lit (.bool false)], args := [d1, d2, d3, d4] }
  | _ => none }
def HazardSiftsWrongFalsely : Prop := hazardSiftsRow.holds Try.pinned (OpenSpec.ofChange hazardSiftsWrong)

/- THE SECOND FORM. 'bulk': how many values and letters a reading holds, each counted each time it is reached (what is shared counts as often as it is met; a slice's spare places count too). A statement '..UptoSaid' is the law's where the arguments, and the package variables that the reading takes, are together of bulk at most 1048576: NARROWER than '..Said'. Prove '..Said' where nothing that the law and all that it calls make is longer than what came in: it says more and counts as full. Else prove '..UptoSaid'. A law counts once. -/
mutual
def uptoBulk {H : Type} : DataW H → Nat
  | .lit (.string bytes) => bytes.length + 1
  | .lit _ => 1
  | .nil => 1
  | .ptr d => uptoBulk d + 1
  | .slice elems spare => uptoBulkAll elems + uptoBulkAll spare + 1
  | .agg parts => uptoBulkAll parts + 1
  | .iface _ d => uptoBulk d + 1
  | .map entries => uptoBulkEntries entries + 1
  | .held _ => 1
def uptoBulkAll {H : Type} : List (DataW H) → Nat
  | [] => 0
  | d :: r => uptoBulk d + uptoBulkAll r
def uptoBulkEntries {H : Type} : List (Lit × DataW H) → Nat
  | [] => 0
  | x :: r => uptoBulkEntry x + uptoBulkEntries r
def uptoBulkEntry {H : Type} : Lit × DataW H → Nat
  | (.string bytes, d) => bytes.length + uptoBulk d + 1
  | (_, d) => uptoBulk d + 1
 end
def uptoSmall : (H : Type) → List (DataW H) → Bool := fun _ ds => decide (uptoBulkAll ds ≤ 1048576)
def OpenSpec.upto (s : _root_.Go.ChangeSpec) : _root_.Go.OpenSpec := { _root_.Go.OpenSpec.ofChange s with cond := some uptoSmall }

/-- 'bowerlaw32.GateAfter', WHERE WHAT IT READS IS OF BULK AT MOST 1048576: true; the input reads as it did. -/
def gateAfterUptoRow : OpenClaim := { program := "ytaeifmfghnolcaa", sum := "5077be441c5258394d35d68bd75a479ea2a42cb45151027c8137eb83a3e8b700", func := "bower/bowerlaw32.GateAfter", spec := "gateAfter", apart := false, narrowed := true }
def GateAfterUptoSaid : Prop := gateAfterUptoRow.holds Try.pinned (OpenSpec.upto gateAfterSpec)

/-- 'bowerlaw08.CellOnce', WHERE WHAT IT READS IS OF BULK AT MOST 1048576: true; the input reads as it did. -/
def cellOnceUptoRow : OpenClaim := { program := "ytaeifmfghnolcaa", sum := "5077be441c5258394d35d68bd75a479ea2a42cb45151027c8137eb83a3e8b700", func := "bower/bowerlaw08.CellOnce", spec := "cellOnce", apart := false, narrowed := true }
def CellOnceUptoSaid : Prop := cellOnceUptoRow.holds Try.pinned (OpenSpec.upto cellOnceSpec)

/-- 'bowerlaw08.CellPlays', WHERE WHAT IT READS IS OF BULK AT MOST 1048576: true; the input reads as it did. -/
def cellPlaysUptoRow : OpenClaim := { program := "ytaeifmfghnolcaa", sum := "5077be441c5258394d35d68bd75a479ea2a42cb45151027c8137eb83a3e8b700", func := "bower/bowerlaw08.CellPlays", spec := "cellPlays", apart := false, narrowed := true }
def CellPlaysUptoSaid : Prop := cellPlaysUptoRow.holds Try.pinned (OpenSpec.upto cellPlaysSpec)

/-- 'bowerlaw32.GateFirst', WHERE WHAT IT READS IS OF BULK AT MOST 1048576: true; the input reads as it did. -/
def gateFirstUptoRow : OpenClaim := { program := "ytaeifmfghnolcaa", sum := "5077be441c5258394d35d68bd75a479ea2a42cb45151027c8137eb83a3e8b700", func := "bower/bowerlaw32.GateFirst", spec := "gateFirst", unfollowed := true, recurses := true, apart := false, narrowed := true }
def GateFirstUptoSaid : Prop := gateFirstUptoRow.holds Try.pinned (OpenSpec.upto gateFirstSpec)

/-- 'bowerlaw07.RefPacks', WHERE WHAT IT READS IS OF BULK AT MOST 1048576: true; the input reads as it did. -/
def refPacksUptoRow : OpenClaim := { program := "ytaeifmfghnolcaa", sum := "5077be441c5258394d35d68bd75a479ea2a42cb45151027c8137eb83a3e8b700", func := "bower/bowerlaw07.RefPacks", spec := "refPacks", unfollowed := true, recurses := true, apart := false, narrowed := true }
def RefPacksUptoSaid : Prop := refPacksUptoRow.holds Try.pinned (OpenSpec.upto refPacksSpec)

/-- 'bowerlaw07.RefGates', WHERE WHAT IT READS IS OF BULK AT MOST 1048576: true; the input reads as it did. -/
def refGatesUptoRow : OpenClaim := { program := "ytaeifmfghnolcaa", sum := "5077be441c5258394d35d68bd75a479ea2a42cb45151027c8137eb83a3e8b700", func := "bower/bowerlaw07.RefGates", spec := "refGates", unfollowed := true, recurses := true, apart := false, narrowed := true }
def RefGatesUptoSaid : Prop := refGatesUptoRow.holds Try.pinned (OpenSpec.upto refGatesSpec)

/-- 'bowerlaw07.RefOnce', WHERE WHAT IT READS IS OF BULK AT MOST 1048576: true; the input reads as it did. -/
def refOnceUptoRow : OpenClaim := { program := "ytaeifmfghnolcaa", sum := "5077be441c5258394d35d68bd75a479ea2a42cb45151027c8137eb83a3e8b700", func := "bower/bowerlaw07.RefOnce", spec := "refOnce", unfollowed := true, recurses := true, apart := false, narrowed := true }
def RefOnceUptoSaid : Prop := refOnceUptoRow.holds Try.pinned (OpenSpec.upto refOnceSpec)

/-- 'bowerlaw27.HazardLists', WHERE WHAT IT READS IS OF BULK AT MOST 1048576: true; the input reads as it did. -/
def hazardListsUptoRow : OpenClaim := { program := "ytaeifmfghnolcaa", sum := "5077be441c5258394d35d68bd75a479ea2a42cb45151027c8137eb83a3e8b700", func := "bower/bowerlaw27.HazardLists", spec := "hazardLists", unfollowed := true, recurses := true, apart := false, narrowed := true }
def HazardListsUptoSaid : Prop := hazardListsUptoRow.holds Try.pinned (OpenSpec.upto hazardListsSpec)

/-- 'bowerlaw27.HazardRoom', WHERE WHAT IT READS IS OF BULK AT MOST 1048576: true; the input reads as it did. -/
def hazardRoomUptoRow : OpenClaim := { program := "ytaeifmfghnolcaa", sum := "5077be441c5258394d35d68bd75a479ea2a42cb45151027c8137eb83a3e8b700", func := "bower/bowerlaw27.HazardRoom", spec := "hazardRoom", unfollowed := true, recurses := true, apart := false, narrowed := true }
def HazardRoomUptoSaid : Prop := hazardRoomUptoRow.holds Try.pinned (OpenSpec.upto hazardRoomSpec)

/-- 'bowerlaw27.HazardSifts', WHERE WHAT IT READS IS OF BULK AT MOST 1048576: true; the input reads as it did. -/
def hazardSiftsUptoRow : OpenClaim := { program := "ytaeifmfghnolcaa", sum := "5077be441c5258394d35d68bd75a479ea2a42cb45151027c8137eb83a3e8b700", func := "bower/bowerlaw27.HazardSifts", spec := "hazardSifts", unfollowed := true, recurses := true, apart := false, narrowed := true }
def HazardSiftsUptoSaid : Prop := hazardSiftsUptoRow.holds Try.pinned (OpenSpec.upto hazardSiftsSpec)

end Rows
end Go.Proofs.Ytaeifmfghnolcaa
