/-
  No cell of these rows narrows 'for every input' (looked for: loops, veiled, ifaces, maps, wideKeys, modest, calm, conditions, laid).
  DERIVED. THE GIVEN ROWS OF THIS SEAT. 4 by the template 'for every input the law returns true; each argument reads behind the call as it read before'; 0 by the template 'total and deterministic' (their statements: YtbemgfpnoeogdaaTotals.lean).
  GIVEN WITH THE SEED: the statements are not yours to turn. If you find one false, say at which input.
  Laid BY PROGRAM, IN A SANDBOX (cutbox-rows.mjs): the forced cells as the released guide's own fill.sh prints them over the translation a15f9340dafbee11… (all of the seat's roots in one cut). By AI agents, Wed Nov 11 2026. No macro, syntax, notation, axiom, sorry.
-/
import Derived.Test.YtbemgfpnoeogdaaChecked
import GoSem.Claim
import GoSem.ClaimJoined
import GoSem.ClaimMapViews
import Derived.JoinedTies
import Derived.KernelRfl
namespace Go.Proofs.Ytbemgfpnoeogdaa
/- THE CELL 'sum', in the pinned program and in every row, IS THE sha256 OF THE DUMP (.gsa) THAT YtbemgfpnoeogdaaProg.lean LOADS. Nothing in Lean hashes anything: it is a label: what it is worth is what the hold of that sum in a sandbox is worth. -/
noncomputable def Try.pinned : Pinned := { name := "ytbemgfpnoeogdaa", sum := "a15f9340dafbee11c51c706a0c3f288eca3f76ad7acef58afb5ce10537649d82", checked := Try.checked }
namespace Rows
def none {H : Type} : Left H := { results := [], args := [] }

/-- 'bowerlaw21.EditNobody': WHATEVER THE INPUT: true; the input reads as it did. -/
def editNobodySpec : ChangeSpec := { name := "editNobody", fn := fun _ => fun
  | [d] => { results := [.lit (.bool true)], args := [d] }
  | _ => none }
def editNobodyRow : OpenClaim := { program := "ytbemgfpnoeogdaa", sum := "a15f9340dafbee11c51c706a0c3f288eca3f76ad7acef58afb5ce10537649d82", func := "bower/bowerlaw21.EditNobody", spec := "editNobody", unfollowed := true, recurses := true, apart := false }
def EditNobodySaid : Prop := editNobodyRow.holds Try.pinned (OpenSpec.ofChange editNobodySpec)

/-- ITS FALSE NEIGHBOUR: 'it returns false'. Refute it at one input. -/
def editNobodyWrong : ChangeSpec := { name := "editNobody", fn := fun _ => fun
  | [d] => { results := [.lit (.bool false)], args := [d] }
  | _ => none }
def EditNobodyWrongFalsely : Prop := editNobodyRow.holds Try.pinned (OpenSpec.ofChange editNobodyWrong)

/-- 'bowerlaw21.EditGoes': WHATEVER THE INPUT: true; the input reads as it did. -/
def editGoesSpec : ChangeSpec := { name := "editGoes", fn := fun _ => fun
  | [d1, d2, d3] => { results := [.lit (.bool true)], args := [d1, d2, d3] }
  | _ => none }
def editGoesRow : OpenClaim := { program := "ytbemgfpnoeogdaa", sum := "a15f9340dafbee11c51c706a0c3f288eca3f76ad7acef58afb5ce10537649d82", func := "bower/bowerlaw21.EditGoes", spec := "editGoes", unfollowed := true, recurses := true, apart := false }
def EditGoesSaid : Prop := editGoesRow.holds Try.pinned (OpenSpec.ofChange editGoesSpec)

/-- ITS FALSE NEIGHBOUR: 'it returns false'. Refute it at one input. -/
def editGoesWrong : ChangeSpec := { name := "editGoes", fn := fun _ => fun
  | [d1, d2, d3] => { results := [.lit (.bool false)], args := [d1, d2, d3] }
  | _ => none }
def EditGoesWrongFalsely : Prop := editGoesRow.holds Try.pinned (OpenSpec.ofChange editGoesWrong)

/-- 'bowerlaw14.ForestPlays': WHATEVER THE INPUT: true; the input reads as it did. -/
def forestPlaysSpec : ChangeSpec := { name := "forestPlays", fn := fun _ => fun
  | [d] => { results := [.lit (.bool true)], args := [d] }
  | _ => none }
def forestPlaysRow : OpenClaim := { program := "ytbemgfpnoeogdaa", sum := "a15f9340dafbee11c51c706a0c3f288eca3f76ad7acef58afb5ce10537649d82", func := "bower/bowerlaw14.ForestPlays", spec := "forestPlays", unfollowed := true, recurses := true, apart := false }
def ForestPlaysSaid : Prop := forestPlaysRow.holds Try.pinned (OpenSpec.ofChange forestPlaysSpec)

/-- ITS FALSE NEIGHBOUR: 'it returns false'. Refute it at one input. -/
def forestPlaysWrong : ChangeSpec := { name := "forestPlays", fn := fun _ => fun
  | [d] => { results := [.lit (.bool false)], args := [d] }
  | _ => none }
def ForestPlaysWrongFalsely : Prop := forestPlaysRow.holds Try.pinned (OpenSpec.ofChange forestPlaysWrong)

/-- 'bowerlaw14.ForestNobody': WHATEVER THE INPUT: true; the input reads as it did. -/
def forestNobodySpec : ChangeSpec := { name := "forestNobody", fn := fun _ => fun
  | [d1, d2] => { results := [.lit (.bool true)], args := [d1, d2] }
  | _ => none }
def forestNobodyRow : OpenClaim := { program := "ytbemgfpnoeogdaa", sum := "a15f9340dafbee11c51c706a0c3f288eca3f76ad7acef58afb5ce10537649d82", func := "bower/bowerlaw14.ForestNobody", spec := "forestNobody", unfollowed := true, recurses := true, apart := false }
def ForestNobodySaid : Prop := forestNobodyRow.holds Try.pinned (OpenSpec.ofChange forestNobodySpec)

/-- ITS FALSE NEIGHBOUR: 'it returns false'. Refute it at one input. -/
def forestNobodyWrong : ChangeSpec := { name := "forestNobody", fn := fun _ => fun
  | [d1, d2] => { results := [.lit (.bool false)], args := [d1, d2] }
  | _ => none }
def ForestNobodyWrongFalsely : Prop := forestNobodyRow.holds Try.pinned (OpenSpec.ofChange forestNobodyWrong)

/- THE SECOND FORM. 'bulk': how many values and letters a reading holds, each counted each time it is reached (what is shared counts as often as it is met; a slice's spare places count too). A statement '..UptoSaid' is the law's where the arguments, and the package variables that the reading takes, are together of bulk at most 1048576: NARROWER than '..Said'. Prove '..Said' where nothing that the law and all that it calls make is longer than what came in: it says more and counts as full. Else prove '..UptoSaid'. A law counts once. -/
mutual
def uptoBulk {H : Type} : DataW H → Nat
  | .lit (.string bytes) => bytes.length + 1
  | .lit _ => 1
  | .nil => 1
  | .ptr d => uptoBulk d + 1
  | .slice elems spare => uptoBulkAll elems + uptoBulkAll spare + 1
  | .agg parts => uptoBulkAll parts + 1
  | .iface _ d => uptoBulk d + 1
  | .map entries => uptoBulkEntries entries + 1
  | .held _ => 1
def uptoBulkAll {H : Type} : List (DataW H) → Nat
  | [] => 0
  | d :: r => uptoBulk d + uptoBulkAll r
def uptoBulkEntries {H : Type} : List (Lit × DataW H) → Nat
  | [] => 0
  | x :: r => uptoBulkEntry x + uptoBulkEntries r
def uptoBulkEntry {H : Type} : Lit × DataW H → Nat
  | (.string bytes, d) => bytes.length + uptoBulk d + 1
  | (_, d) => uptoBulk d + 1
 end
def uptoSmall : (H : Type) → List (DataW H) → Bool := fun _ ds => decide (uptoBulkAll ds ≤ 1048576)
def OpenSpec.upto (s : _root_.Go.ChangeSpec) : _root_.Go.OpenSpec := { _root_.Go.OpenSpec.ofChange s with cond := some uptoSmall }

/-- 'bowerlaw21.EditNobody', WHERE WHAT IT READS IS OF BULK AT MOST 1048576: true; the input reads as it did. -/
def editNobodyUptoRow : OpenClaim := { program := "ytbemgfpnoeogdaa", sum := "a15f9340dafbee11c51c706a0c3f288eca3f76ad7acef58afb5ce10537649d82", func := "bower/bowerlaw21.EditNobody", spec := "editNobody", unfollowed := true, recurses := true, apart := false, narrowed := true }
def EditNobodyUptoSaid : Prop := editNobodyUptoRow.holds Try.pinned (OpenSpec.upto editNobodySpec)

/-- 'bowerlaw21.EditGoes', WHERE WHAT IT READS IS OF BULK AT MOST 1048576: true; the input reads as it did. -/
def editGoesUptoRow : OpenClaim := { program := "ytbemgfpnoeogdaa", sum := "a15f9340dafbee11c51c706a0c3f288eca3f76ad7acef58afb5ce10537649d82", func := "bower/bowerlaw21.EditGoes", spec := "editGoes", unfollowed := true, recurses := true, apart := false, narrowed := true }
def EditGoesUptoSaid : Prop := editGoesUptoRow.holds Try.pinned (OpenSpec.upto editGoesSpec)

/-- 'bowerlaw14.ForestPlays', WHERE WHAT IT READS IS OF BULK AT MOST 1048576: true; the input reads as it did. -/
def forestPlaysUptoRow : OpenClaim := { program := "ytbemgfpnoeogdaa", sum := "a15f9340dafbee11c51c706a0c3f288eca3f76ad7acef58afb5ce10537649d82", func := "bower/bowerlaw14.ForestPlays", spec := "forestPlays", unfollowed := true, recurses := true, apart := false, narrowed := true }
def ForestPlaysUptoSaid : Prop := forestPlaysUptoRow.holds Try.pinned (OpenSpec.upto forestPlaysSpec)

/-- 'bowerlaw14.ForestNobody', WHERE WHAT IT READS IS OF BULK AT MOST 1048576: true; the input reads as it did. -/
def forestNobodyUptoRow : OpenClaim := { program := "ytbemgfpnoeogdaa", sum := "a15f9340dafbee11c51c706a0c3f288eca3f76ad7acef58afb5ce10537649d82", func := "bower/bowerlaw14.ForestNobody", spec := "forestNobody", unfollowed := true, recurses := true, apart := false, narrowed := true }
def ForestNobodyUptoSaid : Prop := forestNobodyUptoRow.holds Try.pinned (OpenSpec.upto forestNobodySpec)

end Rows
end Go.Proofs.Ytbemgfpnoeogdaa
