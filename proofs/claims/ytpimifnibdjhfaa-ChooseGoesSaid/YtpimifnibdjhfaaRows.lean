/-
  No cell of these rows narrows 'for every input' (looked for: loops, veiled, ifaces, maps, wideKeys, modest, calm, conditions, laid).
  DERIVED. THE GIVEN ROWS OF THIS SEAT. 2 by the template 'for every input the law returns true; each argument reads behind the call as it read before'; 0 by the template 'total and deterministic' (their statements: YtpimifnibdjhfaaTotals.lean).
  GIVEN WITH THE SEED: the statements are not yours to turn. If you find one false, say at which input.
  Laid BY PROGRAM, IN A SANDBOX (cutbox-rows.mjs): the forced cells as the released guide's own fill.sh prints them over the translation 806ec5805396a191… (all of the seat's roots in one cut). By AI agents, Wed Nov 11 2026. No macro, syntax, notation, axiom, sorry.
-/
import Derived.Test.YtpimifnibdjhfaaChecked
import GoSem.Claim
import GoSem.ClaimJoined
import GoSem.ClaimMapViews
import Derived.JoinedTies
import Derived.KernelRfl
namespace Go.Proofs.Ytpimifnibdjhfaa
/- THE CELL 'sum', in the pinned program and in every row, IS THE sha256 OF THE DUMP (.gsa) THAT YtpimifnibdjhfaaProg.lean LOADS. Nothing in Lean hashes anything: it is a label: what it is worth is what the hold of that sum in a sandbox is worth. -/
noncomputable def Try.pinned : Pinned := { name := "ytpimifnibdjhfaa", sum := "806ec5805396a191107a8b29e87e2d4f6fd8179cbc322d3e7eb52e3e9bc37135", checked := Try.checked }
namespace Rows
def none {H : Type} : Left H := { results := [], args := [] }

/-- 'bowerlaw33.ChooseGoes': WHATEVER THE INPUT: true; the input reads as it did. -/
def chooseGoesSpec : ChangeSpec := { name := "chooseGoes", fn := fun _ => fun
  | [d1, d2, d3] => { results := [.lit (.bool true)], args := [d1, d2, d3] }
  | _ => none }
def chooseGoesRow : OpenClaim := { program := "ytpimifnibdjhfaa", sum := "806ec5805396a191107a8b29e87e2d4f6fd8179cbc322d3e7eb52e3e9bc37135", func := "bower/bowerlaw33.ChooseGoes", spec := "chooseGoes", unfollowed := true, recurses := true, apart := false }
def ChooseGoesSaid : Prop := chooseGoesRow.holds Try.pinned (OpenSpec.ofChange chooseGoesSpec)

/-- ITS FALSE NEIGHBOUR: 'it returns false'. Refute it at one input. -/
def chooseGoesWrong : ChangeSpec := { name := "chooseGoes", fn := fun _ => fun
  | [d1, d2, d3] => { results := [.lit (.bool false)], args := [d1, d2, d3] }
  | _ => none }
def ChooseGoesWrongFalsely : Prop := chooseGoesRow.holds Try.pinned (OpenSpec.ofChange chooseGoesWrong)

/-- 'bowerlaw33.ChooseFirst': WHATEVER THE INPUT: true; the input reads as it did. -/
def chooseFirstSpec : ChangeSpec := { name := "chooseFirst", fn := fun _ => fun
  | [d1, d2] => { results := [.lit (.bool true)], args := [d1, d2] }
  | _ => none }
def chooseFirstRow : OpenClaim := { program := "ytpimifnibdjhfaa", sum := "806ec5805396a191107a8b29e87e2d4f6fd8179cbc322d3e7eb52e3e9bc37135", func := "bower/bowerlaw33.ChooseFirst", spec := "chooseFirst", unfollowed := true, recurses := true, apart := false }
def ChooseFirstSaid : Prop := chooseFirstRow.holds Try.pinned (OpenSpec.ofChange chooseFirstSpec)

/-- ITS FALSE NEIGHBOUR: 'it returns false'. Refute it at one input. -/
def chooseFirstWrong : ChangeSpec := { name := "chooseFirst", fn := fun _ => fun
  | [d1, d2] => { results := [.lit (.bool false)], args := [d1, d2] }
  | _ => none }
def ChooseFirstWrongFalsely : Prop := chooseFirstRow.holds Try.pinned (OpenSpec.ofChange chooseFirstWrong)

/- THE SECOND FORM. 'bulk': how many values and letters a reading holds, each counted each time it is reached (what is shared counts as often as it is met; a slice's spare places count too). A statement '..UptoSaid' is the law's where the arguments, and the package variables that the reading takes, are together of bulk at most 1048576: NARROWER than '..Said'. Prove '..Said' where nothing that the law and all that it calls make is longer than what came in: it says more and counts as full. Else prove '..UptoSaid'. A law counts once. -/
mutual
def uptoBulk {H : Type} : DataW H → Nat
  | .lit (.string bytes) => bytes.length + 1
  | .lit _ => 1
  | .nil => 1
  | .ptr d => uptoBulk d + 1
  | .slice elems spare => uptoBulkAll elems + uptoBulkAll spare + 1
  | .agg parts => uptoBulkAll parts + 1
  | .iface _ d => uptoBulk d + 1
  | .map entries => uptoBulkEntries entries + 1
  | .held _ => 1
def uptoBulkAll {H : Type} : List (DataW H) → Nat
  | [] => 0
  | d :: r => uptoBulk d + uptoBulkAll r
def uptoBulkEntries {H : Type} : List (Lit × DataW H) → Nat
  | [] => 0
  | x :: r => uptoBulkEntry x + uptoBulkEntries r
def uptoBulkEntry {H : Type} : Lit × DataW H → Nat
  | (.string bytes, d) => bytes.length + uptoBulk d + 1
  | (_, d) => uptoBulk d + 1
 end
def uptoSmall : (H : Type) → List (DataW H) → Bool := fun _ ds => decide (uptoBulkAll ds ≤ 1048576)
def OpenSpec.upto (s : _root_.Go.ChangeSpec) : _root_.Go.OpenSpec := { _root_.Go.OpenSpec.ofChange s with cond := some uptoSmall }

/-- 'bowerlaw33.ChooseGoes', WHERE WHAT IT READS IS OF BULK AT MOST 1048576: true; the input reads as it did. -/
def chooseGoesUptoRow : OpenClaim := { program := "ytpimifnibdjhfaa", sum := "806ec5805396a191107a8b29e87e2d4f6fd8179cbc322d3e7eb52e3e9bc37135", func := "bower/bowerlaw33.ChooseGoes", spec := "chooseGoes", unfollowed := true, recurses := true, apart := false, narrowed := true }
def ChooseGoesUptoSaid : Prop := chooseGoesUptoRow.holds Try.pinned (OpenSpec.upto chooseGoesSpec)

/-- 'bowerlaw33.ChooseFirst', WHERE WHAT IT READS IS OF BULK AT MOST 1048576: true; the input reads as it did. -/
def chooseFirstUptoRow : OpenClaim := { program := "ytpimifnibdjhfaa", sum := "806ec5805396a191107a8b29e87e2d4f6fd8179cbc322d3e7eb52e3e9bc37135", func := "bower/bowerlaw33.ChooseFirst", spec := "chooseFirst", unfollowed := true, recurses := true, apart := false, narrowed := true }
def ChooseFirstUptoSaid : Prop := chooseFirstUptoRow.holds Try.pinned (OpenSpec.upto chooseFirstSpec)

end Rows
end Go.Proofs.Ytpimifnibdjhfaa
