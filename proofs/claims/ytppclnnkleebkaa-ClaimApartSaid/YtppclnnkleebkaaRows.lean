/-
  No cell of these rows narrows 'for every input' (looked for: loops, veiled, ifaces, maps, wideKeys, modest, calm, conditions, laid).
  DERIVED. THE GIVEN ROWS OF THIS SEAT. 2 by the template 'for every input the law returns true; each argument reads behind the call as it read before'; 0 by the template 'total and deterministic' (their statements: YtppclnnkleebkaaTotals.lean).
  GIVEN WITH THE SEED: the statements are not yours to turn. If you find one false, say at which input.
  Laid BY PROGRAM, IN A SANDBOX (cutbox-rows.mjs): the forced cells as the released guide's own fill.sh prints them over the translation 517dd29a185b3a6f… (all of the seat's roots in one cut). By AI agents, Wed Nov 11 2026. No macro, syntax, notation, axiom, sorry.
-/
import Derived.Test.YtppclnnkleebkaaChecked
import GoSem.Claim
import GoSem.ClaimJoined
import GoSem.ClaimMapViews
import Derived.JoinedTies
import Derived.KernelRfl
namespace Go.Proofs.Ytppclnnkleebkaa
/- THE CELL 'sum', in the pinned program and in every row, IS THE sha256 OF THE DUMP (.gsa) THAT YtppclnnkleebkaaProg.lean LOADS. Nothing in Lean hashes anything: it is a label: what it is worth is what the hold of that sum in a sandbox is worth. -/
noncomputable def Try.pinned : Pinned := { name := "ytppclnnkleebkaa", sum := "517dd29a185b3a6f4c130047451f08910946dcad43b21879108b7cd66be4a771", checked := Try.checked }
namespace Rows
def none {H : Type} : Left H := { results := [], args := [] }

/-- 'bowerlaw29.ClaimApart': WHATEVER THE INPUT: true; the input reads as it did. -/
def claimApartSpec : ChangeSpec := { name := "claimApart", fn := fun _ => fun
  | [d1, d2, d3] => { results := [.lit (.bool true)], args := [d1, d2, d3] }
  | _ => none }
def claimApartRow : OpenClaim := { program := "ytppclnnkleebkaa", sum := "517dd29a185b3a6f4c130047451f08910946dcad43b21879108b7cd66be4a771", func := "bower/bowerlaw29.ClaimApart", spec := "claimApart", unfollowed := true, recurses := true, apart := false }
def ClaimApartSaid : Prop := claimApartRow.holds Try.pinned (OpenSpec.ofChange claimApartSpec)

/-- ITS FALSE NEIGHBOUR: 'it returns false'. Refute it at one input. -/
def claimApartWrong : ChangeSpec := { name := "claimApart", fn := fun _ => fun
  | [d1, d2, d3] => { results := [.lit (.bool false)], args := [d1, d2, d3] }
  | _ => none }
def ClaimApartWrongFalsely : Prop := claimApartRow.holds Try.pinned (OpenSpec.ofChange claimApartWrong)

/-- 'bowerlaw29.ClaimCosts': WHATEVER THE INPUT: true; the input reads as it did. -/
def claimCostsSpec : ChangeSpec := { name := "claimCosts", fn := fun _ => fun
  | [d1, d2] => { results := [.lit (.bool true)], args := [d1, d2] }
  | _ => none }
def claimCostsRow : OpenClaim := { program := "ytppclnnkleebkaa", sum := "517dd29a185b3a6f4c130047451f08910946dcad43b21879108b7cd66be4a771", func := "bower/bowerlaw29.ClaimCosts", spec := "claimCosts", unfollowed := true, recurses := true, apart := false }
def ClaimCostsSaid : Prop := claimCostsRow.holds Try.pinned (OpenSpec.ofChange claimCostsSpec)

/-- ITS FALSE NEIGHBOUR: 'it returns false'. Refute it at one input. -/
def claimCostsWrong : ChangeSpec := { name := "claimCosts", fn := fun _ => fun
  | [d1, d2] => { results := [.lit (.bool false)], args := [d1, d2] }
  | _ => none }
def ClaimCostsWrongFalsely : Prop := claimCostsRow.holds Try.pinned (OpenSpec.ofChange claimCostsWrong)

/- THE SECOND FORM. 'bulk': how many values and letters a reading holds, each counted each time it is reached (what is shared counts as often as it is met; a slice's spare places count too). A statement '..UptoSaid' is the law's where the arguments, and the package variables that the reading takes, are together of bulk at most 1048576: NARROWER than '..Said'. Prove '..Said' where nothing that the law and all that it calls make is longer than what came in: it says more and counts as full. Else prove '..UptoSaid'. A law counts once. -/
mutual
def uptoBulk {H : Type} : DataW H → Nat
  | .lit (.string bytes) => bytes.length + 1
  | .lit _ => 1
  | .nil => 1
  | .ptr d => uptoBulk d + 1
  | .slice elems spare => uptoBulkAll elems + uptoBulkAll spare + 1
  | .agg parts => uptoBulkAll parts + 1
  | .iface _ d => uptoBulk d + 1
  | .map entries => uptoBulkEntries entries + 1
  | .held _ => 1
def uptoBulkAll {H : Type} : List (DataW H) → Nat
  | [] => 0
  | d :: r => uptoBulk d + uptoBulkAll r
def uptoBulkEntries {H : Type} : List (Lit × DataW H) → Nat
  | [] => 0
  | x :: r => uptoBulkEntry x + uptoBulkEntries r
def uptoBulkEntry {H : Type} : Lit × DataW H → Nat
  | (.string bytes, d) => bytes.length + uptoBulk d + 1
  | (_, d) => uptoBulk d + 1
 end
def uptoSmall : (H : Type) → List (DataW H) → Bool := fun _ ds => decide (uptoBulkAll ds ≤ 1048576)
def OpenSpec.upto (s : _root_.Go.ChangeSpec) : _root_.Go.OpenSpec := { _root_.Go.OpenSpec.ofChange s with cond := some uptoSmall }

/-- 'bowerlaw29.ClaimApart', WHERE WHAT IT READS IS OF BULK AT MOST 1048576: true; the input reads as it did. -/
def claimApartUptoRow : OpenClaim := { program := "ytppclnnkleebkaa", sum := "517dd29a185b3a6f4c130047451f08910946dcad43b21879108b7cd66be4a771", func := "bower/bowerlaw29.ClaimApart", spec := "claimApart", unfollowed := true, recurses := true, apart := false, narrowed := true }
def ClaimApartUptoSaid : Prop := claimApartUptoRow.holds Try.pinned (OpenSpec.upto claimApartSpec)

/-- 'bowerlaw29.ClaimCosts', WHERE WHAT IT READS IS OF BULK AT MOST 1048576: true; the input reads as it did. -/
def claimCostsUptoRow : OpenClaim := { program := "ytppclnnkleebkaa", sum := "517dd29a185b3a6f4c130047451f08910946dcad43b21879108b7cd66be4a771", func := "bower/bowerlaw29.ClaimCosts", spec := "claimCosts", unfollowed := true, recurses := true, apart := false, narrowed := true }
def ClaimCostsUptoSaid : Prop := claimCostsUptoRow.holds Try.pinned (OpenSpec.upto claimCostsSpec)

end Rows
end Go.Proofs.Ytppclnnkleebkaa
