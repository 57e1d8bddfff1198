/-
  Chapter 27: sifting.
-/
import Derived.Test.YtppclnnkleebkaaHazWalk
namespace Go.Proofs.Ytppclnnkleebkaa.HazP
open Go.RowKit RefP
set_option linter.unusedVariables false
set_option linter.unusedSimpArgs false

def SiftAt (w : World) (l nm : List Int) (e : Ending) (w' : World) : Prop :=
  ∃ ya yc na nc, e = .returned (.tuple #[.slice ya (siftL l nm true).length yc, .slice na (siftL l nm false).length nc]) ∧ OwnsU w' w.heap.size ya yc (siftL l nm true) ∧ OwnsU w' w.heap.size na nc (siftL l nm false) ∧ Below w.heap.size w w'
structure PartRel (w wr : World) (l nm : List Int) (k : Nat) (ya : Option Addr) (yc : Nat) (na : Option Addr) (nc : Nat) : Prop where
  b : Below w.heap.size w wr
  Y : OwnsU wr w.heap.size ya yc (siftL (l.take k) nm true)
  N : OwnsU wr w.heap.size na nc (siftL (l.take k) nm false)
  ne : ∀ p q, ya = some p → na = some q → p.block ≠ q.block
theorem own_none {a : Option Addr} {n c m d : Nat} {b : Option Addr} (h : ∀ p q, a = some p → b = some q → p.block ≠ q.block) : (Value.slice a n c).ownBlock = none ∨ (Value.slice a n c).ownBlock ≠ (Value.slice b m d).ownBlock := by
  cases a with
  | none => exact .inl rfl
  | some p =>
    refine .inr ?_
    cases b with
    | none => simp [Value.ownBlock]
    | some q => simpa [Value.ownBlock] using h p q rfl rfl
theorem new_ne {w : World} {base : Nat} {a : Option Addr} {c : Nat} {l : List Int} {b : Option Addr} {d : Nat} {m : List Int} {g H : Nat} (hN : OwnsU w base b d m) (hne : ∀ p q, a = some p → b = some q → p.block ≠ q.block)
    (hat : (Value.slice a l.length c).ownBlock = some g ∨ g = H) (hH : w.heap.size ≤ H) : ∀ p q, some (⟨g, 0, none⟩ : Addr) = some p → b = some q → p.block ≠ q.block := by
  intro p q hp hq
  simp only [Option.some.injEq] at hp
  subst hp hq
  rcases hat with e | e
  · cases a with
    | none => cases e
    | some r =>
      simp only [Value.ownBlock, Option.some.injEq] at e
      subst e
      exact hne r q rfl rfl
  · have := (hN.lt q.block rfl).2
    show g ≠ q.block
    omega

end Go.Proofs.Ytppclnnkleebkaa.HazP
