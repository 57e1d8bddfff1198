/-
  cell.Clone, the document's Write, and the law's like: contracts.
-/
import Derived.Test.YtppclnnkleebkaaCellLives
import Derived.Test.YtppclnnkleebkaaOwns
import Derived.StillTailTactics
import Derived.Deep.DeepCutAuto
namespace Go.Proofs.Ytppclnnkleebkaa.CellP
open Go.RowKit RefP
set_option linter.unusedVariables false
set_option linter.unusedSimpArgs false

/-- new pairs in which one was written -/
def WroteAt (w : World) (l : List (Int × Int)) (e : Ending) (w' : World) : Prop :=
  ∃ a c, e = .returned (.slice a l.length c) ∧ PairsS w' a l ∧ Below w.heap.size w w' ∧ ∀ b off, a = some ⟨b, off, none⟩ → w.heap.size ≤ b

/-- the first k are those, the rest are fresh -/
def mixed (l : List (Int × Int)) (k : Nat) : List (Int × Int) := l.take k ++ List.replicate (l.length - k) (0, 0)
theorem mixed_length (l : List (Int × Int)) (k : Nat) (h : k ≤ l.length) : (mixed l k).length = l.length := by simp [mixed]; omega
theorem mixed_zero (l : List (Int × Int)) : mixed l 0 = List.replicate l.length (0, 0) := by simp [mixed]
theorem mixed_all (l : List (Int × Int)) : mixed l l.length = l := by simp [mixed]
theorem mixed_succ (l : List (Int × Int)) (k : Nat) (h : k < l.length) : (mixed l k).set k (at2 l k) = mixed l (k + 1) := by
  apply List.ext_getElem?
  intro j
  have e : at2 l k = l[k] := at2_of l k h
  rw [e]
  simp only [mixed, List.getElem?_set, List.getElem?_append, List.getElem?_take, List.getElem?_replicate, List.length_take, List.length_append, List.length_replicate]
  by_cases h1 : k = j
  · subst h1
    have : min k l.length = k := by omega
    have h2 : k < min (k + 1) l.length := by omega
    simp [h2, h]; omega
  · by_cases h3 : j < k
    · have h4 : j < min k l.length := by omega
      have h5 : j < min (k + 1) l.length := by omega
      have h6 : j < k + 1 := by omega
      simp [h1, h4, h5, h3, h6]
    · have h4 : ¬ j < min k l.length := by omega
      have h5 : ¬ j < min (k + 1) l.length := by omega
      simp only [h1, h4, h5, if_false]
      have : (j - min k l.length < l.length - k) ↔ (j - min (k + 1) l.length < l.length - (k + 1)) := by omega
      simp [this]
theorem at2_pair (l : List (Int × Int)) (k : Nat) : ((at2 l k).1, (at2 l k).2) = at2 l k := rfl

structure CloneRel (w : World) (o g o' g' : Nat) (l : List (Int × Int)) (k : Nat) (wr : World) : Prop where
  b : Below w.heap.size w wr
  src : CellsAt wr o g l
  dst : CellsAt wr o' g' (mixed l k)
  og : w.heap.size ≤ o' ∧ w.heap.size ≤ g' ∧ o < w.heap.size ∧ g < w.heap.size
theorem CellsAt.only {w w' : World} {o g r : Nat} {l : List (Int × Int)} (h : CellsAt w o g l) (hg : w.grownBy w' (some r)) (h1 : o ≠ r) (h2 : g ≠ r) : CellsAt w' o g l :=
  ⟨h.head.grown hg (by intro e; injection e; contradiction), h.rows.grown hg (by intro e; injection e; contradiction), h.ne, h.rng, h.len⟩
theorem CloneRel.next {w : World} {o g o' g' : Nat} {l : List (Int × Int)} {k : Nat} {wr : World} (h : CloneRel w o g o' g' l k wr) (hk : k < l.length) {wx : World} (hd : Below wr.heap.size wr wx) :
    CloneRel w o g o' g' l (k + 1) ((wx.setCell ⟨g', k * 2, none⟩ (.int .u64 (at2 l k).1)).setCell ⟨g', k * 2 + 1, none⟩ (.int .u64 (at2 l k).2)) := by
  have hr := h.src.rng.at k
  have hw := h.dst.write hd k (by rw [mixed_length l k (by omega)]; exact hk) _ _ hr.1 hr.2
  rw [at2_pair, mixed_succ l k hk] at hw
  obtain ⟨g1, g2, g3, g4⟩ := h.og
  have ho : wr.grownBy ((wx.setCell ⟨g', k * 2, none⟩ (.int .u64 (at2 l k).1)).setCell ⟨g', k * 2 + 1, none⟩ (.int .u64 (at2 l k).2)) (some g') := only_set (only_set (only_of_below hd _) _ _) _ _
  exact ⟨below_only h.b ho (Nat.le_refl _) g2, h.src.only ho (by omega) (by omega), hw, h.og⟩

end Go.Proofs.Ytppclnnkleebkaa.CellP
