/-
  Chapter 27 (hazard): what its functions compute, in plain terms.
-/
import Derived.Test.YtnecikholpiefaaRefPlain
import Derived.Test.YtnecikholpiefaaCells
namespace Go.Proofs.Ytnecikholpiefaa.HazP
open RefP
set_option linter.unusedVariables false
set_option linter.unusedSimpArgs false

def memB (xs : List Int) (x : Int) : Bool := decide (x ∈ xs)
theorem memB_iff {xs : List Int} {x : Int} : memB xs x = true ↔ x ∈ xs := by simp [memB]
/-- x is none of the first k -/
def noneTo (xs : List Int) (x : Int) (k : Nat) : Prop := ∀ i, i < k → at0 xs i ≠ x
theorem noneTo_zero (xs : List Int) (x : Int) : noneTo xs x 0 := fun i h => by omega
theorem noneTo_succ {xs : List Int} {x : Int} {k : Nat} (h : noneTo xs x k) (e : at0 xs k ≠ x) : noneTo xs x (k + 1) := fun i hi => by
  by_cases c : i = k
  · subst c; exact e
  · exact h i (by omega)
theorem memB_none {xs : List Int} {x : Int} (h : noneTo xs x xs.length) : memB xs x = false := by
  simp only [memB, decide_eq_false_iff_not]
  intro hm
  obtain ⟨i, hi, e⟩ := List.getElem_of_mem hm
  exact h i hi (by rw [at0_of xs i hi, e])
theorem memB_at {xs : List Int} {x : Int} {k : Nat} (hk : k < xs.length) (e : at0 xs k = x) : memB xs x = true := by
  rw [memB_iff, ← e]; exact at0_mem xs k hk
/-- those of l that stand in named (keep), or do not -/
def siftL (l named : List Int) (keep : Bool) : List Int := l.filter (fun x => memB named x == keep)
theorem siftL_zero (l named : List Int) (keep : Bool) : siftL (l.take 0) named keep = [] := by simp [siftL]
theorem siftL_yes {l named : List Int} {keep : Bool} {k : Nat} (hk : k < l.length) (h : memB named (at0 l k) = keep) : siftL (l.take (k + 1)) named keep = siftL (l.take k) named keep ++ [at0 l k] := by
  rw [take_succ_at0 l k hk]; unfold siftL; rw [List.filter_append]; simp [h]
theorem siftL_no {l named : List Int} {keep : Bool} {k : Nat} (hk : k < l.length) (h : memB named (at0 l k) = !keep) : siftL (l.take (k + 1)) named keep = siftL (l.take k) named keep := by
  rw [take_succ_at0 l k hk]; unfold siftL; rw [List.filter_append]; simp [h]
theorem siftL_length (l named : List Int) (keep : Bool) : (siftL l named keep).length ≤ l.length := List.length_filter_le _ _
theorem siftL_rng {l named : List Int} {keep : Bool} {p : Int → Prop} (h : ∀ x ∈ l, p x) : ∀ x ∈ siftL l named keep, p x := fun x hx => h x (List.mem_filter.1 hx).1
theorem siftL_both (l named : List Int) : (siftL l named true).length + (siftL l named false).length = l.length := by
  unfold siftL
  induction l with
  | nil => rfl
  | cons x l ih =>
    simp only [List.filter_cons]
    cases hm : memB named x
    · simp only [Bool.false_eq_true, beq_iff_eq, Bool.true_eq_false, if_false, if_true, List.length_cons, reduceCtorEq]; omega
    · simp only [Bool.false_eq_true, beq_iff_eq, Bool.true_eq_false, if_false, if_true, List.length_cons, reduceCtorEq]; omega
def roomI (t r : Int) : Int := if t < 1 ∨ 16 < t ∨ r < 1 ∨ 1024 < r then 0 else t * 2 + r
def freedI (w : Int) : Int := if opensB w = true then (if openG w = 4294967295 then useI 2 (openG w) else useI 0 (openG w)) else 18446744073709551615
/-- the words of a row are another's -/
theorem at0_ext {xs ys : List Int} (hl : xs.length = ys.length) (h : ∀ i, i < xs.length → at0 xs i = at0 ys i) : xs = ys := by
  apply List.ext_getElem hl
  intro i h1 h2
  have := h i h1
  rwa [at0_of xs i h1, at0_of ys i h2] at this
end Go.Proofs.Ytnecikholpiefaa.HazP
