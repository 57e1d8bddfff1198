/-
  Who is ahead, which phase is behind others: plain laws.
-/
import Derived.Test.YtppclnnkleebkaaCells
namespace Go.Proofs.Ytppclnnkleebkaa.GateP
open RefP
set_option linter.unusedVariables false
set_option linter.unusedSimpArgs false

def maxL (xs : List Int) : Int := xs.foldl max 0
def afterI (xs : List Int) : Int := if maxL xs = 18446744073709551615 then maxL xs else maxL xs + 1

theorem maxL_snoc (xs : List Int) (k : Nat) (h : k < xs.length) : maxL (xs.take (k + 1)) = max (maxL (xs.take k)) (at0 xs k) := by
  unfold maxL
  rw [take_succ_at0 xs k h, List.foldl_append]; rfl
theorem foldl_max_ge (xs : List Int) : ∀ a : Int, a ≤ xs.foldl max a := by
  induction xs with
  | nil => intro a; exact Int.le_refl _
  | cons x xs ih => intro a; exact Int.le_trans (Int.le_max_left a x) (ih (max a x))
theorem foldl_max_mem (xs : List Int) : ∀ a : Int, ∀ x ∈ xs, x ≤ xs.foldl max a := by
  induction xs with
  | nil => intro a x h; cases h
  | cons y ys ih =>
    intro a x h
    rcases List.mem_cons.1 h with rfl | h
    · exact Int.le_trans (Int.le_max_right a x) (foldl_max_ge ys _)
    · exact ih _ x h
theorem foldl_max_le (xs : List Int) (m : Int) : ∀ a : Int, a ≤ m → (∀ x ∈ xs, x ≤ m) → xs.foldl max a ≤ m := by
  induction xs with
  | nil => intro a h _; exact h
  | cons y ys ih =>
    intro a h k
    exact ih _ (Int.max_le.2 ⟨h, k y (by simp)⟩) (fun x hx => k x (by simp [hx]))
theorem maxL_lo (xs : List Int) : 0 ≤ maxL xs := foldl_max_ge xs 0
theorem maxL_hi (xs : List Int) (h : ∀ x ∈ xs, 0 ≤ x ∧ x ≤ 18446744073709551615) : maxL xs ≤ 18446744073709551615 := foldl_max_le xs _ 0 (by omega) (fun x hx => (h x hx).2)
theorem maxL_take_hi (xs : List Int) (k : Nat) (h : ∀ x ∈ xs, 0 ≤ x ∧ x ≤ 18446744073709551615) : maxL (xs.take k) ≤ 18446744073709551615 := maxL_hi _ (fun x hx => h x (List.mem_of_mem_take hx))
theorem maxL_mem (xs : List Int) (x : Int) (h : x ∈ xs) : x ≤ maxL xs := foldl_max_mem xs 0 x h

/-- is one ahead of another? -/
def aheadB (t p u q : Int) : Bool := decide (p < q ∨ p = q ∧ t < u)

def ahead (a b : Int × Int) : Bool := aheadB a.1 a.2 b.1 b.2
theorem ahead_iff (a b : Int × Int) : ahead a b = true ↔ (a.2 < b.2 ∨ a.2 = b.2 ∧ a.1 < b.1) := by simp [ahead, aheadB]
theorem ahead_no (a b : Int × Int) : ahead a b = false ↔ ¬ (a.2 < b.2 ∨ a.2 = b.2 ∧ a.1 < b.1) := by rw [← ahead_iff]; simp
theorem ahead_irrefl (a : Int × Int) : ahead a a = false := by rw [ahead_no]; omega
theorem ahead_eq {a b : Int × Int} (h : ahead a b = false) (k : ahead b a = false) : a = b := by
  rw [ahead_no] at h k
  exact Prod.ext (by omega) (by omega)

/-- who is first so far -/
def pick (b c : Int × Int) : Int × Int := if ahead c b = true then c else b
def bestTo (l : List (Int × Int)) (k : Nat) : Int × Int := (l.take k).foldl pick (at2 l 0)
theorem bestTo_zero (l : List (Int × Int)) : bestTo l 0 = at2 l 0 := rfl
theorem bestTo_succ (l : List (Int × Int)) (k : Nat) (h : k < l.length) : bestTo l (k + 1) = pick (bestTo l k) (at2 l k) := by
  unfold bestTo
  rw [take_succ_at2 l k h, List.foldl_append]; rfl
theorem bestTo_mem (l : List (Int × Int)) (h : 0 < l.length) : ∀ k, k ≤ l.length → bestTo l k ∈ l := by
  intro k
  induction k with
  | zero => intro _; exact at2_mem l 0 h
  | succ k ih =>
    intro hk
    rw [bestTo_succ l k (by omega)]
    unfold pick
    split
    · exact at2_mem l k (by omega)
    · exact ih (by omega)
theorem bestTo_min (l : List (Int × Int)) : ∀ k, k ≤ l.length → ∀ i, i < k → ahead (at2 l i) (bestTo l k) = false := by
  intro k
  induction k with
  | zero => intro _ i hi; omega
  | succ k ih =>
    intro hk i hi
    rw [bestTo_succ l k (by omega)]
    unfold pick
    by_cases c : ahead (at2 l k) (bestTo l k) = true
    · rw [if_pos c]
      by_cases e : i = k
      · subst e; exact ahead_irrefl _
      · have h1 := ih (by omega) i (by omega)
        rw [ahead_no] at h1 ⊢
        rw [ahead_iff] at c
        omega
    · rw [if_neg c]
      by_cases e : i = k
      · subst e; simpa using c
      · exact ih (by omega) i (by omega)
def firstT (l : List (Int × Int)) : Int := if l.length = 0 then 0 else (bestTo l l.length).1
def firstB (l : List (Int × Int)) : Bool := !(l.length == 0)
end Go.Proofs.Ytppclnnkleebkaa.GateP
