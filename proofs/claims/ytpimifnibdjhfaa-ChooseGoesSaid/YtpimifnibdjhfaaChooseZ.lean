/-
  Who is first, and whose place is 0: plain laws.
-/
import Derived.Test.YtpimifnibdjhfaaGateSort
namespace Go.Proofs.Ytpimifnibdjhfaa.GateP
open RefP
set_option linter.unusedVariables false
set_option linter.unusedSimpArgs false
theorem ltN_zero {l : List (Int × Int)} {x : Int × Int} (h : ltN l x = 0) : ∀ y ∈ l, ahead y x = false := by
  intro y hy
  have := List.countP_eq_zero.1 h y hy
  simpa using this
theorem place_zero {l : List (Int × Int)} {i : Nat} (hi : i < l.length) (h : placeI l i = 0) : (at2 l i).1 = firstT l := by
  have h1 := (placeI_bounds l i hi).1
  have h2 := ltN_zero (l := l) (x := at2 l i) (by omega)
  have hb := bestTo_mem l (by omega) l.length (Nat.le_refl _)
  have e : at2 l i = bestTo l l.length := ahead_eq (bestTo_min l l.length (Nat.le_refl _) i hi) (h2 _ hb)
  unfold firstT
  rw [if_neg (by omega), e]
theorem place_some {l : List (Int × Int)} (h : 0 < l.length) : ∃ i, i < l.length ∧ placeI l i = 0 := by
  have hb := bestTo_mem l h l.length (Nat.le_refl _)
  obtain ⟨j, hj, e⟩ := List.getElem_of_mem hb
  have hex : ∃ j, j < l.length ∧ at2 l j = bestTo l l.length := ⟨j, hj, by rw [at2_of l j hj]; exact e⟩
  have hmin : ∀ n, (∃ j, j ≤ n ∧ j < l.length ∧ at2 l j = bestTo l l.length) → ∃ i, i < l.length ∧ at2 l i = bestTo l l.length ∧ ∀ k, k < i → at2 l k ≠ bestTo l l.length := by
    intro n
    induction n with
    | zero =>
      intro ⟨j, h1, h2, h3⟩
      exact ⟨j, h2, h3, fun k hk => by omega⟩
    | succ n ih =>
      intro ⟨j, h1, h2, h3⟩
      by_cases hc : ∃ j, j ≤ n ∧ j < l.length ∧ at2 l j = bestTo l l.length
      · exact ih hc
      · exact ⟨j, h2, h3, fun k hk e => hc ⟨k, by omega, by omega, e⟩⟩
  obtain ⟨j, hj, e⟩ := hex
  obtain ⟨i, hi, he, hm⟩ := hmin j ⟨j, Nat.le_refl _, hj, e⟩
  refine ⟨i, hi, ?_⟩
  unfold placeI placeTo
  rw [List.take_length, Nat.min_eq_right (by omega), he]
  have c1 : l.countP (fun y => ahead y (bestTo l l.length)) = 0 := by
    rw [List.countP_eq_zero]
    intro y hy
    obtain ⟨k, hk, ek⟩ := List.getElem_of_mem hy
    have := bestTo_min l l.length (Nat.le_refl _) k hk
    rw [at2_of l k hk, ek] at this
    simp [this]
  have c2 : (l.take i).countP (fun y => decide (y = bestTo l l.length)) = 0 := by
    rw [List.countP_eq_zero]
    intro y hy
    obtain ⟨k, hk, ek⟩ := List.getElem_of_mem hy
    simp only [List.length_take] at hk
    rw [List.getElem_take] at ek
    have := hm k (by omega)
    rw [at2_of l k (by omega), ek] at this
    simpa using this
  omega
end Go.Proofs.Ytpimifnibdjhfaa.GateP
