/-
  Sorting by insertion, and where one stands: plain laws.
-/
import Derived.Test.YtpimifnibdjhfaaGatePlain
import Derived.Test.YtpimifnibdjhfaaOwns
namespace Go.Proofs.Ytpimifnibdjhfaa.GateP
open RefP
set_option linter.unusedVariables false
set_option linter.unusedSimpArgs false

theorem ahead_trans_no {x y z : Int × Int} (h1 : ahead x z = false) (h2 : ahead z y = false) : ahead x y = false := by
  rw [ahead_no] at *; omega
theorem ahead_asymm {x y : Int × Int} (h : ahead x y = true) : ahead y x = false := by
  rw [ahead_no]; rw [ahead_iff] at h; omega
/-- none behind is ahead of one before it -/
def Sorted (l : List (Int × Int)) : Prop := l.Pairwise (fun a b => ahead b a = false)

def insL (out : List (Int × Int)) (x : Int × Int) (at_ : Nat) : List (Int × Int) := out.take at_ ++ x :: out.drop at_
/-- what stands in the row while it is shifted: place at_ is free -/
def shiftL (out : List (Int × Int)) (x : Int × Int) (at_ : Nat) : List (Int × Int) := out.take at_ ++ (if at_ = out.length then x else at2 out at_) :: out.drop at_
theorem insL_length (out : List (Int × Int)) (x : Int × Int) (k : Nat) (h : k ≤ out.length) : (insL out x k).length = out.length + 1 := by simp [insL]; omega
theorem shiftL_length (out : List (Int × Int)) (x : Int × Int) (k : Nat) (h : k ≤ out.length) : (shiftL out x k).length = out.length + 1 := by simp [shiftL]; omega
theorem shiftL_all (out : List (Int × Int)) (x : Int × Int) : shiftL out x out.length = out ++ [x] := by simp [shiftL]
theorem at2_get? {l : List (Int × Int)} {i : Nat} {c : Int × Int} (h : l[i]? = some c) : at2 l i = c := by simp [at2, h]
theorem get?_at2 (l : List (Int × Int)) (i : Nat) (h : i < l.length) : l[i]? = some (at2 l i) := by rw [at2_of l i h]; exact List.getElem?_eq_getElem h
theorem shiftL_prev (out : List (Int × Int)) (x : Int × Int) (k : Nat) (h0 : 0 < k) (h : k ≤ out.length) : at2 (shiftL out x k) (k - 1) = at2 out (k - 1) := by
  apply at2_get?
  unfold shiftL
  rw [List.getElem?_append_left (by simp; omega), List.getElem?_take, if_pos (by omega)]
  exact get?_at2 out _ (by omega)
theorem shiftL_ins (out : List (Int × Int)) (x : Int × Int) (k : Nat) (h : k ≤ out.length) : (shiftL out x k).set k x = insL out x k := by
  unfold shiftL insL
  have e : (out.take k).length = k := by simp; omega
  rw [List.set_append_right _ _ (by omega), e]
  simp
theorem shiftL_step (out : List (Int × Int)) (x : Int × Int) (k : Nat) (h0 : 0 < k) (h : k ≤ out.length) : (shiftL out x k).set k (at2 out (k - 1)) = shiftL out x (k - 1) := by
  have e : (out.take k).length = k := by simp; omega
  have e1 : shiftL out x k = out.take k ++ (if k = out.length then x else at2 out k) :: out.drop k := rfl
  rw [e1, List.set_append_right _ _ (by omega), e]
  have e2 : ¬ k - 1 = out.length := by omega
  have e3 : out.take k = out.take (k - 1) ++ [at2 out (k - 1)] := by
    have := take_succ_at2 out (k - 1) (by omega)
    rwa [show k - 1 + 1 = k from by omega] at this
  have e4 : out.drop (k - 1) = at2 out (k - 1) :: out.drop k := by
    have := List.drop_eq_getElem_cons (l := out) (i := k - 1) (by omega)
    rw [this, at2_of out (k - 1) (by omega), show k - 1 + 1 = k from by omega]
  unfold shiftL
  rw [if_neg e2, e4, e3]
  simp
theorem insL_perm (out : List (Int × Int)) (x : Int × Int) (k : Nat) : (insL out x k).Perm (out ++ [x]) := by
  unfold insL
  have h1 : (out.take k ++ x :: out.drop k).Perm (x :: (out.take k ++ out.drop k)) := List.perm_middle
  rw [List.take_append_drop] at h1
  exact h1.trans (List.perm_append_singleton x out).symm
theorem insL_sorted (out : List (Int × Int)) (x : Int × Int) (k : Nat) (hk : k ≤ out.length) (hs : Sorted out) (hd : ∀ j, k ≤ j → j < out.length → ahead x (at2 out j) = true) (ht : k = 0 ∨ ahead x (at2 out (k - 1)) = false) : Sorted (insL out x k) := by
  unfold Sorted insL
  have hs' : (out.take k ++ out.drop k).Pairwise (fun a b => ahead b a = false) := by rw [List.take_append_drop]; exact hs
  obtain ⟨p1, p2, p3⟩ := List.pairwise_append.1 hs'
  refine List.pairwise_append.2 ⟨p1, List.pairwise_cons.2 ⟨?_, p2⟩, ?_⟩
  · intro b hb
    obtain ⟨j, hj, rfl⟩ := List.getElem_of_mem hb
    simp only [List.length_drop] at hj
    rw [List.getElem_drop]
    have := hd (k + j) (by omega) (by omega)
    rw [at2_of _ _ (by omega)] at this
    exact ahead_asymm this
  · intro a ha b hb
    rcases List.mem_cons.1 hb with rfl | hb
    · rcases ht with rfl | ht
      · simp at ha
      · obtain ⟨j, hj, rfl⟩ := List.getElem_of_mem ha
        simp only [List.length_take] at hj
        rw [List.getElem_take]
        have hlast := at2_of out (k - 1) (by omega)
        by_cases e : j = k - 1
        · subst e; rw [← hlast]; exact ht
        · have := (List.pairwise_iff_getElem.1 hs) j (k - 1) (by omega) (by omega) (by omega)
          rw [← hlast] at this
          exact ahead_trans_no ht this
    · exact p3 a ha b hb

/-! where one stands -/
def ltN (l : List (Int × Int)) (x : Int × Int) : Nat := l.countP (fun y => ahead y x)
/-- the document's place of the i-th: how many are ahead of it, and how many of those before it are the same -/
def placeTo (l : List (Int × Int)) (i k : Nat) : Nat := (l.take k).countP (fun y => ahead y (at2 l i)) + (l.take (min k i)).countP (fun y => decide (y = at2 l i))
def placeI (l : List (Int × Int)) (i : Nat) : Nat := placeTo l i l.length
theorem placeTo_zero (l : List (Int × Int)) (i : Nat) : placeTo l i 0 = 0 := by simp [placeTo]
theorem placeTo_succ (l : List (Int × Int)) (i k : Nat) (h : k < l.length) : placeTo l i (k + 1) = placeTo l i k + (if ahead (at2 l k) (at2 l i) = true ∨ k < i ∧ at2 l k = at2 l i then 1 else 0) := by
  unfold placeTo
  rw [take_succ_at2 l k h, List.countP_append]
  by_cases hki : k < i
  · have e1 : min (k + 1) i = k + 1 := by omega
    have e2 : min k i = k := by omega
    rw [e1, e2, take_succ_at2 l k h, List.countP_append]
    by_cases ha : ahead (at2 l k) (at2 l i) = true
    · have hne : ¬ at2 l k = at2 l i := by intro e; rw [e, ahead_irrefl] at ha; cases ha
      simp [ha, hne, hki]; omega
    · by_cases he : at2 l k = at2 l i
      · simp [he, ahead_irrefl, hki]; omega
      · simp [ha, he, hki]
  · have e1 : min (k + 1) i = min k i := by omega
    rw [e1]
    by_cases ha : ahead (at2 l k) (at2 l i) = true
    · simp [ha, hki]; omega
    · simp [ha, hki]
theorem placeTo_le (l : List (Int × Int)) (i : Nat) : ∀ k, k ≤ l.length → placeTo l i k ≤ k := by
  intro k
  induction k with
  | zero => intro _; rw [placeTo_zero]; omega
  | succ k ih =>
    intro hk
    rw [placeTo_succ l i k (by omega)]
    have := ih (by omega)
    split <;> omega
theorem countP_eq_le_count (l : List (Int × Int)) (i : Nat) (h : i < l.length) : (l.take i).countP (fun y => decide (y = at2 l i)) < l.countP (fun y => decide (y = at2 l i)) := by
  have h1 : l.take (i + 1) = l.take i ++ [at2 l i] := take_succ_at2 l i h
  have h2 : (l.take (i + 1)).countP (fun y => decide (y = at2 l i)) ≤ l.countP (fun y => decide (y = at2 l i)) := (List.take_sublist _ _).countP_le
  rw [h1, List.countP_append] at h2
  simp at h2
  omega
theorem placeI_bounds (l : List (Int × Int)) (i : Nat) (h : i < l.length) : ltN l (at2 l i) ≤ placeI l i ∧ placeI l i < ltN l (at2 l i) + l.countP (fun y => decide (y = at2 l i)) := by
  unfold placeI placeTo ltN
  rw [List.take_length, Nat.min_eq_right (by omega)]
  have := countP_eq_le_count l i h
  omega
/-- in a sorted row, the places from 'how many are ahead' on have it -/
theorem sorted_at (x : Int × Int) : ∀ (s : List (Int × Int)), Sorted s → ∀ p, ltN s x ≤ p → p < ltN s x + s.countP (fun y => decide (y = x)) → at2 s p = x := by
  intro s
  induction s with
  | nil => intro _ p h1 h2; simp [ltN] at h2
  | cons y s ih =>
    intro hs p h1 h2
    obtain ⟨hy, hs'⟩ := List.pairwise_cons.1 hs
    by_cases ha : ahead y x = true
    · have hne : ¬ y = x := by intro e; rw [e, ahead_irrefl] at ha; cases ha
      have e1 : ltN (y :: s) x = ltN s x + 1 := by simp [ltN, ha]
      rw [e1] at h1 h2
      simp only [List.countP_cons, hne, decide_false] at h2
      obtain ⟨q, rfl⟩ : ∃ q, p = q + 1 := ⟨p - 1, by omega⟩
      have := ih hs' q (by omega) (by simp at h2; omega)
      simpa [at2] using this
    · have hz : ltN s x = 0 := by
        unfold ltN
        rw [List.countP_eq_zero]
        intro z hz
        have h3 := hy z hz
        have h4 : ahead y x = false := by simpa using ha
        have := ahead_trans_no h3 h4
        simp [this]
      have e1 : ltN (y :: s) x = 0 := by simp [ltN, ha] at hz ⊢; exact hz
      rw [e1] at h1 h2
      by_cases he : y = x
      · subst he
        cases p with
        | zero => simp [at2]
        | succ p =>
          simp only [List.countP_cons, decide_true] at h2
          have := ih hs' p (by omega) (by rw [hz]; simp at h2; omega)
          simpa [at2] using this
      · exfalso
        simp only [List.countP_cons, he, decide_false] at h2
        -- y is behind x, so no x is left
        have hyx : ahead x y = true := by
          have h4 : ahead y x = false := by simpa using ha
          rcases h5 : ahead x y with _ | _
          · exact absurd (ahead_eq h4 h5) he
          · rfl
        have h0 : s.countP (fun z => decide (z = x)) = 0 := by
          rw [List.countP_eq_zero]
          intro z hz
          have h3 := hy z hz
          simp only [decide_eq_true_eq]
          intro e; subst e
          rw [h3] at hyx; cases hyx
        rw [h0] at h2
        simp at h2
theorem sort_place (l s : List (Int × Int)) (hs : Sorted s) (hp : s.Perm l) (i : Nat) (h : i < l.length) : at2 s (placeI l i) = at2 l i ∧ placeI l i < s.length := by
  have hb := placeI_bounds l i h
  have e1 : ltN s (at2 l i) = ltN l (at2 l i) := hp.countP_eq _
  have e2 : s.countP (fun y => decide (y = at2 l i)) = l.countP (fun y => decide (y = at2 l i)) := hp.countP_eq _
  refine ⟨sorted_at (at2 l i) s hs _ (by omega) (by omega), ?_⟩
  rw [hp.length_eq]
  have := placeTo_le l i l.length (Nat.le_refl _)
  have hc : placeI l i < ltN l (at2 l i) + l.countP (fun y => decide (y = at2 l i)) := hb.2
  have hsum : ltN l (at2 l i) + l.countP (fun y => decide (y = at2 l i)) ≤ l.length := by
    have key : ∀ m : List (Int × Int), ltN m (at2 l i) + m.countP (fun y => decide (y = at2 l i)) ≤ m.length := by
      intro m
      induction m with
      | nil => simp [ltN]
      | cons y m ih =>
        unfold ltN at ih ⊢
        simp only [List.countP_cons, List.length_cons]
        by_cases ha : ahead y (at2 l i) = true
        · have hne : ¬ y = at2 l i := by intro e; rw [e, ahead_irrefl] at ha; cases ha
          simp [ha, hne]; omega
        · by_cases he : y = at2 l i
          · simp [he, ahead_irrefl]; omega
          · simp [ha, he]; omega
    exact key l
  omega
/-- who stands first has the first one's thread -/
theorem first_place (l : List (Int × Int)) (i : Nat) (h : i < l.length) (h0 : placeI l i = 0) : bestTo l l.length = at2 l i := by
  have hb := placeI_bounds l i h
  have hz : ltN l (at2 l i) = 0 := by omega
  have hm := bestTo_mem l (by omega) l.length (Nat.le_refl _)
  have h1 : ahead (bestTo l l.length) (at2 l i) = false := by
    have := (List.countP_eq_zero.1 hz) _ hm
    simpa using this
  have h2 := bestTo_min l l.length (Nat.le_refl _) i h
  exact ahead_eq h1 h2
end Go.Proofs.Ytpimifnibdjhfaa.GateP
