/-
  retire: the plain machine: how many accesses are left, what is kept.
-/
import Derived.Test.YtchkiacmiljopaaRetP
namespace Go.Proofs.Ytchkiacmiljopaa.MemP
open Go.RowKit RefP CellP HazP
set_option linter.unusedVariables false
set_option linter.unusedSimpArgs false
def doL (L : List (Int × Int)) (x : Acc4) : List (Int × Int) := if x.1 = 2 then storeL L x.2.1 x.2.2.2 else L
def tellS (s : RS) (word : Int) : RS := if s.st = 1 then { s with nm := s.nm ++ [word], at_ := s.at_ + 1 } else if s.st = 2 then { s with fr := s.fr.tail } else s
def prun (A T : Nat) (r : Int) : Nat → RS → List (Int × Int) → List Acc4 × Bool × RS × List (Int × Int)
  | 0, s, L => ([], false, s, L)
  | n + 1, s, L =>
    if (nrm T r 4 s).st = 0 then ([], true, nrm T r 4 s, L)
    else (accS A T (nrm T r 4 s) :: (prun A T r n (tellS (nrm T r 4 s) (loadW L (accS A T (nrm T r 4 s)).2.1)) (doL L (accS A T (nrm T r 4 s)))).1,
      (prun A T r n (tellS (nrm T r 4 s) (loadW L (accS A T (nrm T r 4 s)).2.1)) (doL L (accS A T (nrm T r 4 s)))).2)
theorem prun_no {A T : Nat} {r : Int} {n : Nat} {s : RS} {L : List (Int × Int)} (h : (nrm T r 4 s).st = 0) : prun A T r (n + 1) s L = ([], true, nrm T r 4 s, L) := if_pos h
theorem prun_yes {A T : Nat} {r : Int} {n : Nat} {s : RS} {L : List (Int × Int)} (h : (nrm T r 4 s).st ≠ 0) :
    prun A T r (n + 1) s L = (accS A T (nrm T r 4 s) :: (prun A T r n (tellS (nrm T r 4 s) (loadW L (accS A T (nrm T r 4 s)).2.1)) (doL L (accS A T (nrm T r 4 s)))).1,
      (prun A T r n (tellS (nrm T r 4 s) (loadW L (accS A T (nrm T r 4 s)).2.1)) (doL L (accS A T (nrm T r 4 s)))).2) := if_neg h
/-- what holds of a task all the while -/
structure Fit (T : Nat) (s : RS) : Prop where
  st : s.st ≤ 2
  w : s.st ≠ 0 → s.W ≠ []
  at' : s.st = 1 → s.at_ ≤ 2 * T ∧ s.nm.length = s.at_
/-- how many accesses there are at most -/
def pot (T : Nat) (s : RS) : Nat :=
  (if s.st = 0 then s.W.length * (2 * T) else if s.st = 1 then s.W.length * (2 * T) - s.at_ else (s.W.length - 1) * (2 * T)) + (s.W.length + s.l.length + (if s.st = 2 then s.fr.length else 0))
theorem addP_len (r : Int) : ∀ W l, (addP r W l).1.length + (addP r W l).2.length = W.length + l.length ∧ (addP r W l).1.length ≤ W.length
  | [], l => by simp [addP]
  | x :: W, l => by
    unfold addP
    split
    · simp
    · have := addP_len r W (l ++ [x])
      simp only [List.length_append, List.length_cons, List.length_nil] at this ⊢
      omega
theorem istep_fit {T : Nat} {r : Int} {s : RS} (h : Fit T s) (ho : outB T s = false) : Fit T (istep r s) ∧ pot T (istep r s) ≤ pot T s := by
  have hst := h.st
  unfold istep
  by_cases h0 : s.st = 0
  · rw [if_pos h0]
    have hl := addP_len r s.W s.l
    have hm := Nat.mul_le_mul_right (2 * T) hl.2
    unfold addS
    split
    · rename_i he
      rw [he] at hl hm
      refine ⟨⟨by simp, by simp, by simp⟩, ?_⟩
      simp only [pot, h0, if_pos, List.length_nil] at hl ⊢
      simp; omega
    · rename_i he
      refine ⟨⟨by simp, fun _ => he, fun _ => by simp⟩, ?_⟩
      simp [pot, h0]; omega
  · rw [if_neg h0]
    have hW := h.w h0
    have hW1 : 1 ≤ s.W.length := by rcases hq : s.W with _ | ⟨x, W⟩ <;> simp_all
    by_cases h1 : s.st = 1
    · rw [if_pos h1]
      have ha := h.at' h1
      have hge : 2 * T ≤ s.at_ := by
        simp only [outB, h1] at ho
        simp at ho; omega
      have hb := siftL_both s.l s.nm
      refine ⟨⟨by simp [siftS], fun _ => hW, by simp [siftS]⟩, ?_⟩
      have hmul : (s.W.length - 1) * (2 * T) = s.W.length * (2 * T) - 2 * T := by rw [Nat.sub_mul]; simp
      simp [pot, siftS, h1, hmul]; omega
    · rw [if_neg h1]
      have h2 : s.st = 2 := by omega
      refine ⟨⟨by simp [sweptS], by simp [sweptS], by simp [sweptS]⟩, ?_⟩
      simp only [pot, sweptS, h2, List.length_tail, if_pos, if_neg]
      have hs : (sweptL r s.W s.l).length ≤ s.l.length + 1 := by
        unfold sweptL
        split
        · omega
        · split
          · omega
          · simp
      simp; omega
theorem nrm_fit {T : Nat} {r : Int} : ∀ (n : Nat) {s : RS}, Fit T s → Fit T (nrm T r n s) ∧ pot T (nrm T r n s) ≤ pot T s
  | 0, s, h => ⟨h, Nat.le_refl _⟩
  | n + 1, s, h => by
    unfold nrm
    split
    · exact ⟨h, Nat.le_refl _⟩
    · rename_i ho
      have k := istep_fit (r := r) h (by simpa using ho)
      have := nrm_fit (r := r) n k.1
      exact ⟨this.1, by omega⟩
/-- all words are of blocks that there are -/
def GoodAll (A : Nat) (s : RS) : Prop := (∀ x ∈ s.W, GoodW A x) ∧ (∀ x ∈ s.fr, GoodW A x) ∧ ∀ x ∈ s.l, GoodW A x
theorem addP_mem (r : Int) : ∀ W l, ∀ x, x ∈ (addP r W l).1 ∨ x ∈ (addP r W l).2 → x ∈ W ∨ x ∈ l
  | [], l, x, h => by simpa [addP] using h
  | y :: W, l, x, h => by
    unfold addP at h
    split at h
    · simpa using h
    · have := addP_mem r W (l ++ [y]) x h
      simp only [List.mem_append, List.mem_cons, List.not_mem_nil, or_false] at this ⊢
      rcases this with q | q | q
      · exact .inl (.inr q)
      · exact .inr q
      · exact .inl (.inl q)
theorem istep_good {A : Nat} {r : Int} {s : RS} (h : GoodAll A s) : GoodAll A (istep r s) := by
  unfold istep
  split
  · have hm := addP_mem r s.W s.l
    have hg : ∀ x, x ∈ (addP r s.W s.l).1 ∨ x ∈ (addP r s.W s.l).2 → GoodW A x := fun x hx => by
      rcases hm x hx with q | q
      · exact h.1 x q
      · exact h.2.2 x q
    unfold addS
    split
    · exact ⟨by simp, h.2.1, fun x hx => hg x (.inr hx)⟩
    · exact ⟨fun x hx => hg x (.inl hx), h.2.1, fun x hx => hg x (.inr hx)⟩
  · split
    · exact ⟨h.1, fun x hx => h.2.2 x (List.mem_filter.1 hx).1, fun x hx => h.2.2 x (List.mem_filter.1 hx).1⟩
    · refine ⟨fun x hx => h.1 x (List.mem_of_mem_tail hx), h.2.1, fun x hx => ?_⟩
      simp only [sweptS, sweptL] at hx
      split at hx
      · exact h.2.2 x hx
      · rename_i y W hW
        split at hx
        · exact h.2.2 x hx
        · rcases List.mem_append.1 hx with q | q
          · exact h.2.2 x q
          · exact h.1 x (by rw [hW]; simp at q; simp [q])
theorem nrm_good {A T : Nat} {r : Int} : ∀ (n : Nat) {s : RS}, GoodAll A s → GoodAll A (nrm T r n s)
  | 0, s, h => h
  | n + 1, s, h => by
    unfold nrm
    split
    · exact h
    · exact nrm_good (r := r) n (istep_good h)
theorem rank_step {T : Nat} {r : Int} {s : RS} (h : s.st ≤ 2) (hT : 1 ≤ T) (ho : outB T s = false) : rankS T (istep r s) < rankS T s := by
  have hr : rankS T s = if s.st = 0 then 1 else if s.st = 2 then 2 else 3 := by simp [rankS, ho]
  rw [hr]
  unfold istep
  by_cases h0 : s.st = 0
  · rw [if_pos h0, if_pos h0]
    unfold addS
    split
    · simp [rankS, outB]
    · simp [rankS, outB]; omega
  · rw [if_neg h0, if_neg h0]
    by_cases h1 : s.st = 1
    · rw [if_pos h1, h1]
      simp only [siftS, rankS]
      split <;> simp
    · rw [if_neg h1, if_pos (by omega)]
      simp only [sweptS, rankS]
      split <;> simp
theorem istep_st {r : Int} {s : RS} (h : s.st ≤ 2) : (istep r s).st ≤ 2 := by
  unfold istep
  split
  · unfold addS; split <;> simp
  · split <;> simp [siftS, sweptS]
theorem nrm_all {T : Nat} {r : Int} (hT : 1 ≤ T) : ∀ (n : Nat) {s : RS}, s.st ≤ 2 → rankS T s ≤ n → outB T (nrm T r n s) = true
  | 0, s, h, hr => by
    unfold rankS at hr
    split at hr
    · assumption
    · split at hr
      · omega
      · split at hr <;> omega
  | n + 1, s, h, hr => by
    unfold nrm
    split
    · assumption
    · rename_i ho
      have k := rank_step (r := r) h hT (by simpa using ho)
      exact nrm_all hT n (istep_st h) (by omega)
theorem rank_le (T : Nat) (s : RS) : rankS T s ≤ 3 := by unfold rankS; split <;> (try split) <;> (try split) <;> omega
theorem nrm_out4 {T : Nat} {r : Int} (hT : 1 ≤ T) {s : RS} (h : s.st ≤ 2) : outB T (nrm T r 4 s) = true := nrm_all hT 4 h (by have := rank_le T s; omega)
theorem nrm_more {T : Nat} {r : Int} (hT : 1 ≤ T) : ∀ (n : Nat) {s : RS}, s.st ≤ 2 → rankS T s ≤ n → nrm T r (n + 1) s = nrm T r n s
  | 0, s, h, hr => by
    have := nrm_all (r := r) hT 0 h hr
    simp only [nrm] at this ⊢
    simp [this]
  | n + 1, s, h, hr => by
    by_cases ho : outB T s = true
    · rw [nrm_out ho, nrm_out ho]
    · have ho : outB T s = false := by simpa using ho
      have k := rank_step (r := r) h hT ho
      rw [nrm_in ho, nrm_in (n := n) ho]
      exact nrm_more hT n (istep_st h) (by omega)
/-- a step inside turns nothing -/
theorem nrm_istep {T : Nat} {r : Int} (hT : 1 ≤ T) {s : RS} (h : s.st ≤ 2) (ho : outB T s = false) : nrm T r 4 s = nrm T r 4 (istep r s) := by
  have k := rank_step (r := r) h hT ho
  have := rank_le T s
  rw [nrm_in ho, nrm_more hT 3 (istep_st h) (by omega)]
theorem prun_istep {A T : Nat} {r : Int} (hT : 1 ≤ T) {s : RS} (h : s.st ≤ 2) (ho : outB T s = false) (n : Nat) (L : List (Int × Int)) : prun A T r (n + 1) s L = prun A T r (n + 1) (istep r s) L := by
  simp only [prun, ← nrm_istep hT h ho]
/-- an access is one less to come -/
theorem tell_fit {T : Nat} {s : RS} (h : Fit T s) (ho : outB T s = true) (h0 : s.st ≠ 0) (x : Int) : Fit T (tellS s x) ∧ pot T (tellS s x) + 1 ≤ pot T s := by
  have hst := h.st
  have hW := h.w h0
  have hW1 : 1 ≤ s.W.length := by rcases hq : s.W with _ | ⟨x, W⟩ <;> simp_all
  by_cases h1 : s.st = 1
  · have ha := h.at' h1
    have hlt : s.at_ < 2 * T := by
      simp only [outB, h1] at ho
      simpa using ho
    simp only [tellS, h1, if_pos]
    refine ⟨⟨by simp, fun _ => hW, fun _ => ⟨by simp; omega, by simp [ha.2]⟩⟩, ?_⟩
    have hm : 1 * (2 * T) ≤ s.W.length * (2 * T) := Nat.mul_le_mul_right _ hW1
    simp [pot, h1]; omega
  · have h2 : s.st = 2 := by omega
    have hf : s.fr ≠ [] := by
      simp only [outB, h2] at ho
      simpa using ho
    have hf1 : 1 ≤ s.fr.length := by rcases hq : s.fr with _ | ⟨x, W⟩ <;> simp_all
    simp only [tellS, h2]
    refine ⟨⟨by simp [h2], fun _ => by simpa using hW, by simp [h2]⟩, ?_⟩
    simp [pot, h2]; omega
theorem prun_ends {A T : Nat} {r : Int} (hT : 1 ≤ T) : ∀ (n : Nat) {s : RS} (L : List (Int × Int)), Fit T s → pot T s < n → (prun A T r n s L).2.1 = true ∧ (prun A T r n s L).1.length ≤ pot T s
  | 0, s, L, h, hp => by omega
  | n + 1, s, L, h, hp => by
    have k := nrm_fit (r := r) 4 h
    by_cases h0 : (nrm T r 4 s).st = 0
    · rw [prun_no h0]; simp
    · rw [prun_yes h0]
      have q := tell_fit k.1 (nrm_out4 hT h.st) h0 (loadW L (accS A T (nrm T r 4 s)).2.1)
      have := prun_ends (A := A) (r := r) hT n (doL L (accS A T (nrm T r 4 s))) q.1 (by omega)
      exact ⟨this.1, by simp only [List.length_cons]; omega⟩
end Go.Proofs.Ytchkiacmiljopaa.MemP
