/-
  Choosing, nobody writing meanwhile: plain laws.
-/
import Derived.Test.YtpimifnibdjhfaaChooseP
namespace Go.Proofs.Ytpimifnibdjhfaa.MemP
open RefP CellP GateP
set_option linter.unusedVariables false
set_option linter.unusedSimpArgs false
/-- candidates among the first threads -/
def candsTo (L : List (Int × Int)) (A T : Nat) : Nat → List (Int × Int)
  | 0 => []
  | k + 1 => if loadW L (atI A T 2 k) ≠ 0 ∧ loadW L (atI A T 3 k) = 0 then candsTo L A T k ++ [((k : Int), loadW L (atI A T 4 k))] else candsTo L A T k
/-- accesses for the first threads -/
def costTo (L : List (Int × Int)) (A T : Nat) : Nat → Nat
  | 0 => 0
  | k + 1 => costTo L A T k + (if loadW L (atI A T 2 k) = 0 then 1 else 4)
theorem candsTo_yes {L : List (Int × Int)} {A T k : Nat} (h : loadW L (atI A T 2 k) ≠ 0 ∧ loadW L (atI A T 3 k) = 0) : candsTo L A T (k + 1) = candsTo L A T k ++ [((k : Int), loadW L (atI A T 4 k))] := if_pos h
theorem candsTo_no {L : List (Int × Int)} {A T k : Nat} (h : ¬ (loadW L (atI A T 2 k) ≠ 0 ∧ loadW L (atI A T 3 k) = 0)) : candsTo L A T (k + 1) = candsTo L A T k := if_neg h
theorem costTo_one {L : List (Int × Int)} {A T k : Nat} (h : loadW L (atI A T 2 k) = 0) : costTo L A T (k + 1) = costTo L A T k + 1 := by
  show costTo L A T k + _ = _; rw [if_pos h]
theorem costTo_four {L : List (Int × Int)} {A T k : Nat} (h : ¬ loadW L (atI A T 2 k) = 0) : costTo L A T (k + 1) = costTo L A T k + 4 := by
  show costTo L A T k + _ = _; rw [if_neg h]
theorem candsTo_mem {L : List (Int × Int)} {A T : Nat} : ∀ k, ∀ x ∈ candsTo L A T k, 0 ≤ x.1 ∧ x.1 < k := by
  intro k
  induction k with
  | zero => intro x hx; cases hx
  | succ k ih =>
    intro x hx
    by_cases h : loadW L (atI A T 2 k) ≠ 0 ∧ loadW L (atI A T 3 k) = 0
    · rw [candsTo_yes h] at hx
      rcases List.mem_append.1 hx with hx | hx
      · have := ih x hx; omega
      · rw [List.mem_singleton.1 hx]; simp; omega
    · rw [candsTo_no h] at hx
      have := ih x hx; omega
/-- all that is known is so -/
structure CS.Good (s : CS) (L : List (Int × Int)) (A T : Nat) : Prop where
  th : s.th ≤ T
  at_ : s.at_ ≤ 3
  over : s.th = T → s.at_ = 0
  cs : s.L = candsTo L A T s.th
  p1 : 1 ≤ s.at_ → loadW L (atI A T 2 s.th) ≠ 0 ∧ s.ver = loadV L (atI A T 2 s.th)
  p2 : 2 ≤ s.at_ → s.done = loadW L (atI A T 3 s.th)
  p3 : 3 ≤ s.at_ → s.ph = loadW L (atI A T 4 s.th)
abbrev cs0 : CS := ⟨0, 0, 0, 0, 0, []⟩
theorem CS.good0 (L : List (Int × Int)) (A T : Nat) : cs0.Good L A T := ⟨Nat.zero_le _, Nat.zero_le _, fun _ => rfl, rfl, fun h => absurd h (by decide), fun h => absurd h (by decide), fun h => absurd h (by decide)⟩
theorem CS.ok0 : cs0.Ok := ⟨by decide, by decide, by decide, by decide, by decide, fun x hx => (by cases hx), by decide⟩
/-- a state's next one -/
abbrev CS.next (s : CS) (L : List (Int × Int)) (A T : Nat) : CS := s.tell (loadW L (s.cell A T)) (loadV L (s.cell A T))
/-- accesses so far -/
def CS.count (s : CS) (L : List (Int × Int)) (A T : Nat) : Nat := costTo L A T s.th + s.at_
theorem next_0z {s : CS} {L : List (Int × Int)} {A T : Nat} (e : s.at_ = 0) (h : loadW L (atI A T 2 s.th) = 0) : s.next L A T = { s with ver := loadV L (atI A T 2 s.th), th := s.th + 1 } := by
  unfold CS.next CS.tell CS.cell; rw [e]; simp [h]
theorem next_0n {s : CS} {L : List (Int × Int)} {A T : Nat} (e : s.at_ = 0) (h : ¬ loadW L (atI A T 2 s.th) = 0) : s.next L A T = { s with ver := loadV L (atI A T 2 s.th), at_ := 1 } := by
  unfold CS.next CS.tell CS.cell; rw [e]; simp [h]
theorem next_1 {s : CS} {L : List (Int × Int)} {A T : Nat} (e : s.at_ = 1) : s.next L A T = { s with done := loadW L (atI A T 3 s.th), at_ := 2 } := by
  unfold CS.next CS.tell CS.cell; rw [e]; try rfl
theorem next_2 {s : CS} {L : List (Int × Int)} {A T : Nat} (e : s.at_ = 2) : s.next L A T = { s with ph := loadW L (atI A T 4 s.th), at_ := 3 } := by
  unfold CS.next CS.tell CS.cell; rw [e]; try rfl
theorem next_3 {s : CS} {L : List (Int × Int)} {A T : Nat} (e : s.at_ = 3) : s.next L A T = { s with L := if loadV L (atI A T 2 s.th) = s.ver ∧ s.done = 0 then s.L ++ [((s.th : Int), s.ph)] else s.L, th := s.th + 1, at_ := 0 } := by
  unfold CS.next CS.tell CS.cell; rw [e]; try rfl
theorem CS.Good.next {s : CS} {L : List (Int × Int)} {A T : Nat} (h : s.Good L A T) (hT : s.th < T) :
    (s.next L A T).Good L A T ∧ (s.next L A T).count L A T = s.count L A T + 1 ∧ 4 * s.th + s.at_ + 1 ≤ 4 * (s.next L A T).th + (s.next L A T).at_ := by
  have ha := h.at_
  have hc : s.at_ = 0 ∨ s.at_ = 1 ∨ s.at_ = 2 ∨ s.at_ = 3 := by omega
  rcases hc with e | e | e | e
  · by_cases hz : loadW L (atI A T 2 s.th) = 0
    · rw [next_0z e hz]
      refine ⟨⟨(by omega : s.th + 1 ≤ T), h.at_, fun _ => e, ?_, fun k => ?_, fun k => ?_, fun k => ?_⟩, ?_, ?_⟩
      · show s.L = _
        rw [h.cs]; exact (candsTo_no (fun k => k.1 hz)).symm
      · exact absurd k (by show ¬ 1 ≤ s.at_; omega)
      · exact absurd k (by show ¬ 2 ≤ s.at_; omega)
      · exact absurd k (by show ¬ 3 ≤ s.at_; omega)
      · show costTo L A T (s.th + 1) + s.at_ = costTo L A T s.th + s.at_ + 1
        rw [costTo_one hz]; omega
      · show _ ≤ 4 * (s.th + 1) + s.at_; omega
    · rw [next_0n e hz]
      refine ⟨⟨h.th, (by decide : 1 ≤ 3), fun k => absurd k (by show ¬ s.th = T; omega), h.cs, fun _ => ⟨hz, rfl⟩, fun k => ?_, fun k => ?_⟩, ?_, ?_⟩
      · exact absurd k (by show ¬ 2 ≤ 1; decide)
      · exact absurd k (by show ¬ 3 ≤ 1; decide)
      · show costTo L A T s.th + 1 = costTo L A T s.th + s.at_ + 1; omega
      · show _ ≤ 4 * s.th + 1; omega
  · rw [next_1 e]
    refine ⟨⟨h.th, (by decide : 2 ≤ 3), fun k => absurd k (by show ¬ s.th = T; omega), h.cs, fun _ => h.p1 (by omega), fun _ => rfl, fun k => ?_⟩, ?_, ?_⟩
    · exact absurd k (by show ¬ 3 ≤ 2; decide)
    · show costTo L A T s.th + 2 = costTo L A T s.th + s.at_ + 1; omega
    · show _ ≤ 4 * s.th + 2; omega
  · rw [next_2 e]
    refine ⟨⟨h.th, (by decide : 3 ≤ 3), fun k => absurd k (by show ¬ s.th = T; omega), h.cs, fun _ => h.p1 (by omega), fun _ => h.p2 (by omega), fun _ => rfl⟩, ?_, ?_⟩
    · show costTo L A T s.th + 3 = costTo L A T s.th + s.at_ + 1; omega
    · show _ ≤ 4 * s.th + 3; omega
  · rw [next_3 e]
    have q1 := h.p1 (by omega)
    have q2 := h.p2 (by omega)
    have q3 := h.p3 (by omega)
    refine ⟨⟨(by omega : s.th + 1 ≤ T), (by decide : 0 ≤ 3), fun _ => rfl, ?_, fun k => ?_, fun k => ?_, fun k => ?_⟩, ?_, ?_⟩
    · show (if loadV L (atI A T 2 s.th) = s.ver ∧ s.done = 0 then s.L ++ [((s.th : Int), s.ph)] else s.L) = candsTo L A T (s.th + 1)
      by_cases hd : s.done = 0
      · rw [if_pos ⟨q1.2.symm, hd⟩, candsTo_yes ⟨q1.1, by rw [← q2]; exact hd⟩, h.cs, q3]
      · rw [if_neg (fun k => hd k.2), candsTo_no (fun k => hd (by rw [q2]; exact k.2)), h.cs]
    · exact absurd k (by show ¬ 1 ≤ 0; decide)
    · exact absurd k (by show ¬ 2 ≤ 0; decide)
    · exact absurd k (by show ¬ 3 ≤ 0; decide)
    · show costTo L A T (s.th + 1) + 0 = costTo L A T s.th + s.at_ + 1
      rw [costTo_four q1.1]; omega
    · show _ ≤ 4 * (s.th + 1) + 0; omega
/-! who is first: a loop over the threads -/
theorem at2_append_lt (l : List (Int × Int)) (x : Int × Int) (k : Nat) (h : k < l.length) : at2 (l ++ [x]) k = at2 l k := by
  unfold at2; simp [List.getD, List.getElem?_append_left h]
theorem best_snoc (l : List (Int × Int)) (x : Int × Int) (h : 0 < l.length) : bestTo (l ++ [x]) (l ++ [x]).length = pick (bestTo l l.length) x := by
  unfold bestTo
  rw [at2_append_lt l x 0 h, List.take_length, List.take_length, List.foldl_append]; rfl
theorem best_one (x : Int × Int) : bestTo [x] 1 = x := by
  have e : at2 [x] 0 = x := rfl
  rw [bestTo_succ [x] 0 (by simp), bestTo_zero, e]
  unfold pick; split <;> rfl
/-- the loop's own numbers -/
structure BestAt (L : List (Int × Int)) (A T k : Nat) (b p : Int) : Prop where
  none : candsTo L A T k = [] → b = -1 ∧ p = 0
  some : candsTo L A T k ≠ [] → (b, p) = bestTo (candsTo L A T k) (candsTo L A T k).length
  lo : -1 ≤ b ∧ b < k
  p : 0 ≤ p ∧ p ≤ 18446744073709551615
theorem BestAt.zero (L : List (Int × Int)) (A T : Nat) : BestAt L A T 0 (-1) 0 := ⟨fun _ => ⟨rfl, rfl⟩, fun h => absurd rfl h, by omega, by omega⟩
theorem BestAt.neg {L : List (Int × Int)} {A T k : Nat} {b p : Int} (h : BestAt L A T k b p) : b < 0 ↔ candsTo L A T k = [] := by
  constructor
  · intro hb
    by_cases e : candsTo L A T k = []
    · exact e
    · have h1 := h.some e
      have h2 := bestTo_mem (candsTo L A T k) (List.length_pos_iff.2 e) _ (Nat.le_refl _)
      rw [← h1] at h2
      have := candsTo_mem k _ h2
      omega
  · intro e; have := (h.none e).1; omega
/-- a thread that is taken -/
theorem BestAt.take {L : List (Int × Int)} {A T k : Nat} {b p : Int} (h : BestAt L A T k b p) (hc : loadW L (atI A T 2 k) ≠ 0 ∧ loadW L (atI A T 3 k) = 0) (hx : b < 0 ∨ loadW L (atI A T 4 k) < p) (hr : 0 ≤ loadW L (atI A T 4 k) ∧ loadW L (atI A T 4 k) ≤ 18446744073709551615) : BestAt L A T (k + 1) k (loadW L (atI A T 4 k)) := by
  refine ⟨fun e => ?_, fun _ => ?_, by omega, hr⟩
  · rw [candsTo_yes hc] at e; simp at e
  · rw [candsTo_yes hc]
    by_cases e : candsTo L A T k = []
    · rw [e]; exact (best_one _).symm
    · have hl := List.length_pos_iff.2 e
      rw [best_snoc _ _ hl, ← h.some e]
      have hb := h.neg
      have hb' : ¬ b < 0 := fun q => e (hb.1 q)
      unfold pick
      rw [if_pos (by rw [ahead_iff]; left; rcases hx with q | q; exact absurd q hb'; exact q)]
/-- one that is a candidate, but not taken -/
theorem BestAt.leave {L : List (Int × Int)} {A T k : Nat} {b p : Int} (h : BestAt L A T k b p) (hc : loadW L (atI A T 2 k) ≠ 0 ∧ loadW L (atI A T 3 k) = 0) (hx : ¬ (b < 0 ∨ loadW L (atI A T 4 k) < p)) : BestAt L A T (k + 1) b p := by
  have hb := h.neg
  have e : candsTo L A T k ≠ [] := fun e => hx (.inl (hb.2 e))
  have hl := List.length_pos_iff.2 e
  have hlo := h.lo
  refine ⟨fun e => ?_, fun _ => ?_, by omega, h.p⟩
  · rw [candsTo_yes hc] at e; simp at e
  · rw [candsTo_yes hc, best_snoc _ _ hl, ← h.some e]
    unfold pick
    rw [if_neg (by rw [ahead_iff]; simp only []; omega)]
/-- one that is none -/
theorem BestAt.not {L : List (Int × Int)} {A T k : Nat} {b p : Int} (h : BestAt L A T k b p) (hc : ¬ (loadW L (atI A T 2 k) ≠ 0 ∧ loadW L (atI A T 3 k) = 0)) : BestAt L A T (k + 1) b p := by
  have hlo := h.lo
  have e := candsTo_no hc
  exact ⟨by rw [e]; exact h.none, by rw [e]; exact h.some, by omega, h.p⟩
theorem BestAt.first {L : List (Int × Int)} {A T k : Nat} {b p : Int} (h : BestAt L A T k b p) : firstB (candsTo L A T k) = decide (0 ≤ b) ∧ (0 ≤ b → firstT (candsTo L A T k) = b) := by
  have hb := h.neg
  by_cases e : candsTo L A T k = []
  · have := hb.2 e
    refine ⟨?_, fun q => absurd q (by omega)⟩
    rw [e]
    have hd : decide (0 ≤ b) = false := by simp; omega
    rw [hd]; rfl
  · have hl := List.length_pos_iff.2 e
    have hn : ¬ b < 0 := fun q => e (hb.1 q)
    have hd : decide (0 ≤ b) = true := by simp; omega
    refine ⟨?_, fun _ => ?_⟩
    · rw [hd]; unfold firstB; simp; omega
    · unfold firstT
      rw [if_neg (by omega), ← h.some e]
end Go.Proofs.Ytpimifnibdjhfaa.MemP
