/-
  MemoryApart: no cell is two things: the plain law.
-/
import Derived.Test.YtpmlbdnhgeeaoaaMemLives
namespace Go.Proofs.Ytpmlbdnhgeeaoaa.memoryApart
open Go.RowKit RefP CellP MemP
set_option linter.unusedVariables false
set_option linter.unusedSimpArgs false
/-- the cell of a region's place; 5 and 6: a thread's two hazards; 7: the gate -/
def Wv (A T r : Nat) (j : Int) : Int :=
  match r with
  | 5 => hazI A T j 0
  | 6 => hazI A T j 1
  | 7 => gateI A T
  | r => atI A T r j
theorem W0 {A T : Nat} {j : Int} (h : 0 ≤ Wv A T 0 j) : Wv A T 0 j = j ∧ 0 ≤ j ∧ j < A := by
  simp only [Wv, atI, fromI, sizeI] at *; split at h <;> omega
theorem W1 {A T : Nat} {j : Int} (h : 0 ≤ Wv A T 1 j) : Wv A T 1 j = A + j ∧ 0 ≤ j ∧ j < A := by
  simp only [Wv, atI, fromI, sizeI] at *; split at h <;> omega
theorem W2 {A T : Nat} {j : Int} (h : 0 ≤ Wv A T 2 j) : Wv A T 2 j = 2 * A + j ∧ 0 ≤ j ∧ j < T := by
  simp only [Wv, atI, fromI, sizeI] at *; split at h <;> omega
theorem W3 {A T : Nat} {j : Int} (h : 0 ≤ Wv A T 3 j) : Wv A T 3 j = 2 * A + T + j ∧ 0 ≤ j ∧ j < T := by
  simp only [Wv, atI, fromI, sizeI] at *; split at h <;> omega
theorem W4 {A T : Nat} {j : Int} (h : 0 ≤ Wv A T 4 j) : Wv A T 4 j = 2 * A + 2 * T + j ∧ 0 ≤ j ∧ j < T := by
  simp only [Wv, atI, fromI, sizeI] at *; split at h <;> omega
theorem W5 {A T : Nat} {j : Int} (h : 0 ≤ Wv A T 5 j) : Wv A T 5 j = 2 * A + 3 * T + 2 * j ∧ 0 ≤ j ∧ j < T := by
  simp only [Wv, hazI] at *; split at h <;> omega
theorem W6 {A T : Nat} {j : Int} (h : 0 ≤ Wv A T 6 j) : Wv A T 6 j = 2 * A + 3 * T + 2 * j + 1 ∧ 0 ≤ j ∧ j < T := by
  simp only [Wv, hazI] at *; split at h <;> omega
theorem W7 (A T : Nat) (j : Int) : Wv A T 7 j = 2 * A + 5 * T := rfl
theorem lt8 {r : Nat} (h : r < 8) : r = 0 ∨ r = 1 ∨ r = 2 ∨ r = 3 ∨ r = 4 ∨ r = 5 ∨ r = 6 ∨ r = 7 := by omega
theorem W_rng (A T r : Nat) (j : Int) (hr : r < 8) : -1 ≤ Wv A T r j ∧ Wv A T r j < 2 * A + 5 * T + 1 := by
  rcases lt8 hr with h | h | h | h | h | h | h | h <;> subst h <;> simp only [Wv, atI, fromI, sizeI, hazI, gateI] <;> (try split) <;> omega
/-- which part of its region's cells a cell is -/
structure Part (A T r : Nat) (j v : Int) : Prop where
  h0 : r = 0 → v = j ∧ 0 ≤ j ∧ j < A
  h1 : r = 1 → v = A + j ∧ 0 ≤ j ∧ j < A
  h2 : r = 2 → v = 2 * A + j ∧ 0 ≤ j ∧ j < T
  h3 : r = 3 → v = 2 * A + T + j ∧ 0 ≤ j ∧ j < T
  h4 : r = 4 → v = 2 * A + 2 * T + j ∧ 0 ≤ j ∧ j < T
  h5 : r = 5 → v = 2 * A + 3 * T + 2 * j ∧ 0 ≤ j ∧ j < T
  h6 : r = 6 → v = 2 * A + 3 * T + 2 * j + 1 ∧ 0 ≤ j ∧ j < T
  h7 : r = 7 → v = 2 * A + 5 * T
theorem part (A T r : Nat) (j : Int) (hr : r < 8) (h : 0 ≤ Wv A T r j) : Part A T r j (Wv A T r j) :=
  ⟨fun e => by subst e; exact W0 h, fun e => by subst e; exact W1 h, fun e => by subst e; exact W2 h, fun e => by subst e; exact W3 h, fun e => by subst e; exact W4 h, fun e => by subst e; exact W5 h, fun e => by subst e; exact W6 h, fun e => by subst e; rfl⟩
theorem W_inj (A T r r' : Nat) (j j' : Int) (hr : r < 8) (hr' : r' < 8) (h : 0 ≤ Wv A T r j) (e : Wv A T r j = Wv A T r' j') : r = r' ∧ (r = 7 ∨ j = j') := by
  have p := part A T r j hr h
  have q := part A T r' j' hr' (by omega)
  rw [← e] at q
  generalize Wv A T r j = v at p q h
  obtain ⟨p0, p1, p2, p3, p4, p5, p6, p7⟩ := p
  obtain ⟨q0, q1, q2, q3, q4, q5, q6, q7⟩ := q
  rcases lt8 hr with a | a | a | a | a | a | a | a <;> subst a <;> simp at p0 p1 p2 p3 p4 p5 p6 p7 <;>
    (rcases lt8 hr' with b | b | b | b | b | b | b | b <;> subst b <;> simp at q0 q1 q2 q3 q4 q5 q6 q7 <;> omega)
/-- the fifteen cells -/
def Vx (A T : Nat) (i k : Int) (x : Nat) : Int := Wv A T (x % 8) (if x < 8 then i else k)
def Vl (A T : Nat) (i k : Int) : List Int := [Wv A T 0 i, Wv A T 1 i, Wv A T 2 i, Wv A T 3 i, Wv A T 4 i, Wv A T 5 i, Wv A T 6 i, Wv A T 7 i, Wv A T 0 k, Wv A T 1 k, Wv A T 2 k, Wv A T 3 k, Wv A T 4 k, Wv A T 5 k, Wv A T 6 k]
theorem Vl_at (A T : Nat) (i k : Int) (x : Nat) (hx : x < 15) : at0 (Vl A T i k) x = Vx A T i k x := by
  have : x = 0 ∨ x = 1 ∨ x = 2 ∨ x = 3 ∨ x = 4 ∨ x = 5 ∨ x = 6 ∨ x = 7 ∨ x = 8 ∨ x = 9 ∨ x = 10 ∨ x = 11 ∨ x = 12 ∨ x = 13 ∨ x = 14 := by omega
  rcases this with e | e | e | e | e | e | e | e | e | e | e | e | e | e | e <;> subst e <;> rfl
theorem V_rng (A T : Nat) (i k : Int) (x : Nat) : -1 ≤ Vx A T i k x ∧ Vx A T i k x < 2 * A + 5 * T + 1 := W_rng A T _ _ (Nat.mod_lt _ (by omega))
/-- the law -/
theorem apart (A T : Nat) (i k : Int) (x y : Nat) (hx : x < 15) (hy : y < x) (h : 0 ≤ Vx A T i k x) : Vx A T i k x = Vx A T i k y ↔ i = k ∧ x = y + 8 := by
  constructor
  · intro e
    obtain ⟨e1, e2⟩ := W_inj A T _ _ _ _ (Nat.mod_lt _ (by omega)) (Nat.mod_lt _ (by omega)) h e
    have hxy : x = y + 8 := by omega
    refine ⟨?_, hxy⟩
    rcases e2 with e2 | e2
    · omega
    · rw [if_neg (by omega), if_pos (by omega)] at e2
      exact e2.symm
  · rintro ⟨rfl, rfl⟩
    unfold Vx
    have : (y + 8) % 8 = y % 8 := by omega
    rw [this]; simp
end Go.Proofs.Ytpmlbdnhgeeaoaa.memoryApart
