/-
  An arena's blocks: plain laws, and how they lie in memory.
-/
import Derived.Test.YtpkiihangfgmlaaRecs
import Derived.Test.YtpkiihangfgmlaaCellPlain
import Derived.Test.YtpkiihangfgmlaaRefPlain
namespace Go.Proofs.Ytpkiihangfgmlaa.ArP
open Go.RowKit RefP CellP
set_option linter.unusedVariables false
set_option linter.unusedSimpArgs false

/-- a block: its state, its generation, what is in it -/
abbrev B3 := Int × Int × Int
def b3F (p : B3) (j : Nat) : Value := if j = 0 then .int .i64 p.1 else if j = 1 then .int .u64 p.2.1 else .int .i64 p.2.2
abbrev z3 : B3 := (0, 0, 0)
def at3 (l : List B3) (i : Nat) : B3 := l.getD i z3
theorem b3F_0 (p : B3) : b3F p 0 = .int .i64 p.1 := rfl
theorem b3F_1 (p : B3) : b3F p 1 = .int .u64 p.2.1 := rfl
theorem b3F_2 (p : B3) : b3F p 2 = .int .i64 p.2.2 := rfl
theorem b3F_one (p : B3) (j : Nat) (h : j < 3) : (b3F p j).oneCell' = true := by rcases j with _ | _ | _ | j <;> first | rfl | omega
theorem at3_of (l : List B3) (i : Nat) (h : i < l.length) : at3 l i = l[i] := by simp [at3, h]
theorem at3_mem (l : List B3) (i : Nat) (h : i < l.length) : at3 l i ∈ l := by rw [at3_of l i h]; exact List.getElem_mem h
theorem at3_set (l : List B3) (k i : Nat) (c : B3) (h : k < l.length) : at3 (l.set k c) i = if i = k then c else at3 l i := by
  unfold at3
  rw [List.getD_eq_getElem?_getD, List.getElem?_set]
  by_cases e : k = i
  · subst e; simp [h]
  · have : ¬ i = k := fun x => e x.symm
    simp [e, this]

def restI (g : Int) : Int := if g = 4294967295 then 2 else 0
theorem restI_yes {g : Int} (h : g = 4294967295) : restI g = 2 := if_pos h
theorem restI_no {g : Int} (h : g ≠ 4294967295) : restI g = 0 := if_neg h
def rest3 (g : Int) : B3 := (restI g, g, 0)
/-- what claiming tells, and makes -/
def claimE (l : List B3) (i : Int) : Int := if inB l.length i = true then (if (at3 l i.toNat).1 = 1 then 24 else if (at3 l i.toNat).1 = 2 then 22 else 0) else 20
def claimW (l : List B3) (i : Int) : Int := if claimE l i = 0 then packI i (nextV (at3 l i.toNat).2.1) else 0
def claimL (l : List B3) (i : Int) : List B3 := if claimE l i = 0 then l.set i.toNat (1, nextV (at3 l i.toNat).2.1, 0) else l
theorem claimE_out {l : List B3} {i : Int} (h : inB l.length i = false) : claimE l i = 20 := if_neg (by simp [h])
theorem claimE_in {l : List B3} {i : Int} (h : inB l.length i = true) : claimE l i = if (at3 l i.toNat).1 = 1 then 24 else if (at3 l i.toNat).1 = 2 then 22 else 0 := if_pos h
/-- the place that a word names -/
def namesB (l : List B3) (x : Int) : Bool := opensB x && decide (openP x < l.length)
def atE (l : List B3) (x : Int) : Int := if namesB l x = true then (if (at3 l (openP x).toNat).2.1 ≠ openG x then 23 else if (at3 l (openP x).toNat).1 ≠ 1 then 24 else 0) else 20
def freeL (l : List B3) (x : Int) : List B3 := if atE l x = 0 then l.set (openP x).toNat (rest3 (at3 l (openP x).toNat).2.1) else l
def putL (l : List B3) (x y : Int) : List B3 := if atE l x = 0 then l.set (openP x).toNat ((at3 l (openP x).toNat).1, (at3 l (openP x).toNat).2.1, y) else l
def getX (l : List B3) (x : Int) : Int := if atE l x = 0 then (at3 l (openP x).toNat).2.2 else 0
theorem atE_out {l : List B3} {x : Int} (h : namesB l x = false) : atE l x = 20 := if_neg (by simp [h])
theorem atE_in {l : List B3} {x : Int} (h : namesB l x = true) : atE l x = if (at3 l (openP x).toNat).2.1 ≠ openG x then 23 else if (at3 l (openP x).toNat).1 ≠ 1 then 24 else 0 := if_pos h
theorem namesB_yes {l : List B3} {x : Int} (h : namesB l x = true) : opensB x = true ∧ 0 ≤ openP x ∧ openP x < l.length := by
  simp only [namesB, Bool.and_eq_true, decide_eq_true_eq] at h
  exact ⟨h.1, (open_bounds x).1, h.2⟩
theorem atE_zero {l : List B3} {x : Int} (h : atE l x = 0) : namesB l x = true ∧ (at3 l (openP x).toNat).2.1 = openG x ∧ (at3 l (openP x).toNat).1 = 1 := by
  unfold atE at h
  by_cases a : namesB l x = true
  · rw [if_pos a] at h
    by_cases b : (at3 l (openP x).toNat).2.1 = openG x
    · by_cases c : (at3 l (openP x).toNat).1 = 1
      · exact ⟨a, b, c⟩
      · simp [b, c] at h
    · simp [b] at h
  · simp [a] at h
theorem claimE_zero {l : List B3} {i : Int} (h : claimE l i = 0) : inB l.length i = true ∧ (at3 l i.toNat).1 ≠ 1 ∧ (at3 l i.toNat).1 ≠ 2 := by
  unfold claimE at h
  by_cases a : inB l.length i = true
  · rw [if_pos a] at h
    by_cases b : (at3 l i.toNat).1 = 1
    · simp [b] at h
    · by_cases c : (at3 l i.toNat).1 = 2
      · simp [c] at h
      · exact ⟨a, b, c⟩
  · simp [a] at h
def many3 (l : List B3) (s : Int) : Nat := l.countP (fun p => p.1 == s)
theorem many3_le (l : List B3) (s : Int) : many3 l s ≤ l.length := List.countP_le_length
theorem many3_succ (l : List B3) (s : Int) (k : Nat) (h : k < l.length) : many3 (l.take (k + 1)) s = many3 (l.take k) s + if (at3 l k).1 = s then 1 else 0 := by
  unfold many3
  rw [List.take_succ_eq_append_getElem h, List.countP_append, at3_of l k h]
  by_cases e : l[k].1 = s <;> simp [e]

def Rng3 (l : List B3) : Prop := ∀ p ∈ l, (-9223372036854775808 ≤ p.1 ∧ p.1 ≤ 9223372036854775807) ∧ (0 ≤ p.2.1 ∧ p.2.1 ≤ 18446744073709551615) ∧ -9223372036854775808 ≤ p.2.2 ∧ p.2.2 ≤ 9223372036854775807
theorem Rng3.at {l : List B3} (h : Rng3 l) (i : Nat) : (-9223372036854775808 ≤ (at3 l i).1 ∧ (at3 l i).1 ≤ 9223372036854775807) ∧ (0 ≤ (at3 l i).2.1 ∧ (at3 l i).2.1 ≤ 18446744073709551615) ∧ -9223372036854775808 ≤ (at3 l i).2.2 ∧ (at3 l i).2.2 ≤ 9223372036854775807 := by
  by_cases hi : i < l.length
  · exact h _ (at3_mem l i hi)
  · have : at3 l i = z3 := by simp [at3, List.getElem?_eq_none (show l.length ≤ i by omega)]
    rw [this]; simp
theorem Rng3.set {l : List B3} (h : Rng3 l) (i : Nat) (c : B3) (hc : (-9223372036854775808 ≤ c.1 ∧ c.1 ≤ 9223372036854775807) ∧ (0 ≤ c.2.1 ∧ c.2.1 ≤ 18446744073709551615) ∧ -9223372036854775808 ≤ c.2.2 ∧ c.2.2 ≤ 9223372036854775807) : Rng3 (l.set i c) := by
  intro x hx
  rcases List.mem_or_eq_of_mem_set hx with hx | rfl
  · exact h x hx
  · exact hc
theorem restI_rng (g : Int) : 0 ≤ restI g ∧ restI g ≤ 2 := by unfold restI; split <;> omega
theorem Rng3.claim {l : List B3} (h : Rng3 l) (i : Int) : Rng3 (claimL l i) := by
  unfold claimL; split
  · exact h.set _ _ ⟨by simp, nextV_rng _, by simp⟩
  · exact h
theorem Rng3.free {l : List B3} (h : Rng3 l) (x : Int) : Rng3 (freeL l x) := by
  unfold freeL; split
  · exact h.set _ _ ⟨by have := restI_rng (at3 l (openP x).toNat).2.1; simp only [rest3]; omega, (h.at _).2.1, by simp [rest3]⟩
  · exact h
theorem Rng3.put {l : List B3} (h : Rng3 l) (x y : Int) (h0 : -9223372036854775808 ≤ y) (h1 : y ≤ 9223372036854775807) : Rng3 (putL l x y) := by
  unfold putL; split
  · exact h.set _ _ ⟨(h.at _).1, (h.at _).2.1, h0, h1⟩
  · exact h
theorem claimL_length (l : List B3) (i : Int) : (claimL l i).length = l.length := by unfold claimL; split <;> simp
theorem freeL_length (l : List B3) (x : Int) : (freeL l x).length = l.length := by unfold freeL; split <;> simp
theorem putL_length (l : List B3) (x y : Int) : (putL l x y).length = l.length := by unfold putL; split <;> simp
/-! in memory -/
abbrev rec3 (l : List B3) : Array Value := recA 3 b3F z3 l
abbrev Row3 (w : World) (a : Option Addr) (l : List B3) : Prop := RecS 3 b3F z3 w a l
theorem rec3_set (l : List B3) (i : Nat) (p : B3) (hi : i < l.length) : (((rec3 l).setIfInBounds (i * 3) (.int .i64 p.1)).setIfInBounds (i * 3 + 1) (.int .u64 p.2.1)).setIfInBounds (i * 3 + 2) (.int .i64 p.2.2) = rec3 (l.set i p) := by
  refine recA_set i p hi (by simp [recA_size]) (fun j hj => ?_) (fun i' j hi' hl hj => ?_)
  · have hs := recA_size 3 b3F z3 l
    rcases j with _ | _ | _ | j
    · simp [Array.getElem?_setIfInBounds, hs, b3F]; omega
    · simp [Array.getElem?_setIfInBounds, hs, b3F]; omega
    · simp [Array.getElem?_setIfInBounds, hs, b3F]; omega
    · omega
  · have e0 : ¬ i * 3 = i' * 3 + j := by omega
    have e1 : ¬ i * 3 + 1 = i' * 3 + j := by omega
    have e2 : ¬ i * 3 + 2 = i' * 3 + j := by omega
    simp [Array.getElem?_setIfInBounds, e0, e1, e2]
theorem rec3_put (l : List B3) (i : Nat) (y : Int) (hi : i < l.length) : (rec3 l).setIfInBounds (i * 3 + 2) (.int .i64 y) = rec3 (l.set i ((at3 l i).1, (at3 l i).2.1, y)) := by
  refine recA_set i _ hi (by simp [recA_size]) (fun j hj => ?_) (fun i' j hi' hl hj => ?_)
  · have hs := recA_size 3 b3F z3 l
    have ha := recA_at (k := 3) b3F z3 l i
    rcases j with _ | _ | _ | j
    · have := ha 0 hi (by omega)
      simp [Array.getElem?_setIfInBounds] at this ⊢
      rw [this]; rfl
    · have := ha 1 hi (by omega)
      simp [Array.getElem?_setIfInBounds] at this ⊢
      rw [this]; rfl
    · simp [Array.getElem?_setIfInBounds, hs, b3F]; omega
    · omega
  · have e2 : ¬ i * 3 + 2 = i' * 3 + j := by omega
    simp [Array.getElem?_setIfInBounds, e2]
theorem row3_cell {w : World} {a : Option Addr} {l : List B3} (h : Row3 w a l) (k : Nat) (hk : k < l.length) :
    ∃ b off, a = some ⟨b, off, none⟩ ∧ b < w.heap.size ∧ w.cell? ⟨b, off + k * 3, none⟩ = some (.int .i64 (at3 l k).1) ∧ w.cell? ⟨b, off + k * 3 + 1, none⟩ = some (.int .u64 (at3 l k).2.1) ∧ w.cell? ⟨b, off + k * 3 + 2, none⟩ = some (.int .i64 (at3 l k).2.2) := by
  obtain ⟨b, off, e, hb, hc⟩ := RecS.cell h k hk (by omega)
  exact ⟨b, off, e, hb, hc 0 (by omega), hc 1 (by omega), hc 2 (by omega)⟩
/-- what the arena's law of many, of the made blocks, is -/
theorem z3_made (n : Nat) : madeCells #[.int .i64 0, .int .u64 0, .int .i64 0] (n * 3) = rec3 (List.replicate n z3) :=
  recA_made _ z3 n rfl (fun j hj => by rcases j with _ | _ | _ | j <;> first | rfl | omega)
end Go.Proofs.Ytpkiihangfgmlaa.ArP
