/-
  Cells that are written by versions: plain laws, and how they lie in memory.
-/
import Derived.Test.YtfnjggefinkcaaaCells
import Derived.Laws.MakeOwn
namespace Go.Proofs.Ytfnjggefinkcaaa.CellP
open Go.RowKit RefP
set_option linter.unusedVariables false
set_option linter.unusedSimpArgs false

/-- is there such a place? -/
def inB (n : Nat) (i : Int) : Bool := decide (0 ≤ i ∧ i < n)
theorem inB_yes {n : Nat} {i : Int} (h : inB n i = true) : 0 ≤ i ∧ i < n := of_decide_eq_true h
theorem inB_no {n : Nat} {i : Int} (h : inB n i = false) : ¬ (0 ≤ i ∧ i < n) := of_decide_eq_false h
theorem inB_mk {n : Nat} {i : Int} (h0 : 0 ≤ i) (h1 : i < n) : inB n i = true := decide_eq_true ⟨h0, h1⟩
theorem inB_mk_no {n : Nat} {i : Int} (h : ¬ (0 ≤ i ∧ i < n)) : inB n i = false := decide_eq_false h
def nextV (v : Int) : Int := (v + 1) % 18446744073709551616
theorem nextV_rng (v : Int) : 0 ≤ nextV v ∧ nextV v ≤ 18446744073709551615 := by unfold nextV; omega
/-- what a cell tells -/
def loadW (l : List (Int × Int)) (i : Int) : Int := if inB l.length i = true then (at2 l i.toNat).1 else 0
def loadV (l : List (Int × Int)) (i : Int) : Int := if inB l.length i = true then (at2 l i.toNat).2 else 0
theorem loadW_yes {l : List (Int × Int)} {i : Int} (h : inB l.length i = true) : loadW l i = (at2 l i.toNat).1 := if_pos h
theorem loadV_yes {l : List (Int × Int)} {i : Int} (h : inB l.length i = true) : loadV l i = (at2 l i.toNat).2 := if_pos h
theorem loadW_no {l : List (Int × Int)} {i : Int} (h : inB l.length i = false) : loadW l i = 0 := if_neg (by simp [h])
theorem loadV_no {l : List (Int × Int)} {i : Int} (h : inB l.length i = false) : loadV l i = 0 := if_neg (by simp [h])
/-- cells in which one was written -/
def writeL (l : List (Int × Int)) (i : Int) (word : Int) : List (Int × Int) := l.set i.toNat (word, nextV (at2 l i.toNat).2)
theorem writeL_length (l : List (Int × Int)) (i word : Int) : (writeL l i word).length = l.length := by simp [writeL]
def casB (l : List (Int × Int)) (i ver : Int) : Bool := inB l.length i && decide ((at2 l i.toNat).2 = ver)
def casL (l : List (Int × Int)) (i ver word : Int) : List (Int × Int) := if casB l i ver = true then writeL l i word else l
def storeL (l : List (Int × Int)) (i word : Int) : List (Int × Int) := if inB l.length i = true then writeL l i word else l
theorem casL_yes {l : List (Int × Int)} {i ver : Int} (word : Int) (h : casB l i ver = true) : casL l i ver word = writeL l i word := if_pos h
theorem casL_no {l : List (Int × Int)} {i ver : Int} (word : Int) (h : casB l i ver = false) : casL l i ver word = l := if_neg (by simp [h])
theorem storeL_yes {l : List (Int × Int)} {i : Int} (word : Int) (h : inB l.length i = true) : storeL l i word = writeL l i word := if_pos h
theorem storeL_no {l : List (Int × Int)} {i : Int} (word : Int) (h : inB l.length i = false) : storeL l i word = l := if_neg (by simp [h])
theorem casB_load {l : List (Int × Int)} {i : Int} (h : inB l.length i = true) : casB l i (at2 l i.toNat).2 = true := by simp [casB, h]

def Rng (l : List (Int × Int)) : Prop := ∀ c ∈ l, (0 ≤ c.1 ∧ c.1 ≤ 18446744073709551615) ∧ 0 ≤ c.2 ∧ c.2 ≤ 18446744073709551615
theorem at2_out (l : List (Int × Int)) (i : Nat) (h : l.length ≤ i) : at2 l i = (0, 0) := by simp [at2, List.getElem?_eq_none h]
theorem Rng.at {l : List (Int × Int)} (h : Rng l) (i : Nat) : (0 ≤ (at2 l i).1 ∧ (at2 l i).1 ≤ 18446744073709551615) ∧ 0 ≤ (at2 l i).2 ∧ (at2 l i).2 ≤ 18446744073709551615 := by
  by_cases hi : i < l.length
  · exact h _ (at2_mem l i hi)
  · rw [at2_out _ _ (by omega)]; simp
theorem Rng.set {l : List (Int × Int)} (h : Rng l) (i : Nat) (c : Int × Int) (hc : (0 ≤ c.1 ∧ c.1 ≤ 18446744073709551615) ∧ 0 ≤ c.2 ∧ c.2 ≤ 18446744073709551615) : Rng (l.set i c) := by
  intro x hx
  rcases List.mem_or_eq_of_mem_set hx with hx | rfl
  · exact h x hx
  · exact hc
theorem Rng.write {l : List (Int × Int)} (h : Rng l) (i word : Int) (h0 : 0 ≤ word) (h1 : word ≤ 18446744073709551615) : Rng (writeL l i word) := h.set _ _ ⟨⟨h0, h1⟩, nextV_rng _⟩
theorem Rng.cas {l : List (Int × Int)} (h : Rng l) (i ver word : Int) (h0 : 0 ≤ word) (h1 : word ≤ 18446744073709551615) : Rng (casL l i ver word) := by
  unfold casL; split
  · exact h.write i word h0 h1
  · exact h
theorem Rng.store {l : List (Int × Int)} (h : Rng l) (i word : Int) (h0 : 0 ≤ word) (h1 : word ≤ 18446744073709551615) : Rng (storeL l i word) := by
  unfold storeL; split
  · exact h.write i word h0 h1
  · exact h
theorem casL_length (l : List (Int × Int)) (i ver word : Int) : (casL l i ver word).length = l.length := by unfold casL; split <;> simp [writeL_length]
theorem storeL_length (l : List (Int × Int)) (i word : Int) : (storeL l i word).length = l.length := by unfold storeL; split <;> simp [writeL_length]
theorem load_rng {l : List (Int × Int)} (h : Rng l) (i : Int) : (0 ≤ loadW l i ∧ loadW l i ≤ 18446744073709551615) ∧ 0 ≤ loadV l i ∧ loadV l i ≤ 18446744073709551615 := by
  cases c : inB l.length i
  · rw [loadW_no c, loadV_no c]; simp
  · rw [loadW_yes c, loadV_yes c]; exact h.at _

theorem nextV_ne {v : Int} (h0 : 0 ≤ v) (h1 : v ≤ 18446744073709551615) : nextV v ≠ v := by unfold nextV; omega
theorem below_only {B g : Nat} {a w1 w2 : World} (h : Below B a w1) (hg : w1.grownBy w2 (some g)) (hB : B ≤ a.heap.size) (hr : B ≤ g) : Below B a w2 :=
  h.grown hg (Nat.le_trans hB h.size) (fun k e => by cases e; exact hr)
/-! in memory -/
def pairF (l : List (Int × Int)) (m : Nat) : Value := .int .u64 (if m % 2 = 0 then (at2 l (m / 2)).1 else (at2 l (m / 2)).2)
def pairsA (l : List (Int × Int)) : Array Value := Array.ofFn (n := l.length * 2) (fun j => pairF l j.val)
theorem pairsA_size (l : List (Int × Int)) : (pairsA l).size = l.length * 2 := by simp [pairsA]
theorem pairsA_get (l : List (Int × Int)) (m : Nat) (h : m < l.length * 2) : (pairsA l)[m]? = some (pairF l m) := by
  simp [pairsA, h]
theorem pairsA_0 (l : List (Int × Int)) (k : Nat) (h : k < l.length) : (pairsA l)[k * 2]? = some (.int .u64 (at2 l k).1) := by
  rw [pairsA_get l _ (by omega)]; simp [pairF]
theorem pairsA_1 (l : List (Int × Int)) (k : Nat) (h : k < l.length) : (pairsA l)[k * 2 + 1]? = some (.int .u64 (at2 l k).2) := by
  rw [pairsA_get l _ (by omega)]
  have e1 : (k * 2 + 1) % 2 = 1 := by omega
  have e2 : (k * 2 + 1) / 2 = k := by omega
  simp [pairF, e1, e2]
theorem at2_set (l : List (Int × Int)) (k i : Nat) (c : Int × Int) (h : k < l.length) : at2 (l.set k c) i = if i = k then c else at2 l i := by
  unfold at2
  rw [List.getD_eq_getElem?_getD, List.getElem?_set]
  by_cases e : k = i
  · subst e; simp [h]
  · have : ¬ i = k := fun x => e x.symm
    simp [e, this]
theorem pairsA_set (l : List (Int × Int)) (k : Nat) (a b : Int) (h : k < l.length) : ((pairsA l).setIfInBounds (k * 2) (.int .u64 a)).setIfInBounds (k * 2 + 1) (.int .u64 b) = pairsA (l.set k (a, b)) := by
  apply Array.ext_getElem?
  intro m
  rw [Array.getElem?_setIfInBounds, Array.getElem?_setIfInBounds]
  simp only [Array.size_setIfInBounds, pairsA_size]
  by_cases hm : m < l.length * 2
  · rw [pairsA_get l m hm, pairsA_get _ m (by simpa using hm)]
    unfold pairF
    rw [at2_set l k _ _ h]
    by_cases e1 : k * 2 + 1 = m
    · subst e1
      have e2 : (k * 2 + 1) % 2 = 1 := by omega
      have e3 : (k * 2 + 1) / 2 = k := by omega
      simp [e2, e3]; omega
    · by_cases e2 : k * 2 = m
      · subst e2
        simp; omega
      · have e3 : ¬ m / 2 = k := by omega
        simp [e1, e2, e3]
  · have e1 : ¬ k * 2 + 1 = m := by omega
    have e2 : ¬ k * 2 = m := by omega
    simp only [e1, e2, if_false]
    rw [Array.getElem?_eq_none (by rw [pairsA_size]; omega), Array.getElem?_eq_none (by rw [pairsA_size]; simp; omega)]
theorem pairsA_made (n : Nat) : madeCells #[.int .u64 0, .int .u64 0] (n * 2) = pairsA (List.replicate n (0, 0)) := by
  apply Array.ext_getElem?
  intro m
  by_cases hm : m < n * 2
  · rw [pairsA_get _ m (by simpa using hm)]
    have e : at2 (List.replicate n ((0 : Int), (0 : Int))) (m / 2) = (0, 0) := by simp [at2, List.getElem?_replicate]; split <;> rfl
    unfold pairF
    rw [e]
    have hh : m % 2 = 0 ∨ m % 2 = 1 := by omega
    rcases hh with hh | hh <;> simp [madeCells, hm, hh]
  · rw [Array.getElem?_eq_none (by rw [size_madeCells]; omega), Array.getElem?_eq_none (by rw [pairsA_size]; simp; omega)]

/-- a slice of such pairs -/
structure PairsS (w : World) (a : Option Addr) (l : List (Int × Int)) : Prop where
  row : Holds w a (l.length * 2) (pairF l)
  rng : Rng l
  len : l.length ≤ 65536
theorem PairsS.below {w w' : World} {a : Option Addr} {l : List (Int × Int)} (h : PairsS w a l) (hb : Below w.heap.size w w') : PairsS w' a l := ⟨h.row.below hb, h.rng, h.len⟩
theorem PairsS.cell {w : World} {a : Option Addr} {l : List (Int × Int)} (h : PairsS w a l) (k : Nat) (hk : k < l.length) :
    ∃ b off, a = some ⟨b, off, none⟩ ∧ b < w.heap.size ∧ w.cell? ⟨b, off + k * 2, none⟩ = some (.int .u64 (at2 l k).1) ∧ w.cell? ⟨b, off + k * 2 + 1, none⟩ = some (.int .u64 (at2 l k).2) := by
  obtain ⟨b, off, ha, hl, hc⟩ := h.row.get (by omega)
  refine ⟨b, off, ha, hl, ?_, ?_⟩
  · rw [hc (k * 2) (by omega)]
    simp [pairF]
  · have := hc (k * 2 + 1) (by omega)
    rw [← Nat.add_assoc] at this
    rw [this]
    have e1 : (k * 2 + 1) % 2 = 1 := by omega
    have e2 : (k * 2 + 1) / 2 = k := by omega
    simp [pairF, e1, e2]
theorem Holds.grown {w w' : World} {a : Option Addr} {m : Nat} {f : Nat → Value} {g : Nat} (h : Holds w a m f) (hg : w.grownBy w' (some g)) (hne : ∀ b off, a = some ⟨b, off, none⟩ → b ≠ g) : Holds w' a m f :=
  ⟨fun h0 => by
    obtain ⟨b, off, ha, hl, hc⟩ := h.get h0
    have hbg := hne b off ha
    refine ⟨b, off, ha, Nat.lt_of_lt_of_le hl hg.size, fun i hi => ?_⟩
    exact (World.cell?_of_block (hg.block b hl (fun e => hbg (by injection e)))).trans (hc i hi)⟩
theorem PairsS.grown {w w' : World} {a : Option Addr} {l : List (Int × Int)} {g : Nat} (h : PairsS w a l) (hg : w.grownBy w' (some g)) (hne : ∀ b off, a = some ⟨b, off, none⟩ → b ≠ g) : PairsS w' a l := ⟨Holds.grown h.row hg hne, h.rng, h.len⟩
theorem pairF_set {l : List (Int × Int)} {k : Nat} {a b : Int} (h : k < l.length) (m : Nat) : (if m = k * 2 + 1 then Value.int .u64 b else if m = k * 2 then Value.int .u64 a else pairF l m) = pairF (l.set k (a, b)) m := by
  unfold pairF
  rw [at2_set l k _ _ h]
  by_cases e1 : m = k * 2 + 1
  · subst e1
    have e2 : (k * 2 + 1) % 2 = 1 := by omega
    have e3 : (k * 2 + 1) / 2 = k := by omega
    simp [e2, e3]
  · by_cases e2 : m = k * 2
    · subst e2; simp
    · have e3 : ¬ m / 2 = k := by omega
      simp [e1, e2, e3]
theorem Holds.set {w : World} {b off m : Nat} {f : Nat → Value} (h : Holds w (some ⟨b, off, none⟩) m f) (i : Nat) (hi : i < m) (v : Value) : Holds (w.setCell ⟨b, off + i, none⟩ v) (some ⟨b, off, none⟩) m (fun j => if j = i then v else f j) :=
  ⟨fun h0 => by
    obtain ⟨b', off', ha, hl, hc⟩ := h.get h0
    simp only [Option.some.injEq, Addr.mk.injEq, and_true] at ha
    obtain ⟨rfl, rfl⟩ := ha
    refine ⟨b, off, rfl, by simpa using hl, fun j hj => ?_⟩
    by_cases e : j = i
    · subst e
      simp only [if_true]
      exact World.cell?_setCell_same _ _ _ (hc j hj)
    · simp only [e, if_false]
      rw [World.cell?_setCell_other _ _ _ _ (by intro e2; injection e2 with _ e3 _; omega)]
      exact hc j hj⟩
end Go.Proofs.Ytfnjggefinkcaaa.CellP
