/-
  Rows of cells in memory: what stands in them, and that it stays.
-/
import Derived.Test.YtbemgfpnoeogdaaAid
import Derived.OneCell
namespace Go.Proofs.Ytbemgfpnoeogdaa.RefP
open Go.RowKit
set_option linter.unusedVariables false
set_option linter.unusedSimpArgs false

theorem below_alloc2 {B : Nat} {a w : World} (h : Below B a w) (hB : B ≤ a.heap.size) (o : Obj) : Below B a (w.alloc o) := h.alloc (Nat.le_trans hB h.size) o
theorem below_push2 {B : Nat} {a b c : World} (h : Below B a b) (k : Below b.heap.size b c) (hB : B ≤ a.heap.size) : Below B a c := h.trans (k.mono (Nat.le_trans hB h.size))
/-- The m cells from address a on hold f 0, f 1, ..; nothing is said of a where m is 0. -/
structure Holds (w : World) (a : Option Addr) (m : Nat) (f : Nat → Value) : Prop where
  get : 0 < m → ∃ b off, a = some ⟨b, off, none⟩ ∧ b < w.heap.size ∧ ∀ i, i < m → w.cell? ⟨b, off + i, none⟩ = some (f i)
theorem Holds.below {w w' : World} {a : Option Addr} {m : Nat} {f : Nat → Value} (h : Holds w a m f) (hb : Below w.heap.size w w') : Holds w' a m f :=
  ⟨fun h0 => by
    obtain ⟨b, off, ha, hl, hc⟩ := h.get h0
    exact ⟨b, off, ha, Nat.lt_of_lt_of_le hl hb.size, fun i hi => (hb.cell (p := ⟨b, off + i, none⟩) hl).trans (hc i hi)⟩⟩
theorem Holds.nil (w : World) (a : Option Addr) (f : Nat → Value) : Holds w a 0 f := ⟨fun h => absurd h (by omega)⟩
theorem Holds.congr {w : World} {a : Option Addr} {m : Nat} {f g : Nat → Value} (h : Holds w a m f) (e : ∀ i, i < m → f i = g i) : Holds w a m g :=
  ⟨fun h0 => by
    obtain ⟨b, off, ha, hl, hc⟩ := h.get h0
    exact ⟨b, off, ha, hl, fun i hi => by rw [hc i hi, e i hi]⟩⟩

/-- the number at a place, 0 where there is none -/
def at0 (xs : List Int) (i : Nat) : Int := xs.getD i 0
theorem at0_of (xs : List Int) (i : Nat) (h : i < xs.length) : at0 xs i = xs[i] := by simp [at0, h]
theorem at0_mem (xs : List Int) (i : Nat) (h : i < xs.length) : at0 xs i ∈ xs := by rw [at0_of xs i h]; exact List.getElem_mem h
theorem at0_out (xs : List Int) (i : Nat) (h : xs.length ≤ i) : at0 xs i = 0 := by simp [at0, List.getElem?_eq_none h]
theorem at0_take (xs : List Int) (k i : Nat) (h : i < k) : at0 (xs.take k) i = at0 xs i := by simp [at0, List.getElem?_take, h]
theorem at0_append (xs ys : List Int) (i : Nat) (h : i < xs.length) : at0 (xs ++ ys) i = at0 xs i := by simp [at0, List.getElem?_append_left h]
theorem at0_snoc (xs : List Int) (x : Int) : at0 (xs ++ [x]) xs.length = x := by simp [at0]
theorem take_succ_at0 (xs : List Int) (k : Nat) (h : k < xs.length) : xs.take (k + 1) = xs.take k ++ [at0 xs k] := by
  rw [List.take_succ_eq_append_getElem h, at0_of xs k h]

/-- a row of words -/
def u64F (xs : List Int) (i : Nat) : Value := .int .u64 (at0 xs i)
structure U64s (w : World) (a : Option Addr) (xs : List Int) : Prop where
  row : Holds w a xs.length (u64F xs)
  rng : ∀ x ∈ xs, 0 ≤ x ∧ x ≤ 18446744073709551615
  len : xs.length ≤ 9223372036854775807
theorem U64s.below {w w' : World} {a : Option Addr} {xs : List Int} (h : U64s w a xs) (hb : Below w.heap.size w w') : U64s w' a xs := ⟨h.row.below hb, h.rng, h.len⟩
theorem U64s.nil (w : World) (a : Option Addr) : U64s w a [] := ⟨Holds.nil _ _ _, by simp, by simp⟩
theorem U64s.rngD {w : World} {a : Option Addr} {xs : List Int} (h : U64s w a xs) (i : Nat) : 0 ≤ at0 xs i ∧ at0 xs i ≤ 18446744073709551615 := by
  by_cases hi : i < xs.length
  · exact h.rng _ (at0_mem xs i hi)
  · rw [at0_out _ _ (by omega)]; omega
/-- the cell of a place -/
theorem U64s.cell {w : World} {a : Option Addr} {xs : List Int} (h : U64s w a xs) (k : Nat) (hk : k < xs.length) : ∃ b off, a = some ⟨b, off, none⟩ ∧ b < w.heap.size ∧ w.cell? ⟨b, off + k, none⟩ = some (.int .u64 (at0 xs k)) := by
  obtain ⟨b, off, ha, hl, hc⟩ := h.row.get (by omega)
  exact ⟨b, off, ha, hl, hc k hk⟩

/-! a block that is known whole, and may be written -/
structure Blk (w : World) (b : Nat) (cs : Array Value) (T : TypeId) : Prop where
  h : w.heap[b]? = some (.cells cs T (0, 0))
theorem Blk.lt {w : World} {b : Nat} {cs : Array Value} {T : TypeId} (k : Blk w b cs T) : b < w.heap.size := lt_of_block k.h
theorem Blk.cellAt {w : World} {b : Nat} {cs : Array Value} {T : TypeId} (k : Blk w b cs T) (i : Nat) : w.cell? ⟨b, i, none⟩ = cs[i]? := by simp [World.cell?, k.h]
theorem Blk.at {w : World} {b : Nat} {cs : Array Value} {T : TypeId} (k : Blk w b cs T) (i : Nat) {v : Value} (e : cs[i]? = some v) : w.cell? ⟨b, i, none⟩ = some v := (k.cellAt i).trans e
theorem Blk.free {w : World} {b : Nat} {cs : Array Value} {T : TypeId} (k : Blk w b cs T) (i : Nat) : w.frozen? ⟨b, i, none⟩ = false := by simp [World.frozen?, k.h]
theorem Blk.below {w w' : World} {b : Nat} {cs : Array Value} {T : TypeId} (k : Blk w b cs T) (hb : Below w.heap.size w w') : Blk w' b cs T := ⟨(hb.block b k.lt).trans k.h⟩
theorem Blk.alloc {w : World} {b : Nat} {cs : Array Value} {T : TypeId} (k : Blk w b cs T) (o : Obj) : Blk (w.alloc o) b cs T := ⟨(Below.heap_alloc w o b k.lt).trans k.h⟩
theorem Blk.new (w : World) (cs : Array Value) (T : TypeId) : Blk (w.alloc (.cells cs T)) w.heap.size cs T := ⟨heap_alloc_new w _⟩
theorem Blk.drew {w : World} {b : Nat} {cs : Array Value} {T : TypeId} (k : Blk w b cs T) : Blk w.drew b cs T := ⟨k.h⟩
theorem Blk.drewN {w : World} {b : Nat} {cs : Array Value} {T : TypeId} (k : Blk w b cs T) (n : Nat) : Blk (w.drewN n) b cs T := ⟨k.h⟩
theorem Blk.set {w : World} {b : Nat} {cs : Array Value} {T : TypeId} (k : Blk w b cs T) (i : Nat) (v : Value) : Blk (w.setCell ⟨b, i, none⟩ v) b (cs.setIfInBounds i v) T := by
  have hlt := k.lt
  have h' : w.heap[b] = .cells cs T (0, 0) := by simpa [Array.getElem?_eq_getElem hlt] using k.h
  refine ⟨?_⟩
  show (w.heap.modify b _)[b]? = _
  rw [Array.getElem?_eq_getElem (by simpa using hlt), Array.getElem_modify_self, h']
  rfl
theorem Blk.far {w : World} {b : Nat} {cs : Array Value} {T : TypeId} (k : Blk w b cs T) (a : Addr) (v : Value) (hne : b ≠ a.block) : Blk (w.setCell a v) b cs T := ⟨(Below.heap_setCell w a v b hne).trans k.h⟩
theorem Blk.grown {w w' : World} {b : Nat} {cs : Array Value} {T : TypeId} {row : Option Nat} (k : Blk w b cs T) (hg : w.grownBy w' row) (hne : some b ≠ row) : Blk w' b cs T := ⟨(hg.block b k.lt hne).trans k.h⟩
theorem Holds.of_owns {w : World} {base : Nat} {e : TypeId} {size : Nat} {a : Option Addr} {n c : Nat} {xs : List Value} (h : w.ownsRow base e size (.slice a n c) n xs) : Holds w a xs.length (fun i => xs.getD i undef) := by
  obtain ⟨h1, h2⟩ := h
  rcases h2 with ⟨hv, rfl⟩ | ⟨g, cap, cur, hv, hg, hh, hn, hc, hs, ht⟩
  · have : xs.length = 0 := by omega
    rw [this]; exact Holds.nil _ _ _
  · simp only [Value.slice.injEq] at hv
    obtain ⟨rfl, _, _⟩ := hv
    refine ⟨fun h0 => ⟨g, 0, rfl, lt_of_block hh, fun i hi => ?_⟩⟩
    have hi' : cur.toList[i]? = some (xs[i]) := by
      have e1 : (cur.toList.take (n * size))[i]? = some (xs[i]) := by rw [ht]; exact List.getElem?_eq_getElem hi
      rw [List.getElem?_take] at e1
      split at e1
      · exact e1
      · cases e1
    simp only [Nat.zero_add]
    simp only [World.cell?, hh]
    simpa [hi] using hi'

/-! rows of pairs of a number and a word (thread and phase) -/
def at2 (l : List (Int × Int)) (i : Nat) : Int × Int := l.getD i (0, 0)
theorem at2_of (l : List (Int × Int)) (i : Nat) (h : i < l.length) : at2 l i = l[i] := by simp [at2, h]
theorem at2_mem (l : List (Int × Int)) (i : Nat) (h : i < l.length) : at2 l i ∈ l := by rw [at2_of l i h]; exact List.getElem_mem h
theorem take_succ_at2 (l : List (Int × Int)) (k : Nat) (h : k < l.length) : l.take (k + 1) = l.take k ++ [at2 l k] := by
  rw [List.take_succ_eq_append_getElem h, at2_of l k h]
def candF (l : List (Int × Int)) (m : Nat) : Value := if m % 2 = 0 then .int .i64 (at2 l (m / 2)).1 else .int .u64 (at2 l (m / 2)).2
structure Cands (w : World) (a : Option Addr) (l : List (Int × Int)) : Prop where
  row : Holds w a (l.length * 2) (candF l)
  rng : ∀ c ∈ l, (-9223372036854775808 ≤ c.1 ∧ c.1 ≤ 9223372036854775807) ∧ 0 ≤ c.2 ∧ c.2 ≤ 18446744073709551615
  len : l.length ≤ 9223372036854775807
theorem Cands.below {w w' : World} {a : Option Addr} {l : List (Int × Int)} (h : Cands w a l) (hb : Below w.heap.size w w') : Cands w' a l := ⟨h.row.below hb, h.rng, h.len⟩
theorem Cands.cell {w : World} {a : Option Addr} {l : List (Int × Int)} (h : Cands w a l) (k : Nat) (hk : k < l.length) :
    ∃ b off, a = some ⟨b, off, none⟩ ∧ b < w.heap.size ∧ w.cell? ⟨b, off + k * 2, none⟩ = some (.int .i64 (at2 l k).1) ∧ w.cell? ⟨b, off + k * 2 + 1, none⟩ = some (.int .u64 (at2 l k).2) := by
  obtain ⟨b, off, ha, hl, hc⟩ := h.row.get (by omega)
  refine ⟨b, off, ha, hl, ?_, ?_⟩
  · rw [hc (k * 2) (by omega)]
    simp [candF]
  · have := hc (k * 2 + 1) (by omega)
    rw [← Nat.add_assoc] at this
    rw [this]
    have e1 : (k * 2 + 1) % 2 = 1 := by omega
    have e2 : (k * 2 + 1) / 2 = k := by omega
    simp [candF, e1, e2]
theorem Cands.rngD {w : World} {a : Option Addr} {l : List (Int × Int)} (h : Cands w a l) (k : Nat) (hk : k < l.length) : (-9223372036854775808 ≤ (at2 l k).1 ∧ (at2 l k).1 ≤ 9223372036854775807) ∧ 0 ≤ (at2 l k).2 ∧ (at2 l k).2 ≤ 18446744073709551615 := h.rng _ (at2_mem l k hk)

/-! n structs of k numbers: field j of the i-th is F i j, of kind K j -/
structure Nums (w : World) (a : Option Addr) (n k : Nat) (K : Nat → IntKind) (F : Nat → Nat → Int) : Prop where
  get : 0 < n → ∃ b off, a = some ⟨b, off, none⟩ ∧ b < w.heap.size ∧ ∀ i j, i < n → j < k → w.cell? ⟨b, off + (i * k + j), none⟩ = some (.int (K j) (F i j))
  wf : ∀ i j, i < n → j < k → (Lit.int (K j) (F i j)).wf = true
  len : n ≤ 9223372036854775807
theorem Nums.below {w w' : World} {a : Option Addr} {n k : Nat} {K : Nat → IntKind} {F : Nat → Nat → Int} (h : Nums w a n k K F) (hb : Below w.heap.size w w') : Nums w' a n k K F :=
  ⟨fun h0 => by
    obtain ⟨b, off, ha, hl, hc⟩ := h.get h0
    exact ⟨b, off, ha, Nat.lt_of_lt_of_le hl hb.size, fun i j hi hj => (hb.cell (p := ⟨b, off + (i * k + j), none⟩) hl).trans (hc i j hi hj)⟩, h.wf, h.len⟩
theorem Nums.nil (w : World) (a : Option Addr) (k : Nat) (K : Nat → IntKind) (F : Nat → Nat → Int) : Nums w a 0 k K F := ⟨fun h => absurd h (by omega), fun i j h => absurd h (by omega), by omega⟩
/-- the cells of the i-th -/
theorem Nums.cell {w : World} {a : Option Addr} {n k : Nat} {K : Nat → IntKind} {F : Nat → Nat → Int} (h : Nums w a n k K F) (i : Nat) (hi : i < n) :
    ∃ b off, a = some ⟨b, off, none⟩ ∧ b < w.heap.size ∧ ∀ j, j < k → w.cell? ⟨b, off + i * k + j, none⟩ = some (.int (K j) (F i j)) := by
  obtain ⟨b, off, ha, hl, hc⟩ := h.get (by omega)
  exact ⟨b, off, ha, hl, fun j hj => by rw [Nat.add_assoc]; exact hc i j hi hj⟩
end Go.Proofs.Ytbemgfpnoeogdaa.RefP
