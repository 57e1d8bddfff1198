/-
  A slice of acts of chapter 27: a kind, a word, a row of words.
-/
import Derived.Test.YtaeifmfghnolcaaOpen
namespace Go.Proofs.Ytaeifmfghnolcaa.Open
open Go.ChangeShapes Go.WideShapes Go.ChangeAt Go.RowKit Go.Joins Go.Deep RefP
set_option linter.unusedVariables false
set_option linter.unusedSimpArgs false

structure ActE where
  kind : Int
  word : Int
  row : Option Addr
  cap : Nat
  xs : List Int
structure Acts (w : World) (a : Option Addr) (n : Nat) (F : Nat → ActE) : Prop where
  get : 0 < n → ∃ b off, a = some ⟨b, off, none⟩ ∧ b < w.heap.size ∧ ∀ i, i < n → w.cell? ⟨b, off + i * 3, none⟩ = some (.int .i64 (F i).kind) ∧ w.cell? ⟨b, off + i * 3 + 1, none⟩ = some (.int .u64 (F i).word) ∧ w.cell? ⟨b, off + i * 3 + 2, none⟩ = some (.slice (F i).row (F i).xs.length (F i).cap)
  rng : ∀ i, i < n → (-9223372036854775808 ≤ (F i).kind ∧ (F i).kind ≤ 9223372036854775807) ∧ 0 ≤ (F i).word ∧ (F i).word ≤ 18446744073709551615
  rows : ∀ i, i < n → U64s w (F i).row (F i).xs
  len : n ≤ 9223372036854775807
theorem Acts.below {w w' : World} {a : Option Addr} {n : Nat} {F : Nat → ActE} (h : Acts w a n F) (hb : Below w.heap.size w w') : Acts w' a n F :=
  ⟨fun h0 => by
    obtain ⟨b, off, ha, hl, hc⟩ := h.get h0
    refine ⟨b, off, ha, Nat.lt_of_lt_of_le hl hb.size, fun i hi => ?_⟩
    obtain ⟨c0, c1, c2⟩ := hc i hi
    exact ⟨(hb.cell (p := ⟨b, off + i * 3, none⟩) hl).trans c0, (hb.cell (p := ⟨b, off + i * 3 + 1, none⟩) hl).trans c1, (hb.cell (p := ⟨b, off + i * 3 + 2, none⟩) hl).trans c2⟩,
   h.rng, fun i hi => (h.rows i hi).below hb, h.len⟩
section
variable {H : Type} {enc : TypeId × Value → H} {P : Program} {W : World} {base base' : Nat} {sp : Nat → Bool} {held : Bool} {t e : TypeId} {v : Value} {d : DataW H} {p : List MemPlace}
/-- a row of words that lies in a cell -/
theorem u64s_cell {n : Nat} {y : DataW H × List MemPlace} (ht : P.underlying t = some (.slice e)) (he : P.underlying e = some (.int .u64)) (hC : P.cellsOf e = 1)
    (hf : DataW.trod enc P W base' sp held n t [v] = some y) : ∃ (a : Option Addr) (xs : List Int) (c : Nat), v = .slice a xs.length c ∧ U64s W a xs := by
  rcases open_ints ht he hC hf with ⟨hcs, _⟩ | ⟨x, l, c, zs, hcs, _, hl, hm, hz, _, hcell, hwz⟩
  · simp only [List.cons.injEq, and_true] at hcs
    subst hcs
    exact ⟨none, [], 0, rfl, U64s.nil _ _⟩
  · simp only [List.cons.injEq, and_true] at hcs
    subst hcs
    have hz' : l ≤ zs.length := by
      rw [hz]; split <;> omega
    have hlen : (zs.take l).length = l := by simp; omega
    have hmx : l ≤ 9223372036854775807 := by unfold maxLen at hm; omega
    refine ⟨some x, zs.take l, c, by rw [hlen], ⟨⟨fun h0 => ?_⟩, fun y hy => ?_, by rw [hlen]; exact hmx⟩⟩
    · rw [hlen] at h0
      obtain ⟨b, off, rfl, hc⟩ := ints_at hcell (by omega)
      refine ⟨b, off, rfl, block_lt_of_cell (hc 0 (by omega)), fun i hi => ?_⟩
      rw [hlen] at hi
      rw [hc i (by omega)]
      have e1 : (zs.take l)[i]? = zs[i]? := by rw [List.getElem?_take, if_pos hi]
      simp [u64F, at0, e1]
    · exact bounds_u64 (hwz y (List.mem_of_mem_take hy))
theorem acts {f0 f1 f2 : Field} {e2 : TypeId} (ht : P.underlying t = some (.slice e)) (he : P.underlying e = some (.struct #[f0, f1, f2]))
    (hone : oneCellFields P #[f0, f1, f2] = true) (hC : P.cellsOf e = 3) (k0 : P.underlying f0.type = some (.int .i64)) (k1 : P.underlying f1.type = some (.int .u64)) (k2 : P.underlying f2.type = some (.slice e2)) (k3 : P.underlying e2 = some (.int .u64)) (k4 : P.cellsOf e2 = 1)
    (hv : Value.okWide P W .any base t v) (h : DataW.Trod enc P W base' sp held t v d p) : ∃ (a : Option Addr) (n c : Nat) (F : Nat → ActE), v = .slice a n c ∧ n ≤ c ∧ Acts W a n F := by
  obtain ⟨a0, len, cap, rfl⟩ := okWide_slice ht hv
  obtain ⟨fuel, hf⟩ := h
  rcases slice_fields ht he hone hC hf with hcs | ⟨x, l, c, hcs, hl, hm, hi⟩
  · simp [Value.cells] at hcs
    obtain ⟨rfl, rfl, rfl⟩ := hcs
    exact ⟨none, 0, 0, fun _ => ⟨0, 0, none, 0, []⟩, rfl, Nat.le_refl _, ⟨fun h => absurd h (by omega), fun i h => absurd h (by omega), fun i h => absurd h (by omega), by omega⟩⟩
  · simp [Value.cells] at hcs
    obtain ⟨rfl, rfl, rfl⟩ := hcs
    have hE : ∀ i, i < len → ∃ E : ActE, W.cell? (x.add (i * 3 + 0)) = some (.int .i64 E.kind) ∧ W.cell? (x.add (i * 3 + 1)) = some (.int .u64 E.word) ∧ W.cell? (x.add (i * 3 + 2)) = some (.slice E.row E.xs.length E.cap) ∧
        ((-9223372036854775808 ≤ E.kind ∧ E.kind ≤ 9223372036854775807) ∧ 0 ≤ E.word ∧ E.word ≤ 18446744073709551615) ∧ U64s W E.row E.xs := by
      intro i hi'
      obtain ⟨v0, y0, n0, c0, t0⟩ := hi i hi' 0 f0 rfl
      obtain ⟨v1, y1, n1, c1, t1⟩ := hi i hi' 1 f1 rfl
      obtain ⟨v2, y2, n2, c2, t2⟩ := hi i hi' 2 f2 rfl
      obtain ⟨m0, e0, _, w0⟩ := DataW.trod_int k0 t0
      obtain ⟨m1, e1, _, w1⟩ := DataW.trod_int k1 t1
      obtain ⟨ar, xs, cr, e2', hU⟩ := u64s_cell k2 k3 k4 t2
      simp only [List.cons.injEq, and_true] at e0 e1
      subst e0 e1 e2'
      exact ⟨⟨m0, m1, ar, cr, xs⟩, c0, c1, c2, ⟨Lift.i64_range w0, Lift.u64_range w1⟩, hU⟩
    have hF : ∃ F : Nat → ActE, ∀ i, i < len → W.cell? (x.add (i * 3 + 0)) = some (.int .i64 (F i).kind) ∧ W.cell? (x.add (i * 3 + 1)) = some (.int .u64 (F i).word) ∧ W.cell? (x.add (i * 3 + 2)) = some (.slice (F i).row (F i).xs.length (F i).cap) ∧
        ((-9223372036854775808 ≤ (F i).kind ∧ (F i).kind ≤ 9223372036854775807) ∧ 0 ≤ (F i).word ∧ (F i).word ≤ 18446744073709551615) ∧ U64s W (F i).row (F i).xs := by
      refine ⟨fun i => if h : i < len then Classical.choose (hE i h) else ⟨0, 0, none, 0, []⟩, fun i hi' => ?_⟩
      simp only [hi', dif_pos]
      exact Classical.choose_spec (hE i hi')
    obtain ⟨F, hF⟩ := hF
    have hmx : len ≤ 9223372036854775807 := by unfold maxLen at hm; omega
    refine ⟨some x, len, cap, F, rfl, hl, ⟨fun h0 => ?_, fun i h' => (hF i h').2.2.2.1, fun i h' => (hF i h').2.2.2.2, hmx⟩⟩
    have hc0 := (hF 0 h0).1
    obtain ⟨b, off, spot⟩ := x
    have hspot : spot = none := by simpa [Addr.add] using World.cell?_spot hc0
    subst hspot
    refine ⟨b, off, rfl, ?_, fun i hi' => ?_⟩
    · rw [add_plain] at hc0
      exact block_lt_of_cell hc0
    · obtain ⟨q0, q1, q2, _⟩ := hF i hi'
      rw [add_plain] at q0 q1 q2
      refine ⟨by simpa using q0, by rw [Nat.add_assoc]; exact q1, by rw [Nat.add_assoc]; exact q2⟩
end
end Go.Proofs.Ytaeifmfghnolcaa.Open
