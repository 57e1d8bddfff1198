/-
  How a law's arguments are opened: slices of words, structs by value, slices of structs.
-/
import Derived.Test.YtppclnnkleebkaaLift
import Derived.Test.YtppclnnkleebkaaCells
import Derived.Deep.Slices
namespace Go.Proofs.Ytppclnnkleebkaa.Open
open Go.ChangeShapes Go.WideShapes Go.ChangeAt Go.RowKit Go.Joins Go.Deep RefP
set_option linter.unusedVariables false
set_option linter.unusedSimpArgs false
section
variable {H : Type} {enc : TypeId × Value → H} {P : Program} {W : World} {base base' : Nat} {sp : Nat → Bool} {held : Bool} {t e : TypeId} {v : Value} {d : DataW H} {p : List MemPlace}

theorem add_plain (b off i : Nat) : (⟨b, off, none⟩ : Addr).add i = ⟨b, off + i, none⟩ := by
  unfold Addr.add
  by_cases h : i = 0 <;> simp [h]

/-- a struct of two numbers, by value -/
theorem agg2_of {f0 f1 : Field} {k0 k1 : IntKind}
    (ht : P.underlying t = some (.struct #[f0, f1])) (hone : oneCellFields P #[f0, f1] = true) (hC : P.cellsOf t = 2) (e0 : P.underlying f0.type = some (.int k0)) (e1 : P.underlying f1.type = some (.int k1))
    (hv : Value.okWide P W .any base t v) (h : DataW.Trod enc P W base' sp held t v d p) : ∃ a b : Int, v = .agg #[.int k0 a, .int k1 b] ∧ (Lit.int k0 a).wf = true ∧ (Lit.int k1 b).wf = true := by
  obtain ⟨c0, c1, y0, y1, m, rfl, _, _, hy0, hy1⟩ := Joins.open_agg2 ht hone hC hv h
  obtain ⟨a, ha, _, wa⟩ := DataW.trod_int e0 hy0
  obtain ⟨b, hb, _, wb⟩ := DataW.trod_int e1 hy1
  simp only [List.cons.injEq, and_true] at ha hb
  subst ha hb
  exact ⟨a, b, rfl, wa, wb⟩

/-- a slice of words -/
theorem u64s (ht : P.underlying t = some (.slice e)) (he : P.underlying e = some (.int .u64)) (hC : P.cellsOf e = 1)
    (hv : Value.okWide P W .any base t v) (h : DataW.Trod enc P W base' sp held t v d p) : ∃ (a : Option Addr) (xs : List Int) (c : Nat), v = .slice a xs.length c ∧ xs.length ≤ c ∧ U64s W a xs := by
  obtain ⟨a0, len, cap, rfl⟩ := okWide_slice ht hv
  obtain ⟨fuel, hf⟩ := h
  rcases open_ints ht he hC hf with ⟨hcs, _⟩ | ⟨x, l, c, zs, hcs, _, hl, hm, hz, _, hcell, hwz⟩
  · simp [Value.cells] at hcs
    obtain ⟨rfl, rfl, rfl⟩ := hcs
    exact ⟨none, [], 0, rfl, Nat.le_refl _, U64s.nil _ _⟩
  · simp [Value.cells] at hcs
    obtain ⟨rfl, rfl, rfl⟩ := hcs
    have hz' : len ≤ zs.length := by
      rw [hz]; split <;> omega
    have hlen : (zs.take len).length = len := by simp; omega
    have hmx : len ≤ 9223372036854775807 := by unfold maxLen at hm; omega
    refine ⟨some x, zs.take len, cap, by rw [hlen], by rw [hlen]; exact hl, ⟨⟨fun h0 => ?_⟩, fun y hy => ?_, by rw [hlen]; exact hmx⟩⟩
    · rw [hlen] at h0
      have hc0 := hcell 0 (by omega)
      obtain ⟨b, off, rfl, hc⟩ := ints_at hcell (by omega)
      refine ⟨b, off, rfl, ?_, fun i hi => ?_⟩
      · exact block_lt_of_cell (hc 0 (by omega))
      · rw [hlen] at hi
        rw [hc i (by omega)]
        have e1 : (zs.take len)[i]? = zs[i]? := by rw [List.getElem?_take, if_pos hi]
        simp [u64F, at0, e1]
    · have := bounds_u64 (hwz y (List.mem_of_mem_take hy))
      exact this

/-- a slice of structs of one-cell fields: element i, field j: its cell and its reading (the guide's page of structs, in this file's words) -/
theorem slice_fields {fs : Array Field} {fuel : Nat} {cs : List Value} {x : DataW H × List MemPlace} (ht : P.underlying t = some (.slice e)) (he : P.underlying e = some (.struct fs))
    (hone : oneCellFields P fs = true) (hC : P.cellsOf e = fs.size) (h : DataW.trod enc P W base' sp held fuel t cs = some x) :
    (cs = [.slice none 0 0]) ∨
    ∃ (a : Addr) (len cap : Nat), cs = [.slice (some a) len cap] ∧ len ≤ cap ∧ cap ≤ maxLen ∧
      ∀ i, i < len → ∀ (j : Nat) (f : Field), fs[j]? = some f → ∃ (v : Value) (y : DataW H × List MemPlace) (n : Nat), W.cell? (a.add (i * fs.size + j)) = some v ∧ DataW.trod enc P W base' sp held n f.type [v] = some y := by
  rcases open_slice ht h with h0 | ⟨a, len, cap, m, n, D, Pl, hcs, hb, hl, hm, hmm, hx, hi⟩
  · exact .inl h0.1
  · refine .inr ⟨a, len, cap, hcs, hl, hm, fun i hil j f hj => ?_⟩
    obtain ⟨cs', hc, ht'⟩ := hi i (by rw [hmm]; split <;> omega)
    rw [hC] at hc
    obtain ⟨ys, n', hn', hy, hlen, hyl, hf⟩ := DataW.trod_struct he ht'
    obtain ⟨_, hcl, hat⟩ := World.cells?_some hc
    obtain ⟨ho, hk⟩ := hone_of hone j f hj
    have hjl : j < fs.size := (Array.getElem?_eq_some_iff.1 hj).1
    have hcell := hat j hjl
    have hv : cs'[j]? = some (cs'[j]'(by omega)) := List.getElem?_eq_getElem (by omega)
    have h1 := hf j f hj
    rw [ho, hk] at h1
    have hone' : (cs'.drop j).take 1 = [cs'[j]'(by omega)] := by
      rw [List.drop_eq_getElem_cons (by omega)]
      rfl
    rw [hone'] at h1
    have hys : ys[j]? = some (ys[j]'(by omega)) := List.getElem?_eq_getElem (by omega)
    exact ⟨_, _, n', by rw [← Go.Deep.add_add, hcell, hv], h1.trans hys⟩

/-- a slice of structs whose fields are numbers -/
theorem nums_of {fs : Array Field} (K : Nat → IntKind) (ht : P.underlying t = some (.slice e)) (he : P.underlying e = some (.struct fs))
    (hone : oneCellFields P fs = true) (hC : P.cellsOf e = fs.size) (hpos : 0 < fs.size) (hK : ∀ (j : Nat) (f : Field), fs[j]? = some f → P.underlying f.type = some (.int (K j)))
    (hv : Value.okWide P W .any base t v) (h : DataW.Trod enc P W base' sp held t v d p) : ∃ (a : Option Addr) (n c : Nat) (F : Nat → Nat → Int), v = .slice a n c ∧ n ≤ c ∧ Nums W a n fs.size K F := by
  obtain ⟨a0, len, cap, rfl⟩ := okWide_slice ht hv
  obtain ⟨fuel, hf⟩ := h
  rcases slice_fields ht he hone hC hf with hcs | ⟨x, l, c, hcs, hl, hm, hi⟩
  · simp [Value.cells] at hcs
    obtain ⟨rfl, rfl, rfl⟩ := hcs
    exact ⟨none, 0, 0, fun _ _ => 0, rfl, Nat.le_refl _, Nums.nil _ _ _ _ _⟩
  · simp [Value.cells] at hcs
    obtain ⟨rfl, rfl, rfl⟩ := hcs
    have hnum : ∀ i j, i < len → j < fs.size → ∃ m : Int, W.cell? (x.add (i * fs.size + j)) = some (.int (K j) m) ∧ (Lit.int (K j) m).wf = true := by
      intro i j hi' hj
      obtain ⟨v, y, n, hc, hy⟩ := hi i hi' j fs[j] (Array.getElem?_eq_getElem hj)
      obtain ⟨m, hm', _, wm⟩ := DataW.trod_int (hK j _ (Array.getElem?_eq_getElem hj)) hy
      simp only [List.cons.injEq, and_true] at hm'
      subst hm'
      exact ⟨m, hc, wm⟩
    have hF : ∃ F : Nat → Nat → Int, ∀ i j, i < len → j < fs.size → W.cell? (x.add (i * fs.size + j)) = some (.int (K j) (F i j)) ∧ (Lit.int (K j) (F i j)).wf = true := by
      refine ⟨fun i j => if h : i < len ∧ j < fs.size then Classical.choose (hnum i j h.1 h.2) else 0, fun i j hi' hj => ?_⟩
      simp only [hi', hj, and_self, dif_pos]
      exact Classical.choose_spec (hnum i j hi' hj)
    obtain ⟨F, hF⟩ := hF
    have hmx : len ≤ 9223372036854775807 := by unfold maxLen at hm; omega
    refine ⟨some x, len, cap, F, rfl, hl, ⟨fun h0 => ?_, fun i j hi' hj => (hF i j hi' hj).2, hmx⟩⟩
    have hc0 := (hF 0 0 h0 hpos).1
    obtain ⟨b, off, spot⟩ := x
    have hspot : spot = none := by simpa [Addr.add] using World.cell?_spot hc0
    subst hspot
    refine ⟨b, off, rfl, ?_, fun i j hi' hj => ?_⟩
    · rw [add_plain] at hc0
      exact block_lt_of_cell hc0
    · have := (hF i j hi' hj).1
      rwa [add_plain] at this
end
end Go.Proofs.Ytppclnnkleebkaa.Open
