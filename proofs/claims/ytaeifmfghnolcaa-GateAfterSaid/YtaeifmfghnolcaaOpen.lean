/-
  How a law's arguments are opened: slices of words, structs by value, slices of structs.
-/
import Derived.Test.YtaeifmfghnolcaaLift
import Derived.Test.YtaeifmfghnolcaaCells
import Derived.Deep.Slices
namespace Go.Proofs.Ytaeifmfghnolcaa.Open
open Go.ChangeShapes Go.WideShapes Go.ChangeAt Go.RowKit Go.Joins Go.Deep RefP
set_option linter.unusedVariables false
set_option linter.unusedSimpArgs false
section
variable {H : Type} {enc : TypeId × Value → H} {P : Program} {W : World} {base base' : Nat} {sp : Nat → Bool} {held : Bool} {t e : TypeId} {v : Value} {d : DataW H} {p : List MemPlace}

/-- a struct of two numbers, by value -/
theorem agg2_of {f0 f1 : Field} {k0 k1 : IntKind}
    (ht : P.underlying t = some (.struct #[f0, f1])) (hone : oneCellFields P #[f0, f1] = true) (hC : P.cellsOf t = 2) (e0 : P.underlying f0.type = some (.int k0)) (e1 : P.underlying f1.type = some (.int k1))
    (hv : Value.okWide P W .any base t v) (h : DataW.Trod enc P W base' sp held t v d p) : ∃ a b : Int, v = .agg #[.int k0 a, .int k1 b] ∧ (Lit.int k0 a).wf = true ∧ (Lit.int k1 b).wf = true := by
  obtain ⟨c0, c1, y0, y1, m, rfl, _, _, hy0, hy1⟩ := Joins.open_agg2 ht hone hC hv h
  obtain ⟨a, ha, _, wa⟩ := DataW.trod_int e0 hy0
  obtain ⟨b, hb, _, wb⟩ := DataW.trod_int e1 hy1
  simp only [List.cons.injEq, and_true] at ha hb
  subst ha hb
  exact ⟨a, b, rfl, wa, wb⟩

/-- a slice of words -/
theorem u64s (ht : P.underlying t = some (.slice e)) (he : P.underlying e = some (.int .u64)) (hC : P.cellsOf e = 1)
    (hv : Value.okWide P W .any base t v) (h : DataW.Trod enc P W base' sp held t v d p) : ∃ (a : Option Addr) (xs : List Int) (c : Nat), v = .slice a xs.length c ∧ xs.length ≤ c ∧ U64s W a xs := by
  obtain ⟨a0, len, cap, rfl⟩ := okWide_slice ht hv
  obtain ⟨fuel, hf⟩ := h
  rcases open_ints ht he hC hf with ⟨hcs, _⟩ | ⟨x, l, c, zs, hcs, _, hl, hm, hz, _, hcell, hwz⟩
  · simp [Value.cells] at hcs
    obtain ⟨rfl, rfl, rfl⟩ := hcs
    exact ⟨none, [], 0, rfl, Nat.le_refl _, U64s.nil _ _⟩
  · simp [Value.cells] at hcs
    obtain ⟨rfl, rfl, rfl⟩ := hcs
    have hz' : len ≤ zs.length := by
      rw [hz]; split <;> omega
    have hlen : (zs.take len).length = len := by simp; omega
    have hmx : len ≤ 9223372036854775807 := by unfold maxLen at hm; omega
    refine ⟨some x, zs.take len, cap, by rw [hlen], by rw [hlen]; exact hl, ⟨⟨fun h0 => ?_⟩, fun y hy => ?_, by rw [hlen]; exact hmx⟩⟩
    · rw [hlen] at h0
      have hc0 := hcell 0 (by omega)
      obtain ⟨b, off, rfl, hc⟩ := ints_at hcell (by omega)
      refine ⟨b, off, rfl, ?_, fun i hi => ?_⟩
      · exact block_lt_of_cell (hc 0 (by omega))
      · rw [hlen] at hi
        rw [hc i (by omega)]
        have e1 : (zs.take len)[i]? = zs[i]? := by rw [List.getElem?_take, if_pos hi]
        simp [u64F, at0, e1]
    · have := bounds_u64 (hwz y (List.mem_of_mem_take hy))
      exact this
end
end Go.Proofs.Ytaeifmfghnolcaa.Open
