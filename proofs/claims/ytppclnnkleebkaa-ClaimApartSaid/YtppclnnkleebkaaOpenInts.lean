/-
  A slice of plain numbers of any kind, opened.
-/
import Derived.Test.YtppclnnkleebkaaOpen
namespace Go.Proofs.Ytppclnnkleebkaa.Open
open Go.ChangeShapes Go.WideShapes Go.ChangeAt Go.RowKit Go.Joins Go.Deep RefP
set_option linter.unusedVariables false
set_option linter.unusedSimpArgs false
section
variable {H : Type} {enc : TypeId × Value → H} {P : Program} {W : World} {base base' : Nat} {sp : Nat → Bool} {held : Bool} {t e : TypeId} {v : Value} {d : DataW H} {p : List MemPlace}

/-- a row of numbers of one kind -/
structure Ints (k : IntKind) (w : World) (a : Option Addr) (xs : List Int) : Prop where
  row : Holds w a xs.length (fun i => .int k (at0 xs i))
  wf : ∀ x ∈ xs, (Lit.int k x).wf = true
  len : xs.length ≤ 9223372036854775807
theorem Ints.below {k : IntKind} {w w' : World} {a : Option Addr} {xs : List Int} (h : Ints k w a xs) (hb : Below w.heap.size w w') : Ints k w' a xs := ⟨h.row.below hb, h.wf, h.len⟩
theorem Ints.cell {k : IntKind} {w : World} {a : Option Addr} {xs : List Int} (h : Ints k w a xs) (i : Nat) (hi : i < xs.length) : ∃ b off, a = some ⟨b, off, none⟩ ∧ b < w.heap.size ∧ w.cell? ⟨b, off + i, none⟩ = some (.int k (at0 xs i)) := by
  obtain ⟨b, off, ha, hb, hc⟩ := h.row.get (by omega)
  exact ⟨b, off, ha, hb, hc i hi⟩
theorem ints {k : IntKind} (ht : P.underlying t = some (.slice e)) (he : P.underlying e = some (.int k)) (hC : P.cellsOf e = 1)
    (hv : Value.okWide P W .any base t v) (h : DataW.Trod enc P W base' sp held t v d p) : ∃ (a : Option Addr) (xs : List Int) (c : Nat), v = .slice a xs.length c ∧ xs.length ≤ c ∧ Ints k W a xs := by
  obtain ⟨a0, len, cap, rfl⟩ := okWide_slice ht hv
  obtain ⟨fuel, hf⟩ := h
  rcases open_ints ht he hC hf with ⟨hcs, _⟩ | ⟨x, l, c, zs, hcs, _, hl, hm, hz, _, hcell, hwz⟩
  · simp [Value.cells] at hcs
    obtain ⟨rfl, rfl, rfl⟩ := hcs
    exact ⟨none, [], 0, rfl, Nat.le_refl _, ⟨Holds.nil _ _ _, by simp, by simp⟩⟩
  · simp [Value.cells] at hcs
    obtain ⟨rfl, rfl, rfl⟩ := hcs
    have hz' : len ≤ zs.length := by
      rw [hz]; split <;> omega
    have hlen : (zs.take len).length = len := by simp; omega
    have hmx : len ≤ 9223372036854775807 := by unfold maxLen at hm; omega
    refine ⟨some x, zs.take len, cap, by rw [hlen], by rw [hlen]; exact hl, ⟨⟨fun h0 => ?_⟩, fun y hy => hwz y (List.mem_of_mem_take hy), by rw [hlen]; exact hmx⟩⟩
    rw [hlen] at h0
    have hc0 := hcell 0 (by omega)
    obtain ⟨b, off, rfl, hc⟩ := ints_at hcell (by omega)
    refine ⟨b, off, rfl, ?_, fun i hi => ?_⟩
    · exact block_lt_of_cell (hc 0 (by omega))
    · rw [hlen] at hi
      rw [hc i (by omega)]
      have e1 : (zs.take len)[i]? = zs[i]? := by rw [List.getElem?_take, if_pos hi]
      simp [at0, e1]
end
end Go.Proofs.Ytppclnnkleebkaa.Open
