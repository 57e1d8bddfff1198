/-
  The types of package api, opened: what a law's arguments of these types are.
-/
import Derived.Test.YtbemgfpnoeogdaaRows
import Derived.Test.YtbemgfpnoeogdaaApi
namespace Go.Proofs.Ytbemgfpnoeogdaa.Dp
open Go.RowKit RefP
set_option linter.unusedVariables false
set_option linter.unusedSimpArgs false
structure Ox (P : Program) (t : TypeId) {α : Type} (C : Cod α) : Prop where
  out : ∀ (H : Type) (enc : TypeId × Value → H) (w : World) (base : Nat) (sp : Nat → Bool) (held : Bool) (fuel : Nat) (cs : List Value) (y : DataW H × List MemPlace), DataW.trod enc P w base sp held fuel t cs = some y → ∃ x, C.rep w [] cs x
structure OxAt (P : Program) (fs : List Field) (off : Nat) {α : Type} (C : Cod α) : Prop where
  out : ∀ (H : Type) (enc : TypeId × Value → H) (w : World) (base : Nat) (sp : Nat → Bool) (held : Bool) (fuel : Nat) (cs : List Value), cs.length = off + C.k →
    (∀ f ∈ fs, ∃ y, DataW.trod enc P w base sp held fuel f.type ((cs.drop f.offset).take (P.cellsOf f.type)) = some y) → ∃ x, C.rep w [] (cs.drop off) x
theorem ox_int {P : Program} {t : TypeId} {k : IntKind} (ht : P.underlying t = some (.int k)) : Ox P t (intC k) := ⟨fun H enc w base sp held fuel cs y h => opens_int ht enc w base sp held fuel cs y h⟩
theorem ox_bool {P : Program} {t : TypeId} (ht : P.underlying t = some .bool) : Ox P t boolC := ⟨fun H enc w base sp held fuel cs y h => opens_bool ht enc w base sp held fuel cs y h⟩
theorem ox_str {P : Program} {t : TypeId} (ht : P.underlying t = some .string) : Ox P t strC := ⟨fun H enc w base sp held fuel cs y h => opens_str ht enc w base sp held fuel cs y h⟩
theorem ox_nil {P : Program} {off : Nat} : OxAt P [] off unitC := ⟨fun H enc w base sp held fuel cs hl h => opens_nil enc w base sp held fuel cs hl h⟩
theorem ox_cons {P : Program} {f : Field} {fs : List Field} {off : Nat} {α β : Type} {A : Cod α} {B : Cod β} (ho : f.offset = off) (hk : P.cellsOf f.type = A.k) (hA : Ox P f.type A) (hB : OxAt P fs (off + A.k) B) : OxAt P (f :: fs) off (pairC A B) := by
  refine ⟨fun H enc w base sp held fuel cs hl h => ?_⟩
  obtain ⟨y, hy⟩ := h f (by simp)
  rw [ho, hk] at hy
  obtain ⟨x, hx⟩ := hA.out H enc w base sp held fuel _ y hy
  obtain ⟨z, hz⟩ := hB.out H enc w base sp held fuel cs (by rw [hl]; show off + (A.k + B.k) = _; omega) (fun g hg => h g (by simp [hg]))
  refine ⟨(x, z), _, _, ?_, hx, hz⟩
  rw [← List.drop_drop, List.take_append_drop]
theorem ox_struct {P : Program} {t : TypeId} {fs : Array Field} {α : Type} {C : Cod α} (ht : P.underlying t = some (.struct fs)) (hk : P.cellsOf t = C.k) (h : OxAt P fs.toList 0 C) : Ox P t C := by
  refine ⟨fun H enc w base sp held fuel cs y hy => ?_⟩
  obtain ⟨xs, n, _, _, hl, hxs, hf⟩ := DataW.trod_struct ht hy
  obtain ⟨x, hx⟩ := h.out H enc w base sp held n cs (by omega) (fun f hfm => by
    obtain ⟨i, hi, rfl⟩ := List.getElem_of_mem hfm
    have hi' : i < fs.size := by simpa using hi
    have := hf i fs[i] (by simp [hi'])
    rw [List.getElem?_eq_getElem (by omega)] at this
    exact ⟨_, this⟩)
  exact ⟨x, by simpa using hx⟩
theorem ox_iso {P : Program} {t : TypeId} {α β : Type} {C : Cod α} (f : β → α) (g : α → β) (hg : ∀ x, f (g x) = x) (h : Ox P t C) : Ox P t (isoC C f) := by
  refine ⟨fun H enc w base sp held fuel cs y hy => ?_⟩
  obtain ⟨x, hx⟩ := h.out H enc w base sp held fuel cs y hy
  exact ⟨g x, by show C.rep w [] cs (f (g x)); rw [hg]; exact hx⟩
theorem ox_opens {P : Program} {t : TypeId} {α : Type} {C : Cod α} (h : Ox P t C) : Opens P t C := by
  intro H enc w base sp held fuel cs y hy
  exact h.out H enc w base sp held fuel cs y hy
theorem ox_row {P : Program} {t e : TypeId} {α : Type} {E : Cod α} (ht : P.underlying t = some (.slice e)) (hk : P.cellsOf e = E.k) (hpos : 0 < E.k) (h : Ox P e E) : Ox P t (rowC E) := by
  refine ⟨fun H enc w base sp held fuel cs y hy => ?_⟩
  have := @opens_row P t e α E ht hk hpos (by intro H enc w base sp held fuel cs y hy; exact h.out H enc w base sp held fuel cs y hy) H enc w base sp held fuel cs y hy
  exact this
theorem op_str : Ox Try.prog 9 strC := ox_str Try.underlying9
theorem op_u64 : Ox Try.prog 51 u64C := ox_int Try.underlying51
theorem op_i64 : Ox Try.prog 3 i64C := ox_int Try.underlying3
theorem op_bool : Ox Try.prog 4 boolC := ox_bool Try.underlying4
theorem op_strs : Ox Try.prog 22 (rowC strC) := ox_row Try.underlying22 (by kernel_rfl) (by decide) op_str
theorem op_u64s : Ox Try.prog 23 (rowC u64C) := ox_row Try.underlying23 (by kernel_rfl) (by decide) op_u64
theorem op_i64s : Ox Try.prog 24 (rowC i64C) := ox_row Try.underlying24 (by kernel_rfl) (by decide) op_i64
theorem op_node : Ox Try.prog 26 nodeT := ox_iso _ (fun p => ⟨p.1, p.2.1, p.2.2.1, p.2.2.2.1, p.2.2.2.2.1, p.2.2.2.2.2.1, p.2.2.2.2.2.2.1, p.2.2.2.2.2.2.2.1⟩) (fun _ => rfl) (ox_struct Try.underlying26 (by kernel_rfl)
  (ox_cons rfl (by kernel_rfl) op_i64 (ox_cons rfl (by kernel_rfl) op_str (ox_cons rfl (by kernel_rfl) op_str (ox_cons rfl (by kernel_rfl) op_bool (ox_cons rfl (by kernel_rfl) op_i64 (ox_cons rfl (by kernel_rfl) op_strs (ox_cons rfl (by kernel_rfl) op_u64s (ox_cons rfl (by kernel_rfl) op_i64s ox_nil)))))))))
theorem op_change : Ox Try.prog 97 changeT := ox_iso _ (fun p => ⟨p.1, p.2.1, p.2.2.1, p.2.2.2.1, p.2.2.2.2.1, p.2.2.2.2.2.1, p.2.2.2.2.2.2.1⟩) (fun _ => rfl) (ox_struct Try.underlying97 (by kernel_rfl)
  (ox_cons rfl (by kernel_rfl) op_i64 (ox_cons rfl (by kernel_rfl) op_i64 (ox_cons rfl (by kernel_rfl) op_u64 (ox_cons rfl (by kernel_rfl) op_u64 (ox_cons rfl (by kernel_rfl) op_bool (ox_cons rfl (by kernel_rfl) op_bool (ox_cons rfl (by kernel_rfl) op_node ox_nil))))))))
theorem op_changes : Ox Try.prog 33 (rowC changeT) := ox_row Try.underlying33 (by kernel_rfl) (by decide) op_change
end Go.Proofs.Ytbemgfpnoeogdaa.Dp
