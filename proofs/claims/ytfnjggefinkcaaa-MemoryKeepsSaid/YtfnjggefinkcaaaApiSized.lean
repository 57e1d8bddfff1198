/-
  The types of package api, opened, with the form's bound on how large a slice that came in is.
-/
import Derived.Test.YtfnjggefinkcaaaApiOpen
import Derived.SizedLaws
namespace Go.Proofs.Ytfnjggefinkcaaa.Dp
open Go.ChangeShapes Go.WideShapes Go.ChangeAt Go.RowKit Go.Joins Go.Deep RefP
set_option linter.unusedVariables false
set_option linter.unusedSimpArgs false
structure Oz (P : Program) (t : TypeId) {α : Type} (C : Cod α) (Sm : α → Prop) : Prop where
  out : ∀ (H : Type) (enc : TypeId × Value → H) (w : World) (base : Nat) (sp : Nat → Bool) (held : Bool) (fuel : Nat) (cs : List Value) (y : DataW H × List MemPlace), DataW.trod enc P w base sp held fuel t cs = some y → (∀ n ∈ y.1.weights P t, n ≤ reachBytes) → ∃ x, C.rep w [] cs x ∧ Sm x
structure OzAt (P : Program) (fs : List Field) (off : Nat) {α : Type} (C : Cod α) (Sm : α → Prop) : Prop where
  out : ∀ (H : Type) (enc : TypeId × Value → H) (w : World) (base : Nat) (sp : Nat → Bool) (held : Bool) (fuel : Nat) (cs : List Value), cs.length = off + C.k →
    (∀ f ∈ fs, ∃ y, DataW.trod enc P w base sp held fuel f.type ((cs.drop f.offset).take (P.cellsOf f.type)) = some y ∧ ∀ n ∈ y.1.weights P f.type, n ≤ reachBytes) → ∃ x, C.rep w [] (cs.drop off) x ∧ Sm x
theorem oz_leaf {P : Program} {t : TypeId} {α : Type} {C : Cod α} (h : Ox P t C) : Oz P t C (fun _ => True) := ⟨fun H enc w base sp held fuel cs y hy _ => by
  obtain ⟨x, hx⟩ := h.out H enc w base sp held fuel cs y hy
  exact ⟨x, hx, trivial⟩⟩
theorem oz_nil {P : Program} {off : Nat} : OzAt P [] off unitC (fun _ => True) := ⟨fun H enc w base sp held fuel cs hl h => by
  obtain ⟨x, hx⟩ := (ox_nil (P := P) (off := off)).out H enc w base sp held fuel cs hl (fun f hf => by cases hf)
  exact ⟨x, hx, trivial⟩⟩
theorem oz_cons {P : Program} {f : Field} {fs : List Field} {off : Nat} {α β : Type} {A : Cod α} {B : Cod β} {SA : α → Prop} {SB : β → Prop} (ho : f.offset = off) (hk : P.cellsOf f.type = A.k) (hA : Oz P f.type A SA) (hB : OzAt P fs (off + A.k) B SB) : OzAt P (f :: fs) off (pairC A B) (fun x => SA x.1 ∧ SB x.2) := by
  refine ⟨fun H enc w base sp held fuel cs hl h => ?_⟩
  obtain ⟨y, hy, hz⟩ := h f (by simp)
  rw [ho, hk] at hy
  obtain ⟨x, hx, sx⟩ := hA.out H enc w base sp held fuel _ y hy hz
  obtain ⟨z, hz, sz⟩ := hB.out H enc w base sp held fuel cs (by rw [hl]; show off + (A.k + B.k) = _; omega) (fun g hg => h g (by simp [hg]))
  refine ⟨(x, z), ⟨_, _, ?_, hx, hz⟩, sx, sz⟩
  rw [← List.drop_drop, List.take_append_drop]
theorem oz_struct {P : Program} {t : TypeId} {fs : Array Field} {α : Type} {C : Cod α} {Sm : α → Prop} (ht : P.underlying t = some (.struct fs)) (hk : P.cellsOf t = C.k) (h : OzAt P fs.toList 0 C Sm) : Oz P t C Sm := by
  refine ⟨fun H enc w base sp held fuel cs y hy hz => ?_⟩
  obtain ⟨xs, n, _, rfl, hl, hxs, hf⟩ := DataW.trod_struct ht hy
  obtain ⟨x, hx, sx⟩ := h.out H enc w base sp held n cs (by omega) (fun f hfm => by
    obtain ⟨i, hi, rfl⟩ := List.getElem_of_mem hfm
    have hi' : i < fs.size := by simpa using hi
    have h1 := hf i fs[i] (by simp [hi'])
    rw [List.getElem?_eq_getElem (by omega)] at h1
    refine ⟨_, by simpa using h1, fun m hm => hz m ?_⟩
    simp only [DataW.weights, ht]
    exact DataW.weights_mem_each (j := i) (t := fs[i].type) (d := (xs[i]'(by omega)).1) (by simp [hi']) (by simp [show i < xs.length by omega]) m (by simpa using hm))
  exact ⟨x, by simpa using hx, sx⟩
theorem oz_iso {P : Program} {t : TypeId} {α β : Type} {C : Cod α} {Sm : α → Prop} (f : β → α) (g : α → β) (hg : ∀ x, f (g x) = x) (h : Oz P t C Sm) : Oz P t (isoC C f) (fun x => Sm (f x)) := by
  refine ⟨fun H enc w base sp held fuel cs y hy hz => ?_⟩
  obtain ⟨x, hx, sx⟩ := h.out H enc w base sp held fuel cs y hy hz
  exact ⟨g x, by show C.rep w [] cs (f (g x)); rw [hg]; exact hx, by rw [hg]; exact sx⟩
theorem weights_all_mem {H : Type} {P : Program} {e : TypeId} : ∀ {l : List (DataW H)} {d : DataW H}, d ∈ l → ∀ n ∈ d.weights P e, n ∈ DataW.weightsAll P e l
  | d0 :: l, d, hd, n, hn => by
    simp only [DataW.weightsAll, List.mem_append]
    rcases List.mem_cons.1 hd with rfl | hd
    · exact .inl hn
    · exact .inr (weights_all_mem hd n hn)
  | [], _, hd, _, _ => by cases hd
theorem oz_row {P : Program} {t e : TypeId} {α : Type} {E : Cod α} {SE : α → Prop} (B : Nat) (ht : P.underlying t = some (.slice e)) (hk : P.cellsOf e = E.k) (hB : P.bytesOf e = B) (hpos : 0 < E.k) (h : Oz P e E SE) : Oz P t (rowC E) (fun xs => xs.length * B ≤ reachBytes ∧ ∀ x ∈ xs, SE x) := by
  refine ⟨fun H enc w base sp held fuel cs y hy hz => ?_⟩
  rcases Go.Deep.open_slice ht hy with ⟨rfl, _⟩ | ⟨a, len, cap, m, n, D, Pl, rfl, hb, hl, hm, hmm, rfl, hi⟩
  · exact ⟨[], ⟨none, 0, rfl, Nat.le_refl _, Nat.zero_le _, RowRep.nil _ _ _ _⟩, by simp, by simp⟩
  · simp only [DataW.weights, ht, hB, List.length_map, List.length_range] at hz
    have hzl : len * B ≤ reachBytes := by
      have h1 := hz _ (List.mem_cons_self ..)
      exact Nat.le_trans (Nat.mul_le_mul_right _ (Nat.le_add_right _ _)) h1
    have hE : ∀ i, i < len → ∃ x, SE x ∧ ∃ cs', E.rep w [] cs' x ∧ ∀ j v, cs'[j]? = some v → w.cell? (a.add (i * E.k + j)) = some v := by
      intro i hil
      obtain ⟨cs', hc, ht'⟩ := hi i (by rw [hmm]; split <;> omega)
      obtain ⟨x, hx, sx⟩ := h.out H enc w base sp held n cs' _ ht' (fun q hq => hz q (List.mem_cons_of_mem _ (List.mem_append_left _ (weights_all_mem (d := D i) (by simp; exact ⟨i, hil, rfl⟩) q hq))))
      rw [hk] at hc
      obtain ⟨_, hcl, hat⟩ := World.cells?_some hc
      refine ⟨x, sx, cs', hx, fun j v hj => ?_⟩
      have hj' : j < E.k := by
        rw [← hcl]
        exact (List.getElem?_eq_some_iff.1 hj).1
      rw [← Go.Deep.add_add, hat j hj', hj]
    obtain ⟨xs, hxl, hxs⟩ := list_of_get len _ hE
    refine ⟨xs, ⟨some a, cap, by rw [hxl], by rw [hxl]; exact hl, hm, fun h0 => ?_⟩, by rw [hxl]; exact hzl, fun x hx => ?_⟩
    · obtain ⟨_, cs0, hr0, hc0⟩ := hxs 0 (xs[0]'h0) (List.getElem?_eq_getElem h0)
      have hk0 := E.len hr0
      have hc00 := hc0 0 (cs0[0]'(by omega)) (List.getElem?_eq_getElem (by omega))
      obtain ⟨b, off, spot⟩ := a
      have hspot : spot = none := by simpa [Addr.add] using World.cell?_spot hc00
      subst hspot
      have hadd : ∀ i, (⟨b, off, none⟩ : Addr).add i = ⟨b, off + i, none⟩ := by
        intro i
        unfold Addr.add
        by_cases h : i = 0 <;> simp [h]
      rw [hadd] at hc00
      refine ⟨b, off, rfl, block_lt_of_cell hc00, by simp, fun i x hx => ?_⟩
      obtain ⟨_, cs', hr, hc⟩ := hxs i x hx
      refine ⟨cs', hr, fun j v hj => ?_⟩
      have := hc j v hj
      rw [hadd, ← Nat.add_assoc] at this
      exact this
    · obtain ⟨i, hi, rfl⟩ := List.getElem_of_mem hx
      exact (hxs i _ (List.getElem?_eq_getElem hi)).1
abbrev TT {α : Type} (_ : α) : Prop := True
theorem oz_i64 : Oz Try.prog 3 i64C TT := oz_leaf op_i64
theorem oz_u64 : Oz Try.prog 22 u64C TT := oz_leaf op_u64
theorem oz_str : Oz Try.prog 9 strC TT := oz_leaf op_str
theorem oz_bool : Oz Try.prog 4 boolC TT := oz_leaf op_bool
abbrev SmR {α : Type} (B : Nat) (xs : List α) : Prop := xs.length * B ≤ reachBytes ∧ ∀ x ∈ xs, TT x
theorem oz_pairs : Oz Try.prog 28 (rowC pairT) (SmR 24) := oz_row 24 Try.underlying28 (by kernel_rfl) (by kernel_rfl) (by decide) (oz_leaf op_pair)
theorem oz_steps : Oz Try.prog 31 (rowC stepT) (SmR 40) := oz_row 40 Try.underlying31 (by kernel_rfl) (by kernel_rfl) (by decide) (oz_leaf op_step)
theorem oz_words : Oz Try.prog 24 (rowC u64C) (SmR 8) := oz_row 8 Try.underlying24 (by kernel_rfl) (by kernel_rfl) (by decide) oz_u64
theorem oz_weak {P : Program} {t : TypeId} {α : Type} {C : Cod α} {Sm Sm' : α → Prop} (h : Oz P t C Sm) (k : ∀ x, Sm x → Sm' x) : Oz P t C Sm' := ⟨fun H enc w base sp held fuel cs y hy hz => by
  obtain ⟨x, hx, sx⟩ := h.out H enc w base sp held fuel cs y hy hz
  exact ⟨x, hx, k x sx⟩⟩
theorem oz_ans : Oz Try.prog 30 ansT (fun x => x.pairs.length * 24 ≤ reachBytes) := oz_weak (oz_iso _ (fun p => ⟨p.1, p.2.1, p.2.2.1, p.2.2.2.1⟩) (fun _ => rfl) (oz_struct Try.underlying30 (by kernel_rfl)
  (oz_cons rfl (by kernel_rfl) oz_i64 (oz_cons rfl (by kernel_rfl) oz_str (oz_cons rfl (by kernel_rfl) oz_u64 (oz_cons rfl (by kernel_rfl) oz_pairs oz_nil)))))) (fun x h => h.2.2.2.1.1)
theorem oz_plan : Oz Try.prog 33 planT (fun x => x.ans.pairs.length * 24 ≤ reachBytes) := oz_weak (oz_iso _ (fun p => ⟨p.1, p.2.1, p.2.2.1, p.2.2.2.1⟩) (fun _ => rfl) (oz_struct Try.underlying33 (by kernel_rfl)
  (oz_cons rfl (by kernel_rfl) oz_i64 (oz_cons rfl (by kernel_rfl) oz_ans (oz_cons rfl (by kernel_rfl) oz_steps (oz_cons rfl (by kernel_rfl) oz_words oz_nil)))))) (fun x h => h.2.1)
/-- few pairs, as the form bounds them -/
structure SmB (x : BlockV) : Prop where
  ans : x.plan.ans.pairs.length * 24 ≤ reachBytes
  pairs : x.pairs.length * 24 ≤ reachBytes
theorem oz_block : Oz Try.prog 35 blockT SmB := oz_weak (oz_iso _ (fun p => ⟨p.1, p.2.1, p.2.2.1, p.2.2.2.1⟩) (fun _ => rfl) (oz_struct Try.underlying35 (by kernel_rfl)
  (oz_cons rfl (by kernel_rfl) oz_i64 (oz_cons rfl (by kernel_rfl) (oz_leaf op_node) (oz_cons rfl (by kernel_rfl) oz_plan (oz_cons rfl (by kernel_rfl) oz_pairs oz_nil)))))) (fun x h => ⟨h.2.2.1, h.2.2.2.1.1⟩)
theorem oz_op : Oz Try.prog 37 opT (fun _ => True) := oz_leaf op_op
theorem oz_acc : Oz Try.prog 39 accT (fun x => SmB x.block) := oz_weak (oz_iso _ (fun p => ⟨p.1, p.2.1, p.2.2.1, p.2.2.2.1, p.2.2.2.2.1, p.2.2.2.2.2.1⟩) (fun _ => rfl) (oz_struct Try.underlying39 (by kernel_rfl)
  (oz_cons rfl (by kernel_rfl) oz_i64 (oz_cons rfl (by kernel_rfl) oz_i64 (oz_cons rfl (by kernel_rfl) oz_u64 (oz_cons rfl (by kernel_rfl) oz_u64 (oz_cons rfl (by kernel_rfl) oz_block (oz_cons rfl (by kernel_rfl) oz_op oz_nil)))))))) (fun x h => h.2.2.2.2.1)
theorem oz_accs : Oz Try.prog 41 (rowC accT) (fun xs => ∀ x ∈ xs, SmB x.block) := oz_weak (oz_row _ Try.underlying41 (by kernel_rfl) rfl (by decide) oz_acc) (fun x h => h.2)
theorem sized_arg {H : Type} {P : Program} {ts vs : List TypeId} {ds gs : List (DataW H)} (hz : (DataW.weightsEach P (ts ++ vs) (ds ++ gs)).all (· ≤ reachBytes) = true) {j : Nat} {t : TypeId} {d : DataW H} (ht : ts[j]? = some t) (hd : ds[j]? = some d) : ∀ n ∈ d.weights P t, n ≤ reachBytes := fun n hn => by
  have h1 := (List.getElem?_eq_some_iff.1 ht).1
  have h2 := (List.getElem?_eq_some_iff.1 hd).1
  have := List.all_eq_true.1 hz n (DataW.weights_mem_each (j := j) (t := t) (d := d) (by rw [List.getElem?_append_left h1]; exact ht) (by rw [List.getElem?_append_left h2]; exact hd) n hn)
  simpa using this
/-- an argument that is a struct, by value, or a slice -/
theorem oz_agg {P : Program} {t : TypeId} {α : Type} {C : Cod α} {Sm : α → Prop} (h : Oz P t C Sm) {H : Type} {enc : TypeId × Value → H} {W : World} {base base' : Nat} {sp : Nat → Bool} {held : Bool} {v : Value} {d : DataW H} {p : List MemPlace} {fs : Array Field} (ht : P.underlying t = some (.struct fs))
    (hv : Value.okWide P W .any base t v) (hd : DataW.Trod enc P W base' sp held t v d p) (hz : ∀ n ∈ d.weights P t, n ≤ reachBytes) : ∃ cs x, v = .agg cs ∧ C.rep W [] cs.toList x ∧ Sm x := by
  rw [Value.okWide] at hv
  rw [ht] at hv
  obtain ⟨cs, rfl, _, _⟩ := hv
  obtain ⟨fuel, hf⟩ := hd
  obtain ⟨x, hx, sx⟩ := h.out H enc W base' sp held fuel _ _ hf hz
  exact ⟨cs, x, rfl, by simpa [Value.cells] using hx, sx⟩
theorem oz_slice {P : Program} {t e : TypeId} {α : Type} {E : Cod α} {Sm : List α → Prop} (h : Oz P t (rowC E) Sm) {H : Type} {enc : TypeId × Value → H} {W : World} {base base' : Nat} {sp : Nat → Bool} {held : Bool} {v : Value} {d : DataW H} {p : List MemPlace} (ht : P.underlying t = some (.slice e))
    (hv : Value.okWide P W .any base t v) (hd : DataW.Trod enc P W base' sp held t v d p) (hz : ∀ n ∈ d.weights P t, n ≤ reachBytes) : ∃ a c xs, v = .slice a xs.length c ∧ xs.length ≤ c ∧ xs.length ≤ maxLen ∧ RowRep E W [] a xs ∧ Sm xs := by
  obtain ⟨a0, len, cap, rfl⟩ := okWide_slice ht hv
  obtain ⟨fuel, hf⟩ := hd
  obtain ⟨xs, ⟨a, c, e1, h1, h2, h3⟩, sx⟩ := h.out H enc W base' sp held fuel _ _ hf hz
  simp [Value.cells] at e1
  obtain ⟨rfl, rfl, rfl⟩ := e1
  exact ⟨a0, cap, xs, rfl, h1, Nat.le_trans h1 h2, h3, sx⟩
end Go.Proofs.Ytfnjggefinkcaaa.Dp
