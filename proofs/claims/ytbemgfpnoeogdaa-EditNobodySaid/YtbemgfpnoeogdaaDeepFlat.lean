/-
  Elements that lie flat (no rows in them): their cells in a row, rows of records of them and back.
-/
import Derived.Test.YtbemgfpnoeogdaaApi
import Derived.Test.YtbemgfpnoeogdaaRecs
namespace Go.Proofs.Ytbemgfpnoeogdaa.Dp
open Go.RowKit RefP
set_option linter.unusedVariables false
set_option linter.unusedSimpArgs false
/-- a codec whose things lie flat -/
structure Flat {α : Type} (C : Cod α) (L : α → List Value) : Prop where
  eq : ∀ {w S cs x}, C.rep w S cs x → cs = L x
  any : ∀ {w S w' S' cs x}, C.rep w S cs x → C.rep w' S' cs x
  pos : 0 < C.k
  len : ∀ x, (L x).length = C.k
  one : ∀ x, ∀ v ∈ L x, v.oneCell' = true
theorem flat_str : Flat strC (fun s => [.string s]) := ⟨fun h => h.1, fun h => h, by decide, fun _ => rfl, fun x v hv => by simp at hv; subst hv; rfl⟩
theorem flat_u64 : Flat u64C (fun n => [.int .u64 n]) := ⟨fun h => h.1, fun h => h, by decide, fun _ => rfl, fun x v hv => by simp at hv; subst hv; rfl⟩
theorem flat_i64 : Flat i64C (fun n => [.int .i64 n]) := ⟨fun h => h.1, fun h => h, by decide, fun _ => rfl, fun x v hv => by simp at hv; subst hv; rfl⟩
theorem flat_pair : Flat pairT pairL := ⟨fun h => (pairT_of h).1, fun h => by obtain ⟨rfl, o⟩ := pairT_of h; exact pairT_mk o, by decide, fun _ => rfl, fun x v hv => by simp [pairL] at hv; rcases hv with rfl | rfl <;> rfl⟩
theorem flat_step : Flat stepT stepL := ⟨fun h => (stepT_of h).1, fun h => by obtain ⟨rfl, o⟩ := stepT_of h; exact stepT_mk o, by decide, fun _ => rfl, fun x v hv => by simp [stepL] at hv; rcases hv with rfl | rfl | rfl | rfl | rfl <;> rfl⟩
section
variable {α : Type} {C : Cod α} {L : α → List Value}
/-- a cell of a row -/
theorem Flat.cell (F : Flat C L) {w : World} {S : List Nat} {h : Hd} {xs : List α} (H : HRow C w S h xs) (i : Nat) (hi : i < xs.length) :
    ∃ b off, h.a = some ⟨b, off, none⟩ ∧ b < w.heap.size ∧ ∀ j v, (L xs[i])[j]? = some v → w.cell? ⟨b, off + i * C.k + j, none⟩ = some v := by
  obtain ⟨b, off, e, hb, _, hc⟩ := H.row (by omega)
  obtain ⟨cs, hr, hv⟩ := hc i xs[i] (List.getElem?_eq_getElem hi)
  rw [F.eq hr] at hv
  exact ⟨b, off, e, hb, hv⟩
/-- the one block of a row -/
theorem Flat.cells (F : Flat C L) {w : World} {S : List Nat} {h : Hd} {xs : List α} (H : HRow C w S h xs) (h0 : 0 < xs.length) :
    ∃ b off, h.a = some ⟨b, off, none⟩ ∧ b < w.heap.size ∧ ∀ i (hi : i < xs.length) j v, (L xs[i])[j]? = some v → w.cell? ⟨b, off + i * C.k + j, none⟩ = some v := by
  obtain ⟨b, off, e, hb, _, hc⟩ := H.row h0
  refine ⟨b, off, e, hb, fun i hi j v hj => ?_⟩
  obtain ⟨cs, hr, hv⟩ := hc i xs[i] (List.getElem?_eq_getElem hi)
  rw [F.eq hr] at hv
  exact hv j v hj
abbrev flatF (L : α → List Value) (x : α) (j : Nat) : Value := (L x).getD j undef
theorem Flat.getD (F : Flat C L) (x : α) (j : Nat) (hj : j < C.k) : (L x)[j]? = some (flatF L x j) := by
  have : j < (L x).length := by rw [F.len]; exact hj
  simp [flatF, List.getD, this]
theorem Flat.oneF (F : Flat C L) (x : α) (j : Nat) (hj : j < C.k) : (flatF L x j).oneCell' = true :=
  F.one x _ (List.mem_of_getElem? (F.getD x j hj))
/-- a row is a row of records -/
theorem Flat.recs (F : Flat C L) {w : World} {S : List Nat} {h : Hd} {xs : List α} (d : α) (H : HRow C w S h xs) : RecS C.k (flatF L) d w h.a xs := by
  by_cases h0 : 0 < xs.length
  · obtain ⟨b, off, e, hb, hc⟩ := F.cells H h0
    refine ⟨⟨fun hm => ⟨b, off, e, hb, fun m hm => ?_⟩⟩⟩
    have hi := rec_div hm
    have hj := Nat.mod_lt m F.pos
    have e1 : m = m / C.k * C.k + m % C.k := by rw [Nat.mul_comm]; exact (Nat.div_add_mod m C.k).symm
    have := hc (m / C.k) hi (m % C.k) _ (F.getD _ _ hj)
    rw [Nat.add_assoc, ← e1] at this
    rw [this]
    simp [recF, List.getD_eq_getElem?_getD, hi]
  · obtain rfl : xs = [] := List.eq_nil_of_length_eq_zero (by omega)
    exact RecS.nil _ _ _ _ _
/-- what the elements of a row are -/
theorem HRow.all {w : World} {S : List Nat} {h : Hd} {xs : List α} (H : HRow C w S h xs) : ∀ x ∈ xs, ∃ cs, C.rep w S cs x := by
  intro x hx
  obtain ⟨i, hi, rfl⟩ := List.getElem_of_mem hx
  obtain ⟨b, off, e, hb, _, hc⟩ := H.row (by omega)
  obtain ⟨cs, hr, hv⟩ := hc i xs[i] (List.getElem?_eq_getElem hi)
  exact ⟨cs, hr⟩
/-- and back -/
theorem Flat.back (F : Flat C L) {w w0 : World} {S S0 : List Nat} {d : α} {a : Option Addr} {c : Nat} {xs : List α} (R : RecS C.k (flatF L) d w a xs) (hx : ∀ x ∈ xs, ∃ cs, C.rep w0 S0 cs x) (hS : ∀ b off, a = some ⟨b, off, none⟩ → b ∉ S) (hl : xs.length ≤ c) (hc : c ≤ maxLen) : HRow C w S ⟨a, c⟩ xs := by
  refine ⟨hl, hc, fun h0 => ?_⟩
  obtain ⟨b, off, e, hb, hcell⟩ := R.row.get (by have := rec_lt h0 F.pos; omega)
  refine ⟨b, off, e, hb, hS b off e, fun i x hi => ?_⟩
  have hil : i < xs.length := (List.getElem?_eq_some_iff.1 hi).1
  have hxi : x = xs[i] := by have := (List.getElem?_eq_some_iff.1 hi).2; exact this.symm
  subst hxi
  obtain ⟨cs, hr⟩ := hx _ (List.getElem_mem hil)
  have := F.eq hr
  subst this
  refine ⟨_, F.any hr, fun j v hj => ?_⟩
  have hjk : j < C.k := by rw [← F.len xs[i]]; exact (List.getElem?_eq_some_iff.1 hj).1
  have := hcell (i * C.k + j) (rec_lt hil hjk)
  rw [recF_at _ _ _ _ _ hjk, ← Nat.add_assoc] at this
  rw [this]
  have e2 : xs.getD i d = xs[i] := by simp [List.getD_eq_getElem?_getD, hil]
  rw [e2, ← F.getD xs[i] j hjk, hj]
/-- a block that has the cells of a row -/
theorem Flat.blk (F : Flat C L) {w w0 : World} {S S0 : List Nat} {b : Nat} {xs : List α} {T : TypeId} (d : α) (B : Blk w b (recA C.k (flatF L) d xs) T) (hx : ∀ x ∈ xs, ∃ cs, C.rep w0 S0 cs x) (hS : b ∉ S) (hl : xs.length ≤ maxLen) : HRow C w S ⟨some ⟨b, 0, none⟩, xs.length⟩ xs :=
  F.back (RecS.of_blk B) hx (fun b' off e => by injection e with e; injection e with e1; subst e1; exact hS) (Nat.le_refl _) hl
theorem Flat.hany (F : Flat C L) {w w0 : World} {S S0 : List Nat} {xs : List α} (h : ∀ x ∈ xs, ∃ cs, C.rep w0 S0 cs x) : ∀ x ∈ xs, ∃ cs, C.rep w S cs x := fun x hx => by
  obtain ⟨cs, hr⟩ := h x hx
  exact ⟨cs, F.any hr⟩
end
end Go.Proofs.Ytbemgfpnoeogdaa.Dp
