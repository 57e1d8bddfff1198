/-
  Rows of elements of several cells in a block known whole: copied, read, and a part of an element written. No program in sight.
-/
import Derived.Test.YtbemgfpnoeogdaaEdD
import Derived.Test.YtbemgfpnoeogdaaCopyK
namespace Go.Proofs.Ytbemgfpnoeogdaa.EdP
open Go.RowKit RefP FoP Dp
set_option linter.unusedVariables false
set_option linter.unusedSimpArgs false
theorem setsE_size : ∀ (vs : List Value) (cs : Array Value) (o : Nat), (setsE cs o vs).size = cs.size
  | [], _, _ => rfl
  | v :: r, cs, o => by rw [setsE, setsE_size r]; simp
theorem setsE_out : ∀ (vs : List Value) (cs : Array Value) (o m : Nat), (m < o ∨ o + vs.length ≤ m) → (setsE cs o vs)[m]? = cs[m]?
  | [], _, _, _, _ => rfl
  | v :: r, cs, o, m, h => by
    rw [setsE, setsE_out r _ _ _ (by simp only [List.length_cons] at h; omega), Array.getElem?_setIfInBounds_ne (by simp only [List.length_cons] at h; omega)]
theorem setsE_in : ∀ (vs : List Value) (cs : Array Value) (o j : Nat) (v : Value), vs[j]? = some v → o + vs.length ≤ cs.size → (setsE cs o vs)[o + j]? = some v
  | [], _, _, _, _, h, _ => by simp at h
  | u :: r, cs, o, 0, v, h, hs => by
    simp at h
    subst h
    rw [setsE, setsE_out r _ _ _ (by omega), Nat.add_zero, Array.getElem?_setIfInBounds_self_of_lt (by simp only [List.length_cons] at hs; omega)]
  | u :: r, cs, o, j + 1, v, h, hs => by
    have e : o + (j + 1) = o + 1 + j := by omega
    rw [setsE, e]
    exact setsE_in r _ (o + 1) j v (by simpa using h) (by simp only [List.length_cons] at hs; simp; omega)
/-- the rows of a block -/
structure RB (k : Nat) (w : World) (g : Nat) (T : TypeId) (rows : List (List Value)) : Prop where
  blk : ∃ arr, Blk w g arr T ∧ arr.size = rows.length * k ∧ ∀ i (hi : i < rows.length) j v, rows[i][j]? = some v → arr[i * k + j]? = some v
  ok : ∀ r ∈ rows, r.length = k ∧ ∀ v ∈ r, v.oneCell' = true
section
variable {k : Nat} {w w' : World} {g : Nat} {T : TypeId} {rows : List (List Value)}
theorem RB.lt (R : RB k w g T rows) : g < w.heap.size := by
  obtain ⟨_, B, _⟩ := R.blk
  exact B.lt
theorem RB.below (R : RB k w g T rows) (hb : Below w.heap.size w w') : RB k w' g T rows := by
  obtain ⟨arr, B, h⟩ := R.blk
  exact ⟨⟨arr, B.below hb, h⟩, R.ok⟩
theorem RB.fr (R : RB k w g T rows) {S : List Nat} (F : Fr S w w') (h : g ∉ S) : RB k w' g T rows := by
  obtain ⟨arr, B, h'⟩ := R.blk
  exact ⟨⟨arr, F.blk B h, h'⟩, R.ok⟩
theorem RB.range (R : RB k w g T rows) (i : Nat) (hi : i < rows.length) : w.rangeAt g (i * k) rows[i] := fun j v hv => by
  obtain ⟨arr, B, _, h⟩ := R.blk
  exact B.at _ (h i hi j v hv)
theorem RB.there (R : RB k w g T rows) (i j n : Nat) (hi : i < rows.length) (hj : j + n ≤ k) : w.there g (i * k + j) n := by
  obtain ⟨arr, B, hs, h⟩ := R.blk
  refine there_blkE B ?_
  have : (i + 1) * k ≤ rows.length * k := Nat.mul_le_mul_right _ hi
  rw [Nat.add_mul] at this
  omega
theorem RB.hrow (R : RB k w g T rows) (c : Nat) (hc : rows.length ≤ c) (hm : c ≤ maxLen) (S : List Nat) (hS : g ∉ S) : HRow (rawC k) w S ⟨some ⟨g, 0, none⟩, c⟩ rows := by
  refine ⟨hc, hm, fun h0 => ⟨g, 0, rfl, R.lt, hS, fun i x hi => ?_⟩⟩
  have hil : i < rows.length := (List.getElem?_eq_some_iff.1 hi).1
  have hx : rows[i] = x := (List.getElem?_eq_some_iff.1 hi).2
  have ho := R.ok x (hx ▸ List.getElem_mem hil)
  refine ⟨x, ⟨rfl, ho⟩, fun j v hj => ?_⟩
  rw [Nat.zero_add]
  exact R.range i hil j v (hx ▸ hj)
theorem RB.set (R : RB k w g T rows) (i j0 : Nat) (vs r' : List Value) (hi : i < rows.length) (hj : j0 + vs.length ≤ k) (hr : r'.length = k) (h1 : ∀ v ∈ r', v.oneCell' = true)
    (hin : ∀ j, j < vs.length → r'[j0 + j]? = vs[j]?) (hout : ∀ j, (j < j0 ∨ j0 + vs.length ≤ j) → r'[j]? = rows[i][j]?) : RB k (w.setCells g (i * k + j0) vs) g T (rows.set i r') := by
  obtain ⟨arr, B, hs, h⟩ := R.blk
  have hle : (i + 1) * k ≤ rows.length * k := Nat.mul_le_mul_right _ hi
  rw [Nat.add_mul] at hle
  refine ⟨⟨setsE arr (i * k + j0) vs, blk_setsE vs _ _ _ B, by rw [setsE_size, hs, List.length_set], fun i' hi' j v hv => ?_⟩, fun r hr' => ?_⟩
  · rw [List.length_set] at hi'
    by_cases e : i = i'
    · subst e
      rw [List.getElem_set_self] at hv
      by_cases hjj : j0 ≤ j ∧ j < j0 + vs.length
      · have := hin (j - j0) (by omega)
        rw [show j0 + (j - j0) = j by omega, hv] at this
        have := setsE_in vs arr (i * k + j0) (j - j0) v this.symm (by omega)
        rw [show i * k + j0 + (j - j0) = i * k + j by omega] at this
        exact this
      · rw [setsE_out _ _ _ _ (by omega)]
        rw [hout j (by omega)] at hv
        exact h i hi j v hv
    · rw [List.getElem_set_ne e] at hv
      have hjk : j < k := by
        have := (R.ok _ (List.getElem_mem hi')).1
        have := (List.getElem?_eq_some_iff.1 hv).1
        omega
      rw [setsE_out _ _ _ _ ?_]
      · exact h i' hi' j v hv
      · have h2 : (i' + 1) * k ≤ i * k ∨ (i + 1) * k ≤ i' * k := by
          rcases Nat.lt_or_gt_of_ne e with q | q
          · exact .inr (Nat.mul_le_mul_right _ q)
          · exact .inl (Nat.mul_le_mul_right _ q)
        rw [Nat.add_mul, Nat.add_mul] at h2
        omega
  · rcases List.mem_or_eq_of_mem_set hr' with q | q
    · exact R.ok r q
    · subst q; exact ⟨hr, h1⟩
end
theorem RB.of_copy {k : Nat} {w w' : World} {S : List Nat} {g : Nat} {t : TypeId} {n : Nat} {xs : List (List Value)} (CK : CopiedK (rawC k) w w' S g t n xs) : RB k w' g t xs := by
  obtain ⟨raws, hl, B, hx⟩ := CK.row
  have hrx : ∀ i (hi : i < xs.length), raws.getD i [] = xs[i] ∧ xs[i].length = k ∧ ∀ v ∈ xs[i], v.oneCell' = true := fun i hi => hx i _ (List.getElem?_eq_getElem hi)
  refine ⟨⟨_, B, ?_, fun i hi j v hv => ?_⟩, fun r hr => ?_⟩
  · rw [recA_size, hl]; rfl
  · obtain ⟨h1, h2, h3⟩ := hrx i hi
    have hj : j < k := by rw [← h2]; exact (List.getElem?_eq_some_iff.1 hv).1
    have := recA_at (k := k) rawF [] raws i j (by omega) hj
    rw [h1, rawF_at hv h3] at this
    exact this
  · obtain ⟨i, hi, rfl⟩ := List.getElem_of_mem hr
    exact (hrx i hi).2
end Go.Proofs.Ytbemgfpnoeogdaa.EdP
