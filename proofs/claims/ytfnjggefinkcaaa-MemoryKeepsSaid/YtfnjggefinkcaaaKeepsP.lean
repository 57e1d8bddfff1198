/-
  Rows that a caller copies by append, and writes: what it has then.
-/
import Derived.Test.YtfnjggefinkcaaaDeepClone2
namespace Go.Proofs.Ytfnjggefinkcaaa.Dp
open Go.RowKit RefP MemP
set_option linter.unusedVariables false
set_option linter.unusedSimpArgs false
/-- a row that was copied by append behind an empty one -/
structure AppRow {α : Type} (P : Program) (C : Cod α) (L : α → List Value) (T E : TypeId) (w : World) (h : Hd) (xs : List α) (g cap : Nat) (w' : World) : Prop where
  run : Hid (∀ ty, (Builtin.append_ #[T, T] ty #[.slice (some ⟨w.heap.size, 0, none⟩) 0 0, .slice h.a xs.length h.c]).run P (w.alloc (.cells #[] E)) = .ok (.slice (some ⟨g, 0, none⟩) xs.length cap) w')
  below : Below w.heap.size w w'
  ge : w.heap.size ≤ g
  blk : ∃ cur, Blk w' g cur E ∧ ∀ i (hi : i < xs.length) j v, (L xs[i])[j]? = some v → cur[i * C.k + j]? = some v
  row : HRow C w' (List.range w.heap.size) ⟨some ⟨g, 0, none⟩, cap⟩ xs
theorem app_strs {w : World} {S : List Nat} {h : Hd} {xs : List (ByteArray)} (H : HRow strC w S h xs) (hl : xs.length ≤ 1000) : ∃ g cap w', AppRow Try.prog strC (fun s => [.string s]) 23 9 w h xs g cap w' := by
  have hm : (maxLen : Nat) = 9223372036854775807 := by unfold maxLen; rfl
  have hb1 : Below w.heap.size w (w.alloc (.cells #[] 9)) := (Below.refl _ w).alloc (Nat.le_refl _) _
  have O := OwnR.empty 1 (flatF (fun s => [.string s])) ⟨#[]⟩ w w.heap.size 9 (Nat.le_refl _)
  have R := (flat_str).recs ⟨#[]⟩ (H.keep (Keeps.of_below hb1))
  obtain ⟨i0, hi, hz0, hz1, hz2⟩ := info_parts' infoS
  have A : ∃ g cap w', AddedR Try.prog 1 (flatF (fun s => [.string s])) ⟨#[]⟩ (w.alloc (.cells #[] 9)) w.heap.size 23 9 (some ⟨w.heap.size, 0, none⟩) 0 [] (.slice h.a xs.length h.c) xs.length xs g cap w' := by
    by_cases hx : 0 < xs.length
    · exact addRecs (c' := h.c) w.heap.size 23 9 i0 _ 16 Try.underlying23 hi hz0 hz1 hz2 (by simp [Value.cells]) (by decide) (flat_str).oneF O R hx (by simp; omega) (by simp; omega) (by simp)
    · obtain rfl : xs = [] := List.eq_nil_of_length_eq_zero (by omega)
      exact ⟨_, _, _, addRecs_zero w.heap.size w.heap.size 23 9 i0 Try.underlying23 hi O h.a h.c⟩
  obtain ⟨g, cap, wa, A⟩ := A
  have hrun := fun ty => A.run ty
  simp only [List.length_nil, Nat.zero_add] at hrun
  have hb2 : Below w.heap.size w wa := A.keeps (fun k e => (O.lt k e).1) w w.heap.size (Nat.le_refl _) hb1 (by simp)
  have hcap : xs.length ≤ cap ∧ cap ≤ maxLen ∧ ∃ cur, Blk wa g cur 9 ∧ cur.toList.take (xs.length * 1) = rowL (xs.length * 1) (recF 1 (flatF (fun s => [.string s])) ⟨#[]⟩ xs) := by
    rcases A.own.own.2 with ⟨q, _⟩ | ⟨g', cap', cur, q, _, hh, h1, h2, _, h4⟩
    · cases q
    · injection q with q1 _ q3
      subst q3
      injection q1 with q1
      injection q1 with q1
      subst q1
      exact ⟨h1, h2, cur, ⟨hh⟩, h4⟩
  obtain ⟨hc1, hc2, cur, BG, hcur⟩ := hcap
  refine ⟨g, cap, wa, Lib.hid hrun, hb2, A.ge, ⟨cur, BG, fun i hi j v hj => ?_⟩, (flat_str).back A.own.read H.all (fun b off e => ?_) hc1 hc2⟩
  · have hjk : j < 1 := by
      have := (flat_str).len xs[i]
      have h3 := (List.getElem?_eq_some_iff.1 hj).1
      rw [this] at h3; exact h3
    have hlt := rec_lt hi hjk
    have e1 : (cur.toList.take (xs.length * 1))[i * 1 + j]? = (rowL (xs.length * 1) (recF 1 (flatF (fun s => [.string s])) ⟨#[]⟩ xs))[i * 1 + j]? := by rw [hcur]
    rw [List.getElem?_take_of_lt hlt, rowL_at _ _ _ hlt, recF_at _ _ _ _ _ hjk] at e1
    have e2 : xs.getD i ⟨#[]⟩ = xs[i] := by simp [List.getD_eq_getElem?_getD, hi]
    rw [e2] at e1
    show cur[i * 1 + j]? = some v
    rw [← Array.getElem?_toList, e1, ← (flat_str).getD xs[i] j hjk, hj]
  · injection e with e
    injection e with e1
    subst e1
    have := A.ge
    simp
    omega
theorem app_pairs {w : World} {S : List Nat} {h : Hd} {xs : List (PairV)} (H : HRow pairT w S h xs) (hl : xs.length ≤ 1000) : ∃ g cap w', AppRow Try.prog pairT pairL 28 64 w h xs g cap w' := by
  have hm : (maxLen : Nat) = 9223372036854775807 := by unfold maxLen; rfl
  have hb1 : Below w.heap.size w (w.alloc (.cells #[] 64)) := (Below.refl _ w).alloc (Nat.le_refl _) _
  have O := OwnR.empty 2 (flatF pairL) ⟨⟨#[]⟩, 0⟩ w w.heap.size 64 (Nat.le_refl _)
  have R := (flat_pair).recs ⟨⟨#[]⟩, 0⟩ (H.keep (Keeps.of_below hb1))
  obtain ⟨i0, hi, hz0, hz1, hz2⟩ := info_parts' infoPair
  have A : ∃ g cap w', AddedR Try.prog 2 (flatF pairL) ⟨⟨#[]⟩, 0⟩ (w.alloc (.cells #[] 64)) w.heap.size 28 64 (some ⟨w.heap.size, 0, none⟩) 0 [] (.slice h.a xs.length h.c) xs.length xs g cap w' := by
    by_cases hx : 0 < xs.length
    · exact addRecs (c' := h.c) w.heap.size 28 64 i0 _ 24 Try.underlying28 hi hz0 hz1 hz2 (by simp [Value.cells]) (by decide) (flat_pair).oneF O R hx (by simp; omega) (by simp; omega) (by simp)
    · obtain rfl : xs = [] := List.eq_nil_of_length_eq_zero (by omega)
      exact ⟨_, _, _, addRecs_zero w.heap.size w.heap.size 28 64 i0 Try.underlying28 hi O h.a h.c⟩
  obtain ⟨g, cap, wa, A⟩ := A
  have hrun := fun ty => A.run ty
  simp only [List.length_nil, Nat.zero_add] at hrun
  have hb2 : Below w.heap.size w wa := A.keeps (fun k e => (O.lt k e).1) w w.heap.size (Nat.le_refl _) hb1 (by simp)
  have hcap : xs.length ≤ cap ∧ cap ≤ maxLen ∧ ∃ cur, Blk wa g cur 64 ∧ cur.toList.take (xs.length * 2) = rowL (xs.length * 2) (recF 2 (flatF pairL) ⟨⟨#[]⟩, 0⟩ xs) := by
    rcases A.own.own.2 with ⟨q, _⟩ | ⟨g', cap', cur, q, _, hh, h1, h2, _, h4⟩
    · cases q
    · injection q with q1 _ q3
      subst q3
      injection q1 with q1
      injection q1 with q1
      subst q1
      exact ⟨h1, h2, cur, ⟨hh⟩, h4⟩
  obtain ⟨hc1, hc2, cur, BG, hcur⟩ := hcap
  refine ⟨g, cap, wa, Lib.hid hrun, hb2, A.ge, ⟨cur, BG, fun i hi j v hj => ?_⟩, (flat_pair).back A.own.read H.all (fun b off e => ?_) hc1 hc2⟩
  · have hjk : j < 2 := by
      have := (flat_pair).len xs[i]
      have h3 := (List.getElem?_eq_some_iff.1 hj).1
      rw [this] at h3; exact h3
    have hlt := rec_lt hi hjk
    have e1 : (cur.toList.take (xs.length * 2))[i * 2 + j]? = (rowL (xs.length * 2) (recF 2 (flatF pairL) ⟨⟨#[]⟩, 0⟩ xs))[i * 2 + j]? := by rw [hcur]
    rw [List.getElem?_take_of_lt hlt, rowL_at _ _ _ hlt, recF_at _ _ _ _ _ hjk] at e1
    have e2 : xs.getD i ⟨⟨#[]⟩, 0⟩ = xs[i] := by simp [List.getD_eq_getElem?_getD, hi]
    rw [e2] at e1
    show cur[i * 2 + j]? = some v
    rw [← Array.getElem?_toList, e1, ← (flat_pair).getD xs[i] j hjk, hj]
  · injection e with e
    injection e with e1
    subst e1
    have := A.ge
    simp
    omega
end Go.Proofs.Ytfnjggefinkcaaa.Dp
