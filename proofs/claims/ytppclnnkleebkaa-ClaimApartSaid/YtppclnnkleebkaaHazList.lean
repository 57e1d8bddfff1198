/-
  Chapter 27: the list.
-/
import Derived.Test.YtppclnnkleebkaaHazSift
import Derived.Laws.OwnMore
import Derived.WalkSpells
import Derived.Laws.MakeOwn
import Derived.Deep.RegionLaw
namespace Go.Proofs.Ytppclnnkleebkaa.HazP
open Go.RowKit RefP
set_option linter.unusedVariables false
set_option linter.unusedSimpArgs false

theorem run_append_zero {P : Program} {w : World} {base : Nat} (t ty e : TypeId) (i : TypeInfo) (size : Nat) (ht : P.underlying t = some (.slice e)) (hi : P.info? e = some i)
    (v : Value) (n : Nat) (xs : List Value) (hown : w.ownsRow base e size v n xs) (p : Option Addr) (c' : Nat) :
    (Builtin.append_ #[t, t] ty #[v, .slice p 0 c']).run P w = .ok v w := by
  rcases hown.2 with ⟨rfl, rfl⟩ | ⟨g, cap, cur, rfl, _, _, hnc, _⟩
  · cases p <;> simp [Builtin.append_, run_underlying ht, sizeOf, typeInfo, hi, Builtin.lenOf, Builtin.firstCells, loadCells, loadCellsFrom, Result.andThen]
  · cases p <;> simp [Builtin.append_, run_underlying ht, sizeOf, typeInfo, hi, Builtin.lenOf, Builtin.firstCells, hnc, storeCells, loadCells, loadCellsFrom, Result.andThen]
theorem OwnsU.empty (w : World) (base : Nat) (hb : base ≤ w.heap.size) : OwnsU (w.alloc (.cells #[] 27)) base (some ⟨w.heap.size, 0, none⟩) 0 [] := ⟨Owns.empty _ _ _ _ _ hb, by simp⟩

set_option maxRecDepth 100000 in
set_option maxHeartbeats 800000 in
theorem sclone_any (a : Option Addr) (c : Nat) (l : List Int) (w : World) (h : U64s w a l) (hsm : l.length ≤ 60000) :
    Calls Try.prog 38 #[.slice a l.length c] w (WordsAt w l) := by
  cases ha : a with
  | none =>
    subst ha
    have h0 : l.length = 0 := by
      rcases Nat.eq_zero_or_pos l.length with h0 | h0
      · exact h0
      · obtain ⟨b, off, e, _⟩ := h.row.get h0; cases e
    obtain rfl : l = [] := List.eq_nil_of_length_eq_zero h0
    have hnil : ∀ w, (binOp .eql 33 (.slice none 0 c) (.slice none 0 0)).run Try.prog w = .ok (.bool true) w := fun w => Lib.run_eql_slice_nil w _ _ none 0 c 0 0 Try.underlying33
    go_enter Try.func38, Try.ntmps38
    go_wp2_with fail
    go_ret
    exact ⟨none, 0, rfl, OwnsU.nil _ _, Below.refl _ _⟩
  | some p =>
    subst ha
    have E := OwnsU.empty w w.heap.size (Nat.le_refl _)
    have hB : Below w.heap.size w (w.alloc (.cells #[] 27)) := (Below.refl _ w).alloc (Nat.le_refl _) _
    obtain ⟨i0, hi, hz0, hz1, hz2⟩ := info_parts' infoWord
    by_cases h0 : l.length = 0
    · obtain rfl : l = [] := List.eq_nil_of_length_eq_zero h0
      have hrun := fun ty => run_append_zero (P := Try.prog) 33 ty 27 i0 1 Try.underlying33 hi _ _ _ E.own (some p) c
      have hrun := Lib.hid hrun
      have hnil : ∀ w, (binOp .eql 33 (.slice (some p) 0 c) (.slice none 0 0)).run Try.prog w = .ok (.bool false) w := fun w => Lib.run_eql_slice_nil w _ _ (some p) 0 c 0 0 Try.underlying33
      go_enter Try.func38, Try.ntmps38
      go_wp2_with (at_builtin; refine wpList_append_run hrun.out rfl (by rfl) (by rfl) (by rfl) ?_)
      go_ret
      exact ⟨_, 0, rfl, E, hB⟩
    · obtain ⟨g, cap, w', A⟩ := addAll (w := w.alloc (.cells #[] 27)) w.heap.size E (c' := c) (h.below hB) (by omega) (by simpa using (by omega : l.length ≤ 65536)) (by simp)
      have hrun := Lib.hid A.run
      have AO := A.own
      have AB := A.keeps (fun k e => (E.lt k e).1) w w.heap.size (Nat.le_refl _) hB (by simp)
      simp only [List.nil_append] at AO
      clear A E
      simp only [List.length_nil, Nat.zero_add] at hrun
      have hnil : ∀ w, (binOp .eql 33 (.slice (some p) l.length c) (.slice none 0 0)).run Try.prog w = .ok (.bool false) w := fun w => Lib.run_eql_slice_nil w _ _ (some p) l.length c 0 0 Try.underlying33
      go_enter Try.func38, Try.ntmps38
      go_wp2_with (at_builtin; refine wpList_append_run hrun.out rfl (by rfl) (by rfl) (by rfl) ?_)
      go_ret
      exact ⟨_, cap, rfl, AO, AB⟩

end Go.Proofs.Ytppclnnkleebkaa.HazP
