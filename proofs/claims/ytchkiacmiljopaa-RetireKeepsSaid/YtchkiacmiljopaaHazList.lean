/-
  Chapter 27: the list.
-/
import Derived.Test.YtchkiacmiljopaaHazSift
import Derived.Laws.OwnMore
import Derived.WalkSpells
import Derived.Laws.MakeOwn
import Derived.Deep.RegionLaw
namespace Go.Proofs.Ytchkiacmiljopaa.HazP
open Go.RowKit RefP
set_option linter.unusedVariables false
set_option linter.unusedSimpArgs false

theorem run_append_zero {P : Program} {w : World} {base : Nat} (t ty e : TypeId) (i : TypeInfo) (size : Nat) (ht : P.underlying t = some (.slice e)) (hi : P.info? e = some i)
    (v : Value) (n : Nat) (xs : List Value) (hown : w.ownsRow base e size v n xs) (p : Option Addr) (c' : Nat) :
    (Builtin.append_ #[t, t] ty #[v, .slice p 0 c']).run P w = .ok v w := by
  rcases hown.2 with ⟨rfl, rfl⟩ | ⟨g, cap, cur, rfl, _, _, hnc, _⟩
  · cases p <;> simp [Builtin.append_, run_underlying ht, sizeOf, typeInfo, hi, Builtin.lenOf, Builtin.firstCells, loadCells, loadCellsFrom, Result.andThen]
  · cases p <;> simp [Builtin.append_, run_underlying ht, sizeOf, typeInfo, hi, Builtin.lenOf, Builtin.firstCells, hnc, storeCells, loadCells, loadCellsFrom, Result.andThen]
theorem OwnsU.empty (w : World) (base : Nat) (hb : base ≤ w.heap.size) : OwnsU (w.alloc (.cells #[] 35)) base (some ⟨w.heap.size, 0, none⟩) 0 [] := ⟨Owns.empty _ _ _ _ _ hb, by simp⟩

set_option maxRecDepth 100000 in
set_option maxHeartbeats 800000 in
theorem sclone_any (a : Option Addr) (c : Nat) (l : List Int) (w : World) (h : U64s w a l) (hsm : l.length ≤ 60000) :
    Calls Try.prog 55 #[.slice a l.length c] w (WordsAt w l) := by
  cases ha : a with
  | none =>
    subst ha
    have h0 : l.length = 0 := by
      rcases Nat.eq_zero_or_pos l.length with h0 | h0
      · exact h0
      · obtain ⟨b, off, e, _⟩ := h.row.get h0; cases e
    obtain rfl : l = [] := List.eq_nil_of_length_eq_zero h0
    have hnil : ∀ w, (binOp .eql 29 (.slice none 0 c) (.slice none 0 0)).run Try.prog w = .ok (.bool true) w := fun w => Lib.run_eql_slice_nil w _ _ none 0 c 0 0 Try.underlying29
    go_enter Try.func55, Try.ntmps55
    go_wp2_with fail
    go_ret
    exact ⟨none, 0, rfl, OwnsU.nil _ _, Below.refl _ _⟩
  | some p =>
    subst ha
    have E := OwnsU.empty w w.heap.size (Nat.le_refl _)
    have hB : Below w.heap.size w (w.alloc (.cells #[] 35)) := (Below.refl _ w).alloc (Nat.le_refl _) _
    obtain ⟨i0, hi, hz0, hz1, hz2⟩ := info_parts' infoWord
    by_cases h0 : l.length = 0
    · obtain rfl : l = [] := List.eq_nil_of_length_eq_zero h0
      have hrun := fun ty => run_append_zero (P := Try.prog) 29 ty 35 i0 1 Try.underlying29 hi _ _ _ E.own (some p) c
      have hrun := Lib.hid hrun
      have hnil : ∀ w, (binOp .eql 29 (.slice (some p) 0 c) (.slice none 0 0)).run Try.prog w = .ok (.bool false) w := fun w => Lib.run_eql_slice_nil w _ _ (some p) 0 c 0 0 Try.underlying29
      go_enter Try.func55, Try.ntmps55
      go_wp2_with (at_builtin; refine wpList_append_run hrun.out rfl (by rfl) (by rfl) (by rfl) ?_)
      go_ret
      exact ⟨_, 0, rfl, E, hB⟩
    · obtain ⟨g, cap, w', A⟩ := addAll (w := w.alloc (.cells #[] 35)) w.heap.size E (c' := c) (h.below hB) (by omega) (by simpa using (by omega : l.length ≤ 65536)) (by simp)
      have hrun := Lib.hid A.run
      have AO := A.own
      have AB := A.keeps (fun k e => (E.lt k e).1) w w.heap.size (Nat.le_refl _) hB (by simp)
      simp only [List.nil_append] at AO
      clear A E
      simp only [List.length_nil, Nat.zero_add] at hrun
      have hnil : ∀ w, (binOp .eql 29 (.slice (some p) l.length c) (.slice none 0 0)).run Try.prog w = .ok (.bool false) w := fun w => Lib.run_eql_slice_nil w _ _ (some p) l.length c 0 0 Try.underlying29
      go_enter Try.func55, Try.ntmps55
      go_wp2_with (at_builtin; refine wpList_append_run hrun.out rfl (by rfl) (by rfl) (by rfl) ?_)
      go_ret
      exact ⟨_, cap, rfl, AO, AB⟩

/-- the list whose object is o: room r, words l, in a row at a -/
structure ListAt (w : World) (base o : Nat) (r : Int) (a : Option Addr) (c : Nat) (l : List Int) : Prop where
  head : Blk w o #[.int .i64 r, .slice a l.length c] 97
  own : OwnsU w base a c l
  ge : base ≤ o
  ne : ∀ p, a = some p → p.block ≠ o
  room : 1 ≤ r ∧ r ≤ 1056
  len : (l.length : Int) ≤ r
theorem ListAt.below {w w' : World} {base o : Nat} {r : Int} {a : Option Addr} {c : Nat} {l : List Int} (h : ListAt w base o r a c l) (hb : Below w.heap.size w w') : ListAt w' base o r a c l := ⟨h.head.below hb, h.own.below hb, h.ge, h.ne, h.room, h.len⟩
theorem ListAt.words {w : World} {base o : Nat} {r : Int} {a : Option Addr} {c : Nat} {l : List Int} (h : ListAt w base o r a c l) : U64s w a l := h.own.words (by have := h.len; have := h.room; omega)
theorem hazNew_no (r : Int) (w : World) (h : r < 1 ∨ 1056 < r) : Calls Try.prog 26 #[.int .i64 r] w fun e w' => e = .returned (.pointer none) ∧ w = w' := by
  by_cases c1 : r < 1
  · have d1 : decide (r < 1) = true := by simpa using c1
    clear c1 h
    go_enter Try.func26, Try.ntmps26
    go_wp2_with fail
    go_ret
    exact ⟨rfl, rfl⟩
  · have d1 : decide (r < 1) = false := by simpa using c1
    have d2 : decide (1056 < r) = true := by simp; omega
    clear c1 h
    go_enter Try.func26, Try.ntmps26
    go_wp2_with fail
    go_ret
    exact ⟨rfl, rfl⟩
theorem hazNew_yes (r : Int) (w : World) (h1 : 1 ≤ r) (h2 : r ≤ 1056) : Calls Try.prog 26 #[.int .i64 r] w fun e w' => (∃ o, e = .returned (.pointer (some ⟨o, 0, none⟩)) ∧ w.heap.size ≤ o ∧ ∀ b, b ≤ w.heap.size → ListAt w' b o r none 0 []) ∧ Below w.heap.size w w' := by
  have d1 : decide (r < 1) = false := by simp; omega
  have d2 : decide (1056 < r) = false := by simp; omega
  go_enter Try.func26, Try.ntmps26
  go_wp2_with fail
  go_ret
  refine ⟨⟨_, rfl, Nat.le_refl _, fun b hb => ⟨Blk.new _ _ _, OwnsU.nil _ _, hb, by simp, ⟨h1, h2⟩, by simp; omega⟩⟩, by (repeat (first | exact Below.refl _ _ | assumption | refine below_alloc2 ?_ (by first | exact Nat.le_refl _ | omega) _ | refine Below.drew ?_ | refine below_drewN ?_ _ | refine below_push2 ?_ ‹_› (by first | exact Nat.le_refl _ | omega) | refine Below.setCell ?_ (by first | (simp; done) | (simp; omega) | omega) _))⟩
theorem full_nil (w : World) : Calls Try.prog 44 #[.pointer none] w fun e w' => e = .returned (.bool true) ∧ Below w.heap.size w w' := by
  go_enter Try.func44, Try.ntmps44
  go_upto_region 1 with (fail)
  go_quiet (fail)
  go_wp2_with fail
  go_ret
  exact ⟨rfl, by (repeat (first | exact Below.refl _ _ | assumption | refine below_alloc2 ?_ (by first | exact Nat.le_refl _ | omega) _ | refine Below.drew ?_ | refine below_drewN ?_ _ | refine below_push2 ?_ ‹_› (by first | exact Nat.le_refl _ | omega) | refine Below.setCell ?_ (by first | (simp; done) | (simp; omega) | omega) _))⟩
theorem full_any (w : World) (base o : Nat) (r : Int) (a : Option Addr) (c : Nat) (l : List Int) (h : ListAt w base o r a c l) : Calls Try.prog 44 #[.pointer (some ⟨o, 0, none⟩)] w fun e w' => e = .returned (.bool (decide (r ≤ l.length))) ∧ Below w.heap.size w w' := by
  have c0 := h.head.at 0 rfl
  have c1 := h.head.at 1 rfl
  go_enter Try.func44, Try.ntmps44
  go_upto_region 1 with (fail)
  go_quiet (fail)
  go_wp2_with fail
  go_ret
  exact ⟨rfl, by (repeat (first | exact Below.refl _ _ | assumption | refine below_alloc2 ?_ (by first | exact Nat.le_refl _ | omega) _ | refine Below.drew ?_ | refine below_drewN ?_ _ | refine below_push2 ?_ ‹_› (by first | exact Nat.le_refl _ | omega) | refine Below.setCell ?_ (by first | (simp; done) | (simp; omega) | omega) _))⟩
theorem full_zero (w : World) (o : Nat) (r : Int) (B : Blk w o #[.int .i64 0, .slice none 0 0] 97) : Calls Try.prog 44 #[.pointer (some ⟨o, 0, none⟩)] w fun e w' => e = .returned (.bool true) ∧ Below w.heap.size w w' := by
  have c0 := B.at 0 rfl
  have c1 := B.at 1 rfl
  go_enter Try.func44, Try.ntmps44
  go_upto_region 1 with (fail)
  go_quiet (fail)
  go_wp2_with fail
  go_ret
  exact ⟨rfl, by (repeat (first | exact Below.refl _ _ | assumption | refine below_alloc2 ?_ (by first | exact Nat.le_refl _ | omega) _ | refine Below.drew ?_ | refine below_drewN ?_ _ | refine below_push2 ?_ ‹_› (by first | exact Nat.le_refl _ | omega) | refine Below.setCell ?_ (by first | (simp; done) | (simp; omega) | omega) _))⟩
end Go.Proofs.Ytchkiacmiljopaa.HazP
