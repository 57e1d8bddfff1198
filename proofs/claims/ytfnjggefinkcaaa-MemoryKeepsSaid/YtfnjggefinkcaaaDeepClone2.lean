/-
  slices.Clone of steps, words and pairs: contracts.
-/
import Derived.Test.YtfnjggefinkcaaaDeepClone
import Derived.WalkSpells
namespace Go.Proofs.Ytfnjggefinkcaaa.Dp
open Go.RowKit RefP MemP
set_option linter.unusedVariables false
set_option linter.unusedSimpArgs false
theorem infoPair : (Try.prog.info? 64).map (fun i => (i.zero, i.size, i.bytes)) = some (some (.agg #[.string ⟨#[]⟩, .int .u64 0]), 2, 24) := by kernel_rfl
theorem infoStep : (Try.prog.info? 87).map (fun i => (i.zero, i.size, i.bytes)) = some (some (.agg #[.int .i64 0, .int .u64 0, .int .u64 0, .int .u64 0, .bool false]), 5, 40) := by kernel_rfl
/-- what a copy of a row is -/
structure Copied {α : Type} (C : Cod α) (w w' : World) (e : Ending) (xs : List α) : Prop where
  ret : ∃ h' : Hd, e = .returned (.slice h'.a xs.length h'.c) ∧ HRow C w' (List.range w.heap.size) h' xs
  below : Below w.heap.size w w'
set_option maxRecDepth 100000 in
set_option maxHeartbeats 1600000 in
theorem clPair_any (S : List Nat) (h : Hd) (xs : List (PairV)) (w : World) (H : HRow pairT w S h xs) (hl : xs.length ≤ 1000) :
    Calls Try.prog 58 #[.slice h.a xs.length h.c] w (fun e w' => Copied pairT w w' e xs) := by
  have hnil : ∀ (w : World) (a : Option Addr) (n c : Nat), (binOp .eql 28 (.slice a n c) (.slice none 0 0)).run Try.prog w = .ok (.bool a.isNone) w := fun w a n c => Lib.run_eql_slice_nil w _ _ a n c 0 0 Try.underlying28
  cases ha : h.a with
  | none =>
    have hx : xs = [] := by
      cases xs with
      | nil => rfl
      | cons x l =>
        obtain ⟨b, off, e, _⟩ := H.row (by simp)
        rw [ha] at e; cases e
    subst hx
    have h0 := hnil w none 0 h.c
    go_enter Try.func58, Try.ntmps58
    go_wp2_with fail
    go_ret
    exact ⟨⟨Hd.nil, rfl, HRow.nil _ _ _⟩, Below.refl _ _⟩
  | some ad =>
    have h0 := fun w => hnil w (some ad) xs.length h.c
    have hm : (maxLen : Nat) = 9223372036854775807 := by unfold maxLen; rfl
    have hb1 : Below w.heap.size w (w.alloc (.cells #[] 64)) := (Below.refl _ w).alloc (Nat.le_refl _) _
    have O := OwnR.empty 2 (flatF pairL) ⟨⟨#[]⟩, 0⟩ w w.heap.size 64 (Nat.le_refl _)
    have R := (flat_pair).recs ⟨⟨#[]⟩, 0⟩ (H.keep (Keeps.of_below hb1))
    rw [ha] at R
    obtain ⟨i0, hi, hz0, hz1, hz2⟩ := info_parts' infoPair
    have A : ∃ g cap w', AddedR Try.prog 2 (flatF pairL) ⟨⟨#[]⟩, 0⟩ (w.alloc (.cells #[] 64)) w.heap.size 28 64 (some ⟨w.heap.size, 0, none⟩) 0 [] (.slice (some ad) xs.length h.c) xs.length xs g cap w' := by
      by_cases hx : 0 < xs.length
      · exact addRecs (c' := h.c) w.heap.size 28 64 i0 _ 24 Try.underlying28 hi hz0 hz1 hz2 (by simp [Value.cells]) (by decide) (flat_pair).oneF O R hx (by simp; omega) (by simp; omega) (by simp)
      · obtain rfl : xs = [] := List.eq_nil_of_length_eq_zero (by omega)
        exact ⟨_, _, _, addRecs_zero w.heap.size w.heap.size 28 64 i0 Try.underlying28 hi O (some ad) h.c⟩
    obtain ⟨g, cap, wa, A⟩ := A
    have hrun := fun ty => A.run ty
    simp only [List.length_nil, Nat.zero_add] at hrun
    replace hrun := Lib.hid hrun
    go_enter Try.func58, Try.ntmps58
    go_wp2_with (at_builtin; refine wpList_append_run hrun.out rfl (by rfl) (by rfl) (by rfl) ?_)
    go_ret
    have hb2 : Below w.heap.size w wa := A.keeps (fun k e => (O.lt k e).1) w w.heap.size (Nat.le_refl _) hb1 (by simp)
    have hcap : xs.length ≤ cap ∧ cap ≤ maxLen := by
      rcases A.own.own.2 with ⟨q, _⟩ | ⟨g', cap', cur, q, _, _, h1, h2, _⟩
      · cases q
      · injection q with _ _ q3
        subst q3
        exact ⟨h1, h2⟩
    refine ⟨⟨⟨some ⟨g, 0, none⟩, cap⟩, rfl, (flat_pair).back A.own.read H.all (fun b off e => ?_) hcap.1 hcap.2⟩, hb2⟩
    injection e with e
    injection e with e1
    subst e1
    have := A.ge
    simp
    omega
set_option maxRecDepth 100000 in
set_option maxHeartbeats 1600000 in
theorem clU64_any (S : List Nat) (h : Hd) (xs : List (Int)) (w : World) (H : HRow u64C w S h xs) (hl : xs.length ≤ 1000) :
    Calls Try.prog 57 #[.slice h.a xs.length h.c] w (fun e w' => Copied u64C w w' e xs) := by
  have hnil : ∀ (w : World) (a : Option Addr) (n c : Nat), (binOp .eql 24 (.slice a n c) (.slice none 0 0)).run Try.prog w = .ok (.bool a.isNone) w := fun w a n c => Lib.run_eql_slice_nil w _ _ a n c 0 0 Try.underlying24
  cases ha : h.a with
  | none =>
    have hx : xs = [] := by
      cases xs with
      | nil => rfl
      | cons x l =>
        obtain ⟨b, off, e, _⟩ := H.row (by simp)
        rw [ha] at e; cases e
    subst hx
    have h0 := hnil w none 0 h.c
    go_enter Try.func57, Try.ntmps57
    go_wp2_with fail
    go_ret
    exact ⟨⟨Hd.nil, rfl, HRow.nil _ _ _⟩, Below.refl _ _⟩
  | some ad =>
    have h0 := fun w => hnil w (some ad) xs.length h.c
    have hm : (maxLen : Nat) = 9223372036854775807 := by unfold maxLen; rfl
    have hb1 : Below w.heap.size w (w.alloc (.cells #[] 22)) := (Below.refl _ w).alloc (Nat.le_refl _) _
    have O := OwnR.empty 1 (flatF (fun n => [.int .u64 n])) 0 w w.heap.size 22 (Nat.le_refl _)
    have R := (flat_u64).recs 0 (H.keep (Keeps.of_below hb1))
    rw [ha] at R
    obtain ⟨i0, hi, hz0, hz1, hz2⟩ := info_parts' infoU
    have A : ∃ g cap w', AddedR Try.prog 1 (flatF (fun n => [.int .u64 n])) 0 (w.alloc (.cells #[] 22)) w.heap.size 24 22 (some ⟨w.heap.size, 0, none⟩) 0 [] (.slice (some ad) xs.length h.c) xs.length xs g cap w' := by
      by_cases hx : 0 < xs.length
      · exact addRecs (c' := h.c) w.heap.size 24 22 i0 _ 8 Try.underlying24 hi hz0 hz1 hz2 (by simp [Value.cells]) (by decide) (flat_u64).oneF O R hx (by simp; omega) (by simp; omega) (by simp)
      · obtain rfl : xs = [] := List.eq_nil_of_length_eq_zero (by omega)
        exact ⟨_, _, _, addRecs_zero w.heap.size w.heap.size 24 22 i0 Try.underlying24 hi O (some ad) h.c⟩
    obtain ⟨g, cap, wa, A⟩ := A
    have hrun := fun ty => A.run ty
    simp only [List.length_nil, Nat.zero_add] at hrun
    replace hrun := Lib.hid hrun
    go_enter Try.func57, Try.ntmps57
    go_wp2_with (at_builtin; refine wpList_append_run hrun.out rfl (by rfl) (by rfl) (by rfl) ?_)
    go_ret
    have hb2 : Below w.heap.size w wa := A.keeps (fun k e => (O.lt k e).1) w w.heap.size (Nat.le_refl _) hb1 (by simp)
    have hcap : xs.length ≤ cap ∧ cap ≤ maxLen := by
      rcases A.own.own.2 with ⟨q, _⟩ | ⟨g', cap', cur, q, _, _, h1, h2, _⟩
      · cases q
      · injection q with _ _ q3
        subst q3
        exact ⟨h1, h2⟩
    refine ⟨⟨⟨some ⟨g, 0, none⟩, cap⟩, rfl, (flat_u64).back A.own.read H.all (fun b off e => ?_) hcap.1 hcap.2⟩, hb2⟩
    injection e with e
    injection e with e1
    subst e1
    have := A.ge
    simp
    omega
set_option maxRecDepth 100000 in
set_option maxHeartbeats 1600000 in
theorem clStep_any (S : List Nat) (h : Hd) (xs : List (StepV)) (w : World) (H : HRow stepT w S h xs) (hl : xs.length ≤ 1000) :
    Calls Try.prog 56 #[.slice h.a xs.length h.c] w (fun e w' => Copied stepT w w' e xs) := by
  have hnil : ∀ (w : World) (a : Option Addr) (n c : Nat), (binOp .eql 31 (.slice a n c) (.slice none 0 0)).run Try.prog w = .ok (.bool a.isNone) w := fun w a n c => Lib.run_eql_slice_nil w _ _ a n c 0 0 Try.underlying31
  cases ha : h.a with
  | none =>
    have hx : xs = [] := by
      cases xs with
      | nil => rfl
      | cons x l =>
        obtain ⟨b, off, e, _⟩ := H.row (by simp)
        rw [ha] at e; cases e
    subst hx
    have h0 := hnil w none 0 h.c
    go_enter Try.func56, Try.ntmps56
    go_wp2_with fail
    go_ret
    exact ⟨⟨Hd.nil, rfl, HRow.nil _ _ _⟩, Below.refl _ _⟩
  | some ad =>
    have h0 := fun w => hnil w (some ad) xs.length h.c
    have hm : (maxLen : Nat) = 9223372036854775807 := by unfold maxLen; rfl
    have hb1 : Below w.heap.size w (w.alloc (.cells #[] 87)) := (Below.refl _ w).alloc (Nat.le_refl _) _
    have O := OwnR.empty 5 (flatF stepL) ⟨0, 0, 0, 0, false⟩ w w.heap.size 87 (Nat.le_refl _)
    have R := (flat_step).recs ⟨0, 0, 0, 0, false⟩ (H.keep (Keeps.of_below hb1))
    rw [ha] at R
    obtain ⟨i0, hi, hz0, hz1, hz2⟩ := info_parts' infoStep
    have A : ∃ g cap w', AddedR Try.prog 5 (flatF stepL) ⟨0, 0, 0, 0, false⟩ (w.alloc (.cells #[] 87)) w.heap.size 31 87 (some ⟨w.heap.size, 0, none⟩) 0 [] (.slice (some ad) xs.length h.c) xs.length xs g cap w' := by
      by_cases hx : 0 < xs.length
      · exact addRecs (c' := h.c) w.heap.size 31 87 i0 _ 40 Try.underlying31 hi hz0 hz1 hz2 (by simp [Value.cells]) (by decide) (flat_step).oneF O R hx (by simp; omega) (by simp; omega) (by simp)
      · obtain rfl : xs = [] := List.eq_nil_of_length_eq_zero (by omega)
        exact ⟨_, _, _, addRecs_zero w.heap.size w.heap.size 31 87 i0 Try.underlying31 hi O (some ad) h.c⟩
    obtain ⟨g, cap, wa, A⟩ := A
    have hrun := fun ty => A.run ty
    simp only [List.length_nil, Nat.zero_add] at hrun
    replace hrun := Lib.hid hrun
    go_enter Try.func56, Try.ntmps56
    go_wp2_with (at_builtin; refine wpList_append_run hrun.out rfl (by rfl) (by rfl) (by rfl) ?_)
    go_ret
    have hb2 : Below w.heap.size w wa := A.keeps (fun k e => (O.lt k e).1) w w.heap.size (Nat.le_refl _) hb1 (by simp)
    have hcap : xs.length ≤ cap ∧ cap ≤ maxLen := by
      rcases A.own.own.2 with ⟨q, _⟩ | ⟨g', cap', cur, q, _, _, h1, h2, _⟩
      · cases q
      · injection q with _ _ q3
        subst q3
        exact ⟨h1, h2⟩
    refine ⟨⟨⟨some ⟨g, 0, none⟩, cap⟩, rfl, (flat_step).back A.own.read H.all (fun b off e => ?_) hcap.1 hcap.2⟩, hb2⟩
    injection e with e
    injection e with e1
    subst e1
    have := A.ge
    simp
    omega
end Go.Proofs.Ytfnjggefinkcaaa.Dp
