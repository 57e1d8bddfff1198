/-
  ref.Shut, ref.Gated and the document's: contracts, each for every gate and word.
-/
import Derived.Test.YtpmlbdnhgeeaoaaRefState
namespace Go.Proofs.Ytpmlbdnhgeeaoaa.RefP
open Go.RowKit
set_option linter.unusedVariables false

theorem gateB_two (t x : Int) (h0 : 0 ≤ t) (h1 : t ≤ 15) : gateB 2 t x = opensB x := by
  cases ho : opensB x
  · exact gateB_mk_no (by simp [ho])
  · exact gateB_mk ⟨h0, h1, .inr (.inr ⟨rfl, ho⟩)⟩
theorem gateB_zero (t x : Int) (h0 : 0 ≤ t) (h1 : t ≤ 15) : gateB 0 t x = (t == 0 && x == 0) := by
  by_cases a : t = 0 ∧ x = 0
  · obtain ⟨rfl, rfl⟩ := a
    exact gateB_mk (by omega)
  · rw [gateB_mk_no (by omega)]
    by_cases b : t = 0
    · have : ¬ x = 0 := fun e => a ⟨b, e⟩
      simp [this]
    · simp [b]
theorem gateB_one (t x : Int) (h0 : 0 ≤ t) (h1 : t ≤ 15) : gateB 1 t x = (x == 0) := by
  by_cases a : x = 0
  · subst a; exact gateB_mk (by omega)
  · rw [gateB_mk_no (by omega)]; simp [a]
theorem gateB_three (t x : Int) (h0 : 0 ≤ t) (h1 : t ≤ 15) : gateB 3 t x = (x == 0) := by
  by_cases a : x = 0
  · subst a; exact gateB_mk (by omega)
  · rw [gateB_mk_no (by omega)]; simp [a]
set_option maxHeartbeats 800000 in
theorem sound_any (s t x : Int) (w : World) (s0 : -9223372036854775808 ≤ s) (s1 : s ≤ 9223372036854775807) (t0 : -9223372036854775808 ≤ t) (t1 : t ≤ 9223372036854775807) (h2 : 0 ≤ x) (h3 : x ≤ 18446744073709551615) :
    Calls Try.prog 136 #[.agg #[.int .i64 s, .int .i64 t, .int .u64 x]] w fun e w' => e = .returned (.bool (gateB s t x)) ∧ Below w.heap.size w w' := by
  by_cases c : s < 0 ∨ (¬ s < 0 ∧ 3 < s) ∨ (¬ s < 0 ∧ ¬ 3 < s ∧ t < 0) ∨ (¬ s < 0 ∧ ¬ 3 < s ∧ ¬ t < 0 ∧ 16 ≤ t)
  · rw [gateB_mk_no (s := s) (t := t) (x := x) (by omega)]
    rcases c with h | ⟨h, k⟩ | ⟨h, k, l⟩ | ⟨h, k, l, m⟩
    all_goals
      go_enter Try.func136, Try.ntmps136
      go_wp2
      go_ret
      exact ⟨rfl, (Below.refl _ _).alloc (Nat.le_refl _) _⟩
  · have c1 : 0 ≤ s := by omega
    have c2 : s ≤ 3 := by omega
    have c3 : 0 ≤ t := by omega
    have c4 : t ≤ 15 := by omega
    clear c
    rcases (show s = 2 ∨ s = 0 ∨ s = 1 ∨ s = 3 by omega) with rfl | rfl | rfl | rfl
    · go_enter Try.func136, Try.ntmps136
      go_wp2_with fail
      refine (open_any _ _ (by omega) (by omega)).mono ?_
      rintro e w1 ⟨rfl, hb1⟩
      have hc := hb1.cell (p := ⟨w.heap.size, 0, none⟩) (by simp)
      go_wp2_with fail
      go_ret
      exact ⟨ret_b (gateB_two t x c3 c4).symm, below_call hb1⟩
    · go_enter Try.func136, Try.ntmps136
      go_wp2_with fail
      refine (open_any _ _ (by omega) (by omega)).mono ?_
      rintro e w1 ⟨rfl, hb1⟩
      have hc := hb1.cell (p := ⟨w.heap.size, 0, none⟩) (by simp)
      have hd := hb1.cell (p := ⟨w.heap.size, 1, none⟩) (by simp)
      have he := hb1.cell (p := ⟨w.heap.size, 2, none⟩) (by simp)
      go_wp2_with fail
      all_goals
        go_ret
        refine ⟨ret_b ?_, below_call hb1⟩
        rw [gateB_zero _ _ (by omega) (by omega)]
        simp [*]
    · go_enter Try.func136, Try.ntmps136
      go_wp2_with fail
      refine (open_any _ _ (by omega) (by omega)).mono ?_
      rintro e w1 ⟨rfl, hb1⟩
      have hc := hb1.cell (p := ⟨w.heap.size, 0, none⟩) (by simp)
      have he := hb1.cell (p := ⟨w.heap.size, 2, none⟩) (by simp)
      go_wp2_with fail
      go_ret
      exact ⟨ret_b (gateB_one t x c3 c4).symm, below_call hb1⟩
    · go_enter Try.func136, Try.ntmps136
      go_wp2_with fail
      refine (open_any _ _ (by omega) (by omega)).mono ?_
      rintro e w1 ⟨rfl, hb1⟩
      have hc := hb1.cell (p := ⟨w.heap.size, 0, none⟩) (by simp)
      have he := hb1.cell (p := ⟨w.heap.size, 2, none⟩) (by simp)
      go_wp2_with fail
      go_ret
      exact ⟨ret_b (gateB_three t x c3 c4).symm, below_call hb1⟩

set_option maxHeartbeats 800000 in
theorem may_any (s t x : Int) (w : World) (s0 : -9223372036854775808 ≤ s) (s1 : s ≤ 9223372036854775807) (t0 : -9223372036854775808 ≤ t) (t1 : t ≤ 9223372036854775807) (h2 : 0 ≤ x) (h3 : x ≤ 18446744073709551615) :
    Calls Try.prog 133 #[.agg #[.int .i64 s, .int .i64 t, .int .u64 x]] w fun e w' => e = .returned (.bool (gateB s t x)) ∧ Below w.heap.size w w' := by
  by_cases c : t < 0 ∨ (¬ t < 0 ∧ 15 < t)
  · rw [gateB_mk_no (s := s) (t := t) (x := x) (by omega)]
    rcases c with h | ⟨h, k⟩
    all_goals
      go_enter Try.func133, Try.ntmps133
      go_wp2
      go_ret
      exact ⟨rfl, (Below.refl _ _).alloc (Nat.le_refl _) _⟩
  · have c3 : 0 ≤ t := by omega
    have c4 : t ≤ 15 := by omega
    clear c
    by_cases c2 : s = 0 ∨ s = 1 ∨ s = 2 ∨ s = 3
    · rcases c2 with rfl | rfl | rfl | rfl
      · go_enter Try.func133, Try.ntmps133
        go_wp2_with fail
        refine (dopen_any _ _ (by omega) (by omega)).mono ?_
        rintro e w1 ⟨rfl, rfl⟩
        go_wp2_with fail
        all_goals
          go_ret
          refine ⟨ret_b ?_, (Below.refl _ _).alloc (Nat.le_refl _) _⟩
          rw [gateB_zero _ _ (by omega) (by omega)]
          simp [*]
      · go_enter Try.func133, Try.ntmps133
        go_wp2_with fail
        refine (dopen_any _ _ (by omega) (by omega)).mono ?_
        rintro e w1 ⟨rfl, rfl⟩
        go_wp2_with fail
        go_ret
        exact ⟨ret_b (gateB_one t x c3 c4).symm, (Below.refl _ _).alloc (Nat.le_refl _) _⟩
      · go_enter Try.func133, Try.ntmps133
        go_wp2_with fail
        refine (dopen_any _ _ (by omega) (by omega)).mono ?_
        rintro e w1 ⟨rfl, rfl⟩
        go_wp2_with fail
        go_ret
        exact ⟨ret_b (gateB_two t x c3 c4).symm, (Below.refl _ _).alloc (Nat.le_refl _) _⟩
      · go_enter Try.func133, Try.ntmps133
        go_wp2_with fail
        refine (dopen_any _ _ (by omega) (by omega)).mono ?_
        rintro e w1 ⟨rfl, rfl⟩
        go_wp2_with fail
        go_ret
        exact ⟨ret_b (gateB_three t x c3 c4).symm, (Below.refl _ _).alloc (Nat.le_refl _) _⟩
    · have q0 : (s == 0) = false := not_eq (by omega)
      have q1 : (s == 1) = false := not_eq (by omega)
      have q2 : (s == 2) = false := not_eq (by omega)
      have q3 : (s == 3) = false := not_eq (by omega)
      rw [gateB_mk_no (s := s) (t := t) (x := x) (by omega)]
      clear c2
      go_enter Try.func133, Try.ntmps133
      go_wp2_with fail
      refine (dopen_any _ _ (by omega) (by omega)).mono ?_
      rintro e w1 ⟨rfl, rfl⟩
      go_wp2_with fail
      go_ret
      exact ⟨rfl, (Below.refl _ _).alloc (Nat.le_refl _) _⟩

set_option maxHeartbeats 800000 in
theorem shut_any (s t x : Int) (w : World) (s0 : -9223372036854775808 ≤ s) (s1 : s ≤ 9223372036854775807) (t0 : -9223372036854775808 ≤ t) (t1 : t ≤ 9223372036854775807) (h2 : 0 ≤ x) (h3 : x ≤ 18446744073709551615) :
    Calls Try.prog 87 #[.agg #[.int .i64 s, .int .i64 t, .int .u64 x]] w fun e w' => e = .returned (.int .u64 (shutI s t x)) ∧ Below w.heap.size w w' := by
  cases hg : gateB s t x
  · have hv : Hid (shutI s t x = 18446744073709551615) := (shutI_no hg).trans topW_eq
    go_enter Try.func87, Try.ntmps87
    go_wp2_with fail
    refine (sound_any s t x _ s0 s1 t0 t1 h2 h3).mono ?_
    rintro e w1 ⟨rfl, hb1⟩
    go_wp2_with fail
    go_ret
    exact ⟨ret_u64 hv.out.symm, below_call hb1⟩
  · have hv : Hid (shutI s t x = s * 4611686018427387904 + t * 72057594037927936 + x) := shutI_yes hg
    obtain ⟨b1, b2, b3, b4, b5⟩ := gateB_bounds hg h2
    have hk := Lib.hid (shut_bits s t x b1 b2 b3 b4 h2 b5)
    go_enter Try.func87, Try.ntmps87
    go_wp2_with fail
    refine (sound_any s t x _ s0 s1 t0 t1 h2 h3).mono ?_
    rintro e w1 ⟨rfl, hb1⟩
    have hc := hb1.cell (p := ⟨w.heap.size, 0, none⟩) (by simp)
    have hd := hb1.cell (p := ⟨w.heap.size, 1, none⟩) (by simp)
    have he := hb1.cell (p := ⟨w.heap.size, 2, none⟩) (by simp)
    go_wp2_with fail
    go_ret
    exact ⟨ret_u64 (hk.out.trans hv.out.symm), below_call hb1⟩

end Go.Proofs.Ytpmlbdnhgeeaoaa.RefP
