/-
  ref.State, the document's Open and State: contracts, each for every word.
-/
import Derived.Test.YtpmlbdnhgeeaoaaRefOpen
namespace Go.Proofs.Ytpmlbdnhgeeaoaa.RefP
open Go.RowKit
set_option linter.unusedVariables false

set_option maxHeartbeats 800000 in
theorem dopen_any (x : Int) (w : World) (h2 : 0 ≤ x) (h3 : x ≤ 18446744073709551615) :
    Calls Try.prog 94 #[.int .u64 x] w fun e w' => e = .returned (.tuple #[.int .i64 (openP x), .int .u64 (openG x), .bool (opensB x)]) ∧ w = w' := by
  cases ho : opensB x
  · have hn := opensB_no ho
    have hv : Hid (Ending.returned (.tuple #[.int .i64 (openP x), .int .u64 (openG x), .bool false]) = .returned (.tuple #[.int .i64 0, .int .u64 0, .bool false])) := ret_3 (openP_no ho) (openG_no ho) rfl
    clear ho
    rcases (show x % 16384 < 1 ∨ (¬ x % 16384 < 1 ∧ 8192 < x % 16384) ∨ (¬ x % 16384 < 1 ∧ ¬ 8192 < x % 16384 ∧ x / 16384 < 1) ∨ (¬ x % 16384 < 1 ∧ ¬ 8192 < x % 16384 ∧ ¬ x / 16384 < 1 ∧ 4294967295 < x / 16384) by omega) with h | ⟨h, k⟩ | ⟨h, k, l⟩ | ⟨h, k, l, m⟩
    all_goals
      clear hn
      go_enter Try.func94, Try.ntmps94
      go_wp2
      go_ret3
      exact ⟨hv.out.symm, rfl⟩
  · have hn := opensB_yes ho
    have hv : Hid (Ending.returned (.tuple #[.int .i64 (openP x), .int .u64 (openG x), .bool true]) = .returned (.tuple #[.int .i64 (x % 16384 - 1), .int .u64 (x / 16384), .bool true])) := ret_3 (openP_yes ho) (openG_yes ho) rfl
    clear ho
    obtain ⟨a, b, c, d⟩ := hn
    go_enter Try.func94, Try.ntmps94
    go_wp2
    go_ret3
    exact ⟨hv.out.symm, rfl⟩

set_option maxHeartbeats 800000 in
theorem state_any (x : Int) (w : World) (h2 : 0 ≤ x) (h3 : x ≤ 18446744073709551615) :
    Calls Try.prog 126 #[.int .u64 x] w fun e w' => e = .returned (.tuple #[.int .i64 (stateS x), .int .u64 (stateG x), .bool (statesB x)]) ∧ Below w.heap.size w w' := by
  by_cases c0 : x = 18446744073709551615
  · subst c0
    have ho := statesB_top
    have hv : Hid (Ending.returned (.tuple #[.int .i64 (stateS 18446744073709551615), .int .u64 (stateG 18446744073709551615), .bool (statesB 18446744073709551615)]) = .returned (.tuple #[.int .i64 0, .int .u64 0, .bool false])) := ret_3 (stateS_no ho) (stateG_no ho) ho
    clear ho
    go_enter Try.func126, Try.ntmps126
    go_wp2_with fail
    refine (of_low2 _ _ (by omega) (by omega)).mono ?_
    rintro e w1 ⟨rfl, hb1⟩
    go_wp2_with fail
    refine (of_high2 _ _ (by omega) (by omega)).mono ?_
    rintro e w2 ⟨rfl, hb2⟩
    go_wp2_with fail
    go_ret3
    exact ⟨hv.out.symm, below_two hb1 hb2⟩
  have hz : (x == 18446744073709551615) = false := by simpa using c0
  cases ho : statesB x
  · have hn := use_not_state x c0 ho
    have hv : Hid (Ending.returned (.tuple #[.int .i64 (stateS x), .int .u64 (stateG x), .bool false]) = .returned (.tuple #[.int .i64 0, .int .u64 0, .bool false])) := ret_3 (stateS_no ho) (stateG_no ho) rfl
    clear ho c0
    have hq : (useI (x % 4) (x / 4) != x) = true := by simpa using hn
    go_enter Try.func126, Try.ntmps126
    go_wp2_with fail
    refine (of_low2 _ _ (by omega) (by omega)).mono ?_
    rintro e w1 ⟨rfl, hb1⟩
    go_wp2_with fail
    refine (of_high2 _ _ (by omega) (by omega)).mono ?_
    rintro e w2 ⟨rfl, hb2⟩
    go_wp2_with fail
    refine (use_any _ _ _ (by omega) (by omega) (by omega) (by omega)).mono ?_
    rintro e w3 ⟨rfl, rfl⟩
    go_wp2_with fail
    go_ret3
    exact ⟨hv.out.symm, below_two hb1 hb2⟩
  · have hn := use_of_state x ho
    have hv : Hid (Ending.returned (.tuple #[.int .i64 (stateS x), .int .u64 (stateG x), .bool true]) = .returned (.tuple #[.int .i64 (x % 4), .int .u64 (x / 4), .bool true])) := ret_3 (stateS_yes ho) (stateG_yes ho) rfl
    clear ho c0
    have hq : (useI (x % 4) (x / 4) != x) = false := by simp [hn]
    have hn' := Lib.hid hn
    clear hn
    go_enter Try.func126, Try.ntmps126
    go_wp2_with fail
    refine (of_low2 _ _ (by omega) (by omega)).mono ?_
    rintro e w1 ⟨rfl, hb1⟩
    go_wp2_with fail
    refine (of_high2 _ _ (by omega) (by omega)).mono ?_
    rintro e w2 ⟨rfl, hb2⟩
    go_wp2_with fail
    refine (use_any _ _ _ (by omega) (by omega) (by omega) (by omega)).mono ?_
    rintro e w3 ⟨rfl, rfl⟩
    go_wp2_with fail
    go_ret3
    exact ⟨hv.out.symm, below_two hb1 hb2⟩
end Go.Proofs.Ytpmlbdnhgeeaoaa.RefP
