/-
  ref.State, the document's Open and State: contracts, each for every word.
-/
import Derived.Test.YtppclnnkleebkaaRefOpen
namespace Go.Proofs.Ytppclnnkleebkaa.RefP
open Go.RowKit
set_option linter.unusedVariables false

set_option maxHeartbeats 800000 in
theorem state_any (x : Int) (w : World) (h2 : 0 ≤ x) (h3 : x ≤ 18446744073709551615) :
    Calls Try.prog 27 #[.int .u64 x] w fun e w' => e = .returned (.tuple #[.int .i64 (stateS x), .int .u64 (stateG x), .bool (statesB x)]) ∧ Below w.heap.size w w' := by
  by_cases c0 : x = 18446744073709551615
  · subst c0
    have ho := statesB_top
    have hv : Hid (Ending.returned (.tuple #[.int .i64 (stateS 18446744073709551615), .int .u64 (stateG 18446744073709551615), .bool (statesB 18446744073709551615)]) = .returned (.tuple #[.int .i64 0, .int .u64 0, .bool false])) := ret_3 (stateS_no ho) (stateG_no ho) ho
    clear ho
    go_enter Try.func27, Try.ntmps27
    go_wp2_with fail
    refine (of_low2 _ _ (by omega) (by omega)).mono ?_
    rintro e w1 ⟨rfl, hb1⟩
    go_wp2_with fail
    refine (of_high2 _ _ (by omega) (by omega)).mono ?_
    rintro e w2 ⟨rfl, hb2⟩
    go_wp2_with fail
    go_ret3
    exact ⟨hv.out.symm, below_two hb1 hb2⟩
  have hz : (x == 18446744073709551615) = false := by simpa using c0
  cases ho : statesB x
  · have hn := use_not_state x c0 ho
    have hv : Hid (Ending.returned (.tuple #[.int .i64 (stateS x), .int .u64 (stateG x), .bool false]) = .returned (.tuple #[.int .i64 0, .int .u64 0, .bool false])) := ret_3 (stateS_no ho) (stateG_no ho) rfl
    clear ho c0
    have hq : (useI (x % 4) (x / 4) != x) = true := by simpa using hn
    go_enter Try.func27, Try.ntmps27
    go_wp2_with fail
    refine (of_low2 _ _ (by omega) (by omega)).mono ?_
    rintro e w1 ⟨rfl, hb1⟩
    go_wp2_with fail
    refine (of_high2 _ _ (by omega) (by omega)).mono ?_
    rintro e w2 ⟨rfl, hb2⟩
    go_wp2_with fail
    refine (use_any _ _ _ (by omega) (by omega) (by omega) (by omega)).mono ?_
    rintro e w3 ⟨rfl, rfl⟩
    go_wp2_with fail
    go_ret3
    exact ⟨hv.out.symm, below_two hb1 hb2⟩
  · have hn := use_of_state x ho
    have hv : Hid (Ending.returned (.tuple #[.int .i64 (stateS x), .int .u64 (stateG x), .bool true]) = .returned (.tuple #[.int .i64 (x % 4), .int .u64 (x / 4), .bool true])) := ret_3 (stateS_yes ho) (stateG_yes ho) rfl
    clear ho c0
    have hq : (useI (x % 4) (x / 4) != x) = false := by simp [hn]
    have hn' := Lib.hid hn
    clear hn
    go_enter Try.func27, Try.ntmps27
    go_wp2_with fail
    refine (of_low2 _ _ (by omega) (by omega)).mono ?_
    rintro e w1 ⟨rfl, hb1⟩
    go_wp2_with fail
    refine (of_high2 _ _ (by omega) (by omega)).mono ?_
    rintro e w2 ⟨rfl, hb2⟩
    go_wp2_with fail
    refine (use_any _ _ _ (by omega) (by omega) (by omega) (by omega)).mono ?_
    rintro e w3 ⟨rfl, rfl⟩
    go_wp2_with fail
    go_ret3
    exact ⟨hv.out.symm, below_two hb1 hb2⟩
end Go.Proofs.Ytppclnnkleebkaa.RefP
