/-
  ref.Open, ref.State and the document's: contracts, each for every word.
-/
import Derived.Test.YtnecikholpiefaaRefWalk
namespace Go.Proofs.Ytnecikholpiefaa.RefP
open Go.RowKit
set_option linter.unusedVariables false

set_option maxHeartbeats 800000 in
theorem open_any (x : Int) (w : World) (h2 : 0 ≤ x) (h3 : x ≤ 18446744073709551615) :
    Calls Try.prog 30 #[.int .u64 x] w fun e w' => e = .returned (.tuple #[.int .i64 (openP x), .int .u64 (openG x), .bool (opensB x)]) ∧ Below w.heap.size w w' := by
  by_cases c0 : x = 0
  · subst c0
    go_enter Try.func30, Try.ntmps30
    go_wp2_with fail
    refine (of_low14 0 _ (by omega) (by omega)).mono ?_
    rintro e w1 ⟨rfl, hb1⟩
    go_wp2_with fail
    refine (of_high14 0 _ (by omega) (by omega)).mono ?_
    rintro e w2 ⟨rfl, hb2⟩
    go_wp2_with fail
    go_ret3
    exact ⟨rfl, below_two hb1 hb2⟩
  have hz : (x == 0) = false := by simpa using c0
  cases ho : opensB x
  · have hn := pack_not_open x h2 c0 ho
    have hv : Hid (Ending.returned (.tuple #[.int .i64 (openP x), .int .u64 (openG x), .bool false]) = .returned (.tuple #[.int .i64 0, .int .u64 0, .bool false])) := ret_3 (openP_no ho) (openG_no ho) rfl
    clear ho c0
    have hq : (packI (x % 16384 - 1) (x / 16384) != x) = true := by simpa using hn
    go_enter Try.func30, Try.ntmps30
    go_wp2_with fail
    refine (of_low14 x _ (by omega) (by omega)).mono ?_
    rintro e w1 ⟨rfl, hb1⟩
    go_wp2_with fail
    refine (of_high14 x _ (by omega) (by omega)).mono ?_
    rintro e w2 ⟨rfl, hb2⟩
    go_wp2_with fail
    refine (pack_any _ _ _ (by omega) (by omega) (by omega) (by omega)).mono ?_
    rintro e w3 ⟨rfl, rfl⟩
    go_wp2_with fail
    go_ret3
    exact ⟨hv.out.symm, below_two hb1 hb2⟩
  · have hn := pack_of_open x ho
    have hv : Hid (Ending.returned (.tuple #[.int .i64 (openP x), .int .u64 (openG x), .bool true]) = .returned (.tuple #[.int .i64 (x % 16384 - 1), .int .u64 (x / 16384), .bool true])) := ret_3 (openP_yes ho) (openG_yes ho) rfl
    clear ho c0
    have hq : (packI (x % 16384 - 1) (x / 16384) != x) = false := by simp [hn]
    have hn' := Lib.hid hn
    clear hn
    go_enter Try.func30, Try.ntmps30
    go_wp2_with fail
    refine (of_low14 x _ (by omega) (by omega)).mono ?_
    rintro e w1 ⟨rfl, hb1⟩
    go_wp2_with fail
    refine (of_high14 x _ (by omega) (by omega)).mono ?_
    rintro e w2 ⟨rfl, hb2⟩
    go_wp2_with fail
    refine (pack_any _ _ _ (by omega) (by omega) (by omega) (by omega)).mono ?_
    rintro e w3 ⟨rfl, rfl⟩
    go_wp2_with fail
    go_ret3
    exact ⟨hv.out.symm, below_two hb1 hb2⟩
end Go.Proofs.Ytnecikholpiefaa.RefP
