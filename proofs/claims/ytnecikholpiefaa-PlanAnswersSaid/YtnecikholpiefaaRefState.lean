/-
  ref.State, the document's Open and State: contracts, each for every word.
-/
import Derived.Test.YtnecikholpiefaaRefOpen
namespace Go.Proofs.Ytnecikholpiefaa.RefP
open Go.RowKit
set_option linter.unusedVariables false

set_option maxHeartbeats 800000 in
theorem dopen_any (x : Int) (w : World) (h2 : 0 ≤ x) (h3 : x ≤ 18446744073709551615) :
    Calls Try.prog 26 #[.int .u64 x] w fun e w' => e = .returned (.tuple #[.int .i64 (openP x), .int .u64 (openG x), .bool (opensB x)]) ∧ w = w' := by
  cases ho : opensB x
  · have hn := opensB_no ho
    have hv : Hid (Ending.returned (.tuple #[.int .i64 (openP x), .int .u64 (openG x), .bool false]) = .returned (.tuple #[.int .i64 0, .int .u64 0, .bool false])) := ret_3 (openP_no ho) (openG_no ho) rfl
    clear ho
    rcases (show x % 16384 < 1 ∨ (¬ x % 16384 < 1 ∧ 8192 < x % 16384) ∨ (¬ x % 16384 < 1 ∧ ¬ 8192 < x % 16384 ∧ x / 16384 < 1) ∨ (¬ x % 16384 < 1 ∧ ¬ 8192 < x % 16384 ∧ ¬ x / 16384 < 1 ∧ 4294967295 < x / 16384) by omega) with h | ⟨h, k⟩ | ⟨h, k, l⟩ | ⟨h, k, l, m⟩
    all_goals
      clear hn
      go_enter Try.func26, Try.ntmps26
      go_wp2
      go_ret3
      exact ⟨hv.out.symm, rfl⟩
  · have hn := opensB_yes ho
    have hv : Hid (Ending.returned (.tuple #[.int .i64 (openP x), .int .u64 (openG x), .bool true]) = .returned (.tuple #[.int .i64 (x % 16384 - 1), .int .u64 (x / 16384), .bool true])) := ret_3 (openP_yes ho) (openG_yes ho) rfl
    clear ho
    obtain ⟨a, b, c, d⟩ := hn
    go_enter Try.func26, Try.ntmps26
    go_wp2
    go_ret3
    exact ⟨hv.out.symm, rfl⟩

end Go.Proofs.Ytnecikholpiefaa.RefP
