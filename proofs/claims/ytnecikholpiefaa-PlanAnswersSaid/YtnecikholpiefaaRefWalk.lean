/-
  What the functions of package ref, and the document's, compute: contracts, each for every argument.
-/
import Derived.Test.YtnecikholpiefaaRows
import Derived.Test.YtnecikholpiefaaRefPlain
import Derived.Test.YtnecikholpiefaaAid
import Derived.WalkKit
import Derived.WalkLawsBesides
import Derived.WalkSpells
import Derived.Outline
import Derived.Lib.Hide
import Derived.Deep.QuietTactic
import Derived.BigQuiet
namespace Go.Proofs.Ytnecikholpiefaa.RefP
open Go.RowKit
set_option linter.unusedVariables false

set_option maxHeartbeats 800000 in
theorem pack_any (p g : Int) (w : World) (h0 : -9223372036854775808 ≤ p) (h1 : p ≤ 9223372036854775807) (h2 : 0 ≤ g) (h3 : g ≤ 18446744073709551615) :
    Calls Try.prog 34 #[.int .i64 p, .int .u64 g] w fun e w' => e = .returned (.int .u64 (packI p g)) ∧ w = w' := by
  by_cases c1 : p < 0
  · rw [packI_no p g (by omega)]
    go_enter Try.func34, Try.ntmps34
    go_wp2
    go_ret
    exact ⟨rfl, rfl⟩
  by_cases c2 : 8192 ≤ p
  · rw [packI_no p g (by omega)]
    go_enter Try.func34, Try.ntmps34
    go_wp2
    go_ret
    exact ⟨rfl, rfl⟩
  by_cases c3 : g < 1
  · rw [packI_no p g (by omega)]
    go_enter Try.func34, Try.ntmps34
    go_wp2
    go_ret
    exact ⟨rfl, rfl⟩
  by_cases c4 : 4294967295 < g
  · rw [packI_no p g (by omega)]
    go_enter Try.func34, Try.ntmps34
    go_wp2
    go_ret
    exact ⟨rfl, rfl⟩
  rw [packI_yes p g (by omega) (by omega) (by omega) (by omega)]
  go_enter Try.func34, Try.ntmps34
  go_wp2
  go_ret
  exact ⟨ret_u64 (pack_bits p g (by omega) (by omega) (by omega) (by omega)), rfl⟩

set_option maxHeartbeats 800000 in
theorem dpack_any (p g : Int) (w : World) (h0 : -9223372036854775808 ≤ p) (h1 : p ≤ 9223372036854775807) (h2 : 0 ≤ g) (h3 : g ≤ 18446744073709551615) :
    Calls Try.prog 20 #[.int .i64 p, .int .u64 g] w fun e w' => e = .returned (.int .u64 (packI p g)) ∧ w = w' := by
  by_cases c1 : p < 0
  · rw [packI_no p g (by omega)]
    go_enter Try.func20, Try.ntmps20
    go_wp2
    go_ret
    exact ⟨rfl, rfl⟩
  by_cases c2 : 8192 ≤ p
  · rw [packI_no p g (by omega)]
    go_enter Try.func20, Try.ntmps20
    go_wp2
    go_ret
    exact ⟨rfl, rfl⟩
  by_cases c3 : g < 1
  · rw [packI_no p g (by omega)]
    go_enter Try.func20, Try.ntmps20
    go_wp2
    go_ret
    exact ⟨rfl, rfl⟩
  by_cases c4 : 4294967295 < g
  · rw [packI_no p g (by omega)]
    go_enter Try.func20, Try.ntmps20
    go_wp2
    go_ret
    exact ⟨rfl, rfl⟩
  rw [packI_yes p g (by omega) (by omega) (by omega) (by omega)]
  go_enter Try.func20, Try.ntmps20
  go_wp2
  go_ret
  exact ⟨rfl, rfl⟩

/-! a word's bits -/

theorem bits_low14 (x : Int) (h2 : 0 ≤ x) (h3 : x ≤ 18446744073709551615) : IntKind.u64.wrap (x * 1125899906842624) / 1125899906842624 = x % 16384 := by
  rw [wrap_u64]; omega
set_option maxHeartbeats 800000 in
theorem of_low14 (x : Int) (w : World) (h2 : 0 ≤ x) (h3 : x ≤ 18446744073709551615) :
    Calls Try.prog 33 #[.agg #[.int .i64 0, .int .i64 14], .int .u64 x] w fun e w' => e = .returned (.int .u64 (x % 16384)) ∧ Below w.heap.size w w' := by
  go_enter Try.func33, Try.ntmps33
  go_wp2
  go_quiet (fail)
  go_wp2
  go_ret
  exact ⟨ret_u64 (bits_low14 x h2 h3), below_box _ _ _⟩

theorem bits_high14 (x : Int) (h2 : 0 ≤ x) (h3 : x ≤ 18446744073709551615) : x / 16384 = x / 16384 := by
  rfl
set_option maxHeartbeats 800000 in
theorem of_high14 (x : Int) (w : World) (h2 : 0 ≤ x) (h3 : x ≤ 18446744073709551615) :
    Calls Try.prog 33 #[.agg #[.int .i64 14, .int .i64 64], .int .u64 x] w fun e w' => e = .returned (.int .u64 (x / 16384)) ∧ Below w.heap.size w w' := by
  go_enter Try.func33, Try.ntmps33
  go_wp2
  go_quiet (fail)
  go_wp2
  go_ret
  exact ⟨ret_u64 (bits_high14 x h2 h3), below_box _ _ _⟩

theorem bits_low2 (x : Int) (h2 : 0 ≤ x) (h3 : x ≤ 18446744073709551615) : IntKind.u64.wrap (x * 4611686018427387904) / 4611686018427387904 = x % 4 := by
  rw [wrap_u64]; omega
set_option maxHeartbeats 800000 in
theorem of_low2 (x : Int) (w : World) (h2 : 0 ≤ x) (h3 : x ≤ 18446744073709551615) :
    Calls Try.prog 33 #[.agg #[.int .i64 0, .int .i64 2], .int .u64 x] w fun e w' => e = .returned (.int .u64 (x % 4)) ∧ Below w.heap.size w w' := by
  go_enter Try.func33, Try.ntmps33
  go_wp2
  go_quiet (fail)
  go_wp2
  go_ret
  exact ⟨ret_u64 (bits_low2 x h2 h3), below_box _ _ _⟩

theorem bits_high2 (x : Int) (h2 : 0 ≤ x) (h3 : x ≤ 18446744073709551615) : x / 4 = x / 4 := by
  rfl
set_option maxHeartbeats 800000 in
theorem of_high2 (x : Int) (w : World) (h2 : 0 ≤ x) (h3 : x ≤ 18446744073709551615) :
    Calls Try.prog 33 #[.agg #[.int .i64 2, .int .i64 64], .int .u64 x] w fun e w' => e = .returned (.int .u64 (x / 4)) ∧ Below w.heap.size w w' := by
  go_enter Try.func33, Try.ntmps33
  go_wp2
  go_quiet (fail)
  go_wp2
  go_ret
  exact ⟨ret_u64 (bits_high2 x h2 h3), below_box _ _ _⟩

theorem bits_low56 (x : Int) (h2 : 0 ≤ x) (h3 : x ≤ 18446744073709551615) : IntKind.u64.wrap (x * 256) / 256 = x % 72057594037927936 := by
  rw [wrap_u64]; omega
set_option maxHeartbeats 800000 in
theorem of_low56 (x : Int) (w : World) (h2 : 0 ≤ x) (h3 : x ≤ 18446744073709551615) :
    Calls Try.prog 33 #[.agg #[.int .i64 0, .int .i64 56], .int .u64 x] w fun e w' => e = .returned (.int .u64 (x % 72057594037927936)) ∧ Below w.heap.size w w' := by
  go_enter Try.func33, Try.ntmps33
  go_wp2
  go_quiet (fail)
  go_wp2
  go_ret
  exact ⟨ret_u64 (bits_low56 x h2 h3), below_box _ _ _⟩

theorem bits_mid56 (x : Int) (h2 : 0 ≤ x) (h3 : x ≤ 18446744073709551615) : IntKind.u64.wrap (x * 4) / 288230376151711744 = x % 4611686018427387904 / 72057594037927936 := by
  rw [wrap_u64]; omega
set_option maxHeartbeats 800000 in
theorem of_mid56 (x : Int) (w : World) (h2 : 0 ≤ x) (h3 : x ≤ 18446744073709551615) :
    Calls Try.prog 33 #[.agg #[.int .i64 56, .int .i64 62], .int .u64 x] w fun e w' => e = .returned (.int .u64 (x % 4611686018427387904 / 72057594037927936)) ∧ Below w.heap.size w w' := by
  go_enter Try.func33, Try.ntmps33
  go_wp2
  go_quiet (fail)
  go_wp2
  go_ret
  exact ⟨ret_u64 (bits_mid56 x h2 h3), below_box _ _ _⟩

theorem bits_high62 (x : Int) (h2 : 0 ≤ x) (h3 : x ≤ 18446744073709551615) : x / 4611686018427387904 = x / 4611686018427387904 := by
  rfl
set_option maxHeartbeats 800000 in
theorem of_high62 (x : Int) (w : World) (h2 : 0 ≤ x) (h3 : x ≤ 18446744073709551615) :
    Calls Try.prog 33 #[.agg #[.int .i64 62, .int .i64 64], .int .u64 x] w fun e w' => e = .returned (.int .u64 (x / 4611686018427387904)) ∧ Below w.heap.size w w' := by
  go_enter Try.func33, Try.ntmps33
  go_wp2
  go_quiet (fail)
  go_wp2
  go_ret
  exact ⟨ret_u64 (bits_high62 x h2 h3), below_box _ _ _⟩
end Go.Proofs.Ytnecikholpiefaa.RefP
