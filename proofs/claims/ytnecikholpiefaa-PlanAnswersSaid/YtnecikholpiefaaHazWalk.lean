/-
  Chapter 27: the pure functions' contracts.
-/
import Derived.Test.YtnecikholpiefaaHazPlain
import Derived.Test.YtnecikholpiefaaWords
import Derived.Test.YtnecikholpiefaaRefState
import Derived.Test.YtnecikholpiefaaRefOpen
import Derived.Test.YtnecikholpiefaaRefWalk
import Derived.Lib.QuietBelow
import Derived.BigQuiet
import Derived.StillTailTactics
import Derived.Deep.DeepCutAuto
namespace Go.Proofs.Ytnecikholpiefaa.HazP
open Go.RowKit RefP
set_option linter.unusedVariables false
set_option linter.unusedSimpArgs false

set_option maxHeartbeats 800000 in
theorem dnamed_any (a : Option Addr) (c : Nat) (xs : List Int) (x : Int) (w : World) (h : U64s w a xs) :
    Calls Try.prog 11 #[.slice a xs.length c, .int .u64 x] w fun e w' => e = .returned (.bool (memB xs x)) ∧ w = w' := by
  have hlen := h.len
  go_enter Try.func11, Try.ntmps11
  go_wp2_with fail
  go_loop [5] (fun i => ∃ k : Nat, k ≤ xs.length ∧ i = .int .i64 k ∧ noneTo xs x k) (fun i => xs.length - (intOf i).toNat)
  case atStart => exact ⟨0, Nat.zero_le _, rfl, noneTo_zero _ _⟩
  case round =>
    obtain ⟨k, hk, rfl, hno⟩ := hrel
    by_cases hlt : k < xs.length
    · obtain ⟨b, off, rfl, hbl, hc⟩ := h.cell k hlt
      by_cases hx : at0 xs k = x
      · have hm := Lib.hid (memB_at hlt hx)
        have hq : (at0 xs k == x) = true := by simp [hx]
        clear hx hno
        go_wp2_with fail
        go_ret
        exact ⟨ret_bool hm.out.symm, rfl⟩
      · have hno2 := noneTo_succ hno hx
        have hq : (at0 xs k == x) = false := by simp [hx]
        clear hx hno
        go_wp2_with fail
        go_round
        case rel => exact ⟨k + 1, by omega, by go_num, hno2⟩
        case measure => simp [intOf]; omega
    · obtain rfl : k = xs.length := by omega
      have hm := Lib.hid (memB_none hno)
      clear hno
      go_wp2_with fail
      go_ret
      exact ⟨ret_bool hm.out.symm, rfl⟩

set_option maxHeartbeats 800000 in
/-- two rows of the same words -/
theorem same_any (a b : Option Addr) (c d : Nat) (xs : List Int) (w : World) (h : U64s w a xs) (k : U64s w b xs) :
    Calls Try.prog 12 #[.slice a xs.length c, .slice b xs.length d] w fun e w' => e = .returned (.bool true) ∧ Below w.heap.size w w' := by
  have hlen := h.len
  go_enter Try.func12, Try.ntmps12
  go_wp2_with fail
  go_loopw [5] (fun i wr => ∃ k : Nat, k ≤ xs.length ∧ i = .int .i64 k ∧ Below w.heap.size w wr) (fun i _ => xs.length - (intOf i).toNat)
  case atStart => exact ⟨0, Nat.zero_le _, rfl, Below.refl _ _⟩
  case round =>
    obtain ⟨i, hi, rfl, hb⟩ := hrel
    by_cases hlt : i < xs.length
    · obtain ⟨b1, o1, rfl, _, hc1⟩ := (h.below hb).cell i hlt
      obtain ⟨b2, o2, rfl, _, hc2⟩ := (k.below hb).cell i hlt
      have hlt' : (i : Int) < (xs.length : Int) := by omega
      go_upto_region 6 with (fail)
      go_quiet (fail)
      go_wp2_with fail
      go_roundw
      case rel => exact ⟨i + 1, by omega, by go_num, below_drewN hb _⟩
      case measure => simp [intOf]; omega
    · obtain rfl : i = xs.length := by omega
      go_wp2_with fail
      go_ret
      exact ⟨rfl, hb⟩

end Go.Proofs.Ytnecikholpiefaa.HazP
