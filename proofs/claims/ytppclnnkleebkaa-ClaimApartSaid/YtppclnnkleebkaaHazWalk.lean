/-
  Chapter 27: the pure functions' contracts.
-/
import Derived.Test.YtppclnnkleebkaaHazPlain
import Derived.Test.YtppclnnkleebkaaWords
import Derived.Test.YtppclnnkleebkaaRefState
import Derived.Test.YtppclnnkleebkaaRefOpen
import Derived.Test.YtppclnnkleebkaaRefWalk
import Derived.Lib.QuietBelow
import Derived.BigQuiet
import Derived.StillTailTactics
import Derived.Deep.DeepCutAuto
namespace Go.Proofs.Ytppclnnkleebkaa.HazP
open Go.RowKit RefP
set_option linter.unusedVariables false
set_option linter.unusedSimpArgs false

set_option maxHeartbeats 800000 in
theorem dnamed_any (a : Option Addr) (c : Nat) (xs : List Int) (x : Int) (w : World) (h : U64s w a xs) :
    Calls Try.prog 14 #[.slice a xs.length c, .int .u64 x] w fun e w' => e = .returned (.bool (memB xs x)) ∧ w = w' := by
  have hlen := h.len
  go_enter Try.func14, Try.ntmps14
  go_wp2_with fail
  go_loop [5] (fun i => ∃ k : Nat, k ≤ xs.length ∧ i = .int .i64 k ∧ noneTo xs x k) (fun i => xs.length - (intOf i).toNat)
  case atStart => exact ⟨0, Nat.zero_le _, rfl, noneTo_zero _ _⟩
  case round =>
    obtain ⟨k, hk, rfl, hno⟩ := hrel
    by_cases hlt : k < xs.length
    · obtain ⟨b, off, rfl, hbl, hc⟩ := h.cell k hlt
      by_cases hx : at0 xs k = x
      · have hm := Lib.hid (memB_at hlt hx)
        have hq : (at0 xs k == x) = true := by simp [hx]
        clear hx hno
        go_wp2_with fail
        go_ret
        exact ⟨ret_bool hm.out.symm, rfl⟩
      · have hno2 := noneTo_succ hno hx
        have hq : (at0 xs k == x) = false := by simp [hx]
        clear hx hno
        go_wp2_with fail
        go_round
        case rel => exact ⟨k + 1, by omega, by go_num, hno2⟩
        case measure => simp [intOf]; omega
    · obtain rfl : k = xs.length := by omega
      have hm := Lib.hid (memB_none hno)
      clear hno
      go_wp2_with fail
      go_ret
      exact ⟨ret_bool hm.out.symm, rfl⟩

set_option maxHeartbeats 800000 in
/-- two rows of the same words -/
theorem same_any (a b : Option Addr) (c d : Nat) (xs : List Int) (w : World) (h : U64s w a xs) (k : U64s w b xs) :
    Calls Try.prog 20 #[.slice a xs.length c, .slice b xs.length d] w fun e w' => e = .returned (.bool true) ∧ Below w.heap.size w w' := by
  have hlen := h.len
  go_enter Try.func20, Try.ntmps20
  go_wp2_with fail
  go_loopw [5] (fun i wr => ∃ k : Nat, k ≤ xs.length ∧ i = .int .i64 k ∧ Below w.heap.size w wr) (fun i _ => xs.length - (intOf i).toNat)
  case atStart => exact ⟨0, Nat.zero_le _, rfl, Below.refl _ _⟩
  case round =>
    obtain ⟨i, hi, rfl, hb⟩ := hrel
    by_cases hlt : i < xs.length
    · obtain ⟨b1, o1, rfl, _, hc1⟩ := (h.below hb).cell i hlt
      obtain ⟨b2, o2, rfl, _, hc2⟩ := (k.below hb).cell i hlt
      have hlt' : (i : Int) < (xs.length : Int) := by omega
      go_upto_region 6 with (fail)
      go_quiet (fail)
      go_wp2_with fail
      go_roundw
      case rel => exact ⟨i + 1, by omega, by go_num, below_drewN hb _⟩
      case measure => simp [intOf]; omega
    · obtain rfl : i = xs.length := by omega
      go_wp2_with fail
      go_ret
      exact ⟨rfl, hb⟩

set_option maxHeartbeats 1600000 in
theorem freed_any (x : Int) (w : World) (h0 : 0 ≤ x) (h1 : x ≤ 18446744073709551615) :
    Calls Try.prog 40 #[.int .u64 x] w fun e w' => e = .returned (.int .u64 (freedI x)) ∧ Below w.heap.size w w' := by
  have hG : 0 ≤ openG x ∧ openG x ≤ 18446744073709551615 := by unfold openG; split <;> omega
  cases ho : opensB x
  · have e := Lib.hid (show freedI x = 18446744073709551615 by simp [freedI, ho])
    have hc := open_any x w h0 h1
    rw [ho] at hc
    clear ho
    go_enter Try.func40, Try.ntmps40
    go_wp2_with fail
    refine hc.mono ?_
    rintro e1 w1 ⟨rfl, hb1⟩
    go_wp2_with fail
    go_ret
    exact ⟨ret_u64 e.out.symm, hb1⟩
  · have hc := open_any x w h0 h1
    rw [ho] at hc
    by_cases c : openG x = 4294967295
    · have e := Lib.hid (show freedI x = useI 2 (openG x) by simp [freedI, ho, c])
      have hq : (openG x == 4294967295) = true := by simpa using c
      clear ho c
      go_enter Try.func40, Try.ntmps40
      go_wp2_with fail
      refine hc.mono ?_
      rintro e1 w1 ⟨rfl, hb1⟩
      go_wp2_with fail
      refine (use_any _ _ _ (by omega) (by omega) hG.1 hG.2).mono ?_
      rintro e2 w2 ⟨rfl, rfl⟩
      go_wp2_with fail
      go_ret
      exact ⟨ret_u64 e.out.symm, hb1⟩
    · have e := Lib.hid (show freedI x = useI 0 (openG x) by simp [freedI, ho, c])
      have hq : (openG x == 4294967295) = false := by simpa using c
      clear ho c
      go_enter Try.func40, Try.ntmps40
      go_wp2_with fail
      refine hc.mono ?_
      rintro e1 w1 ⟨rfl, hb1⟩
      go_wp2_with fail
      refine (use_any _ _ _ (by omega) (by omega) hG.1 hG.2).mono ?_
      rintro e2 w2 ⟨rfl, rfl⟩
      go_wp2_with fail
      go_ret
      exact ⟨ret_u64 e.out.symm, hb1⟩
end Go.Proofs.Ytppclnnkleebkaa.HazP
