/-
  Chapter 27: the pure functions' contracts.
-/
import Derived.Test.YtchkiacmiljopaaHazPlain
import Derived.Test.YtchkiacmiljopaaWords
import Derived.Test.YtchkiacmiljopaaRefState
import Derived.Test.YtchkiacmiljopaaRefOpen
import Derived.Test.YtchkiacmiljopaaRefWalk
import Derived.Lib.QuietBelow
import Derived.BigQuiet
import Derived.StillTailTactics
import Derived.Deep.DeepCutAuto
namespace Go.Proofs.Ytchkiacmiljopaa.HazP
open Go.RowKit RefP
set_option linter.unusedVariables false
set_option linter.unusedSimpArgs false

set_option maxHeartbeats 800000 in
theorem index_any (a : Option Addr) (c : Nat) (xs : List Int) (x : Int) (w : World) (h : U64s w a xs) :
    Calls Try.prog 68 #[.slice a xs.length c, .int .u64 x] w fun e w' => (∃ r : Int, e = .returned (.int .i64 r) ∧ decide (0 ≤ r) = memB xs x) ∧ w = w' := by
  have hlen := h.len
  go_enter Try.func68, Try.ntmps68
  go_wp2_with fail
  go_loop [8] (fun i => ∃ k : Nat, k ≤ xs.length ∧ i = .int .i64 k ∧ noneTo xs x k) (fun i => xs.length - (intOf i).toNat)
  case atStart => exact ⟨0, Nat.zero_le _, rfl, noneTo_zero _ _⟩
  case round =>
    obtain ⟨k, hk, rfl, hno⟩ := hrel
    by_cases hlt : k < xs.length
    · obtain ⟨b, off, rfl, hbl, hc⟩ := h.cell k hlt
      by_cases hx : at0 xs k = x
      · have hm := Lib.hid (memB_at hlt hx)
        have hq : (x == at0 xs k) = true := by simp [hx]
        clear hx hno
        go_wp2_with fail
        go_ret
        refine ⟨⟨_, rfl, ?_⟩, rfl⟩
        rw [hm.out]; simp
      · have hno2 := noneTo_succ hno hx
        have hq : (x == at0 xs k) = false := by simp; exact fun e => hx e.symm
        clear hx hno
        go_wp2_with fail
        go_round
        case rel => exact ⟨k + 1, by omega, by go_num, hno2⟩
        case measure => simp [intOf]; omega
    · obtain rfl : k = xs.length := by omega
      have hm := Lib.hid (memB_none hno)
      clear hno
      go_wp2_with fail
      go_ret
      refine ⟨⟨_, rfl, ?_⟩, rfl⟩
      rw [hm.out]; simp

theorem contains_any (a : Option Addr) (c : Nat) (xs : List Int) (x : Int) (w : World) (h : U64s w a xs) :
    Calls Try.prog 67 #[.slice a xs.length c, .int .u64 x] w fun e w' => e = .returned (.bool (memB xs x)) ∧ w = w' := by
  go_enter Try.func67, Try.ntmps67
  go_wp2_with fail
  refine (index_any _ _ _ _ _ h).mono ?_
  rintro e w1 ⟨⟨r, rfl, hr⟩, rfl⟩
  go_wp2_with fail
  go_ret
  exact ⟨rfl, rfl⟩
theorem named_any (a : Option Addr) (c : Nat) (xs : List Int) (x : Int) (w : World) (h : U64s w a xs) :
    Calls Try.prog 64 #[.slice a xs.length c, .int .u64 x] w fun e w' => e = .returned (.bool (memB xs x)) ∧ w = w' := by
  go_enter Try.func64, Try.ntmps64
  go_wp2_with fail
  refine (contains_any _ _ _ _ _ h).mono ?_
  rintro e w1 ⟨rfl, rfl⟩
  go_wp2_with fail
  go_ret
  exact ⟨rfl, rfl⟩
set_option maxHeartbeats 800000 in
theorem dnamed_any (a : Option Addr) (c : Nat) (xs : List Int) (x : Int) (w : World) (h : U64s w a xs) :
    Calls Try.prog 25 #[.slice a xs.length c, .int .u64 x] w fun e w' => e = .returned (.bool (memB xs x)) ∧ w = w' := by
  have hlen := h.len
  go_enter Try.func25, Try.ntmps25
  go_wp2_with fail
  go_loop [5] (fun i => ∃ k : Nat, k ≤ xs.length ∧ i = .int .i64 k ∧ noneTo xs x k) (fun i => xs.length - (intOf i).toNat)
  case atStart => exact ⟨0, Nat.zero_le _, rfl, noneTo_zero _ _⟩
  case round =>
    obtain ⟨k, hk, rfl, hno⟩ := hrel
    by_cases hlt : k < xs.length
    · obtain ⟨b, off, rfl, hbl, hc⟩ := h.cell k hlt
      by_cases hx : at0 xs k = x
      · have hm := Lib.hid (memB_at hlt hx)
        have hq : (at0 xs k == x) = true := by simp [hx]
        clear hx hno
        go_wp2_with fail
        go_ret
        exact ⟨ret_bool hm.out.symm, rfl⟩
      · have hno2 := noneTo_succ hno hx
        have hq : (at0 xs k == x) = false := by simp [hx]
        clear hx hno
        go_wp2_with fail
        go_round
        case rel => exact ⟨k + 1, by omega, by go_num, hno2⟩
        case measure => simp [intOf]; omega
    · obtain rfl : k = xs.length := by omega
      have hm := Lib.hid (memB_none hno)
      clear hno
      go_wp2_with fail
      go_ret
      exact ⟨ret_bool hm.out.symm, rfl⟩

set_option maxHeartbeats 800000 in
/-- two rows of the same words -/
theorem same_any (a b : Option Addr) (c d : Nat) (xs : List Int) (w : World) (h : U64s w a xs) (k : U64s w b xs) :
    Calls Try.prog 21 #[.slice a xs.length c, .slice b xs.length d] w fun e w' => e = .returned (.bool true) ∧ Below w.heap.size w w' := by
  have hlen := h.len
  go_enter Try.func21, Try.ntmps21
  go_wp2_with fail
  go_loopw [5] (fun i wr => ∃ k : Nat, k ≤ xs.length ∧ i = .int .i64 k ∧ Below w.heap.size w wr) (fun i _ => xs.length - (intOf i).toNat)
  case atStart => exact ⟨0, Nat.zero_le _, rfl, Below.refl _ _⟩
  case round =>
    obtain ⟨i, hi, rfl, hb⟩ := hrel
    by_cases hlt : i < xs.length
    · obtain ⟨b1, o1, rfl, _, hc1⟩ := (h.below hb).cell i hlt
      obtain ⟨b2, o2, rfl, _, hc2⟩ := (k.below hb).cell i hlt
      have hlt' : (i : Int) < (xs.length : Int) := by omega
      go_upto_region 6 with (fail)
      go_quiet (fail)
      go_wp2_with fail
      go_roundw
      case rel => exact ⟨i + 1, by omega, by go_num, below_drewN hb _⟩
      case measure => simp [intOf]; omega
    · obtain rfl : i = xs.length := by omega
      go_wp2_with fail
      go_ret
      exact ⟨rfl, hb⟩

set_option maxHeartbeats 1600000 in
theorem room_any (t r : Int) (w : World) (t0 : -9223372036854775808 ≤ t) (t1 : t ≤ 9223372036854775807) (r0 : -9223372036854775808 ≤ r) (r1 : r ≤ 9223372036854775807) :
    Calls Try.prog 18 #[.int .i64 t, .int .i64 r] w fun e w' => e = .returned (.int .i64 (roomI t r)) ∧ w = w' := by
  by_cases c1 : t < 1
  · have e := Lib.hid (show roomI t r = 0 from if_pos (by omega))
    have d1 : decide (t < 1) = true := by simpa using c1
    clear c1
    go_enter Try.func18, Try.ntmps18
    go_wp2_with fail
    go_ret
    exact ⟨ret_int e.out.symm, rfl⟩
  have d1 : decide (t < 1) = false := by simpa using c1
  by_cases c2 : 16 < t
  · have e := Lib.hid (show roomI t r = 0 from if_pos (by omega))
    have d2 : decide (16 < t) = true := by simpa using c2
    clear c1 c2
    go_enter Try.func18, Try.ntmps18
    go_wp2_with fail
    go_ret
    exact ⟨ret_int e.out.symm, rfl⟩
  have d2 : decide (16 < t) = false := by simpa using c2
  by_cases c3 : r < 1
  · have e := Lib.hid (show roomI t r = 0 from if_pos (by omega))
    have d3 : decide (r < 1) = true := by simpa using c3
    clear c1 c2 c3
    go_enter Try.func18, Try.ntmps18
    go_wp2_with fail
    go_ret
    exact ⟨ret_int e.out.symm, rfl⟩
  have d3 : decide (r < 1) = false := by simpa using c3
  by_cases c4 : 1024 < r
  · have e := Lib.hid (show roomI t r = 0 from if_pos (by omega))
    have d4 : decide (1024 < r) = true := by simpa using c4
    clear c1 c2 c3 c4
    go_enter Try.func18, Try.ntmps18
    go_wp2_with fail
    go_ret
    exact ⟨ret_int e.out.symm, rfl⟩
  have d4 : decide (1024 < r) = false := by simpa using c4
  have e := Lib.hid (show roomI t r = t * 2 + r from if_neg (by omega))
  have b1 : 1 ≤ t := by omega
  have b2 : t ≤ 16 := by omega
  have b3 : 1 ≤ r := by omega
  have b4 : r ≤ 1024 := by omega
  clear c1 c2 c3 c4
  go_enter Try.func18, Try.ntmps18
  go_wp2_with fail
  go_ret
  exact ⟨ret_int (e.out.symm), rfl⟩
set_option maxHeartbeats 1600000 in
theorem freed_any (x : Int) (w : World) (h0 : 0 ≤ x) (h1 : x ≤ 18446744073709551615) :
    Calls Try.prog 33 #[.int .u64 x] w fun e w' => e = .returned (.int .u64 (freedI x)) ∧ Below w.heap.size w w' := by
  have hG : 0 ≤ openG x ∧ openG x ≤ 18446744073709551615 := by unfold openG; split <;> omega
  cases ho : opensB x
  · have e := Lib.hid (show freedI x = 18446744073709551615 by simp [freedI, ho])
    have hc := open_any x w h0 h1
    rw [ho] at hc
    clear ho
    go_enter Try.func33, Try.ntmps33
    go_wp2_with fail
    refine hc.mono ?_
    rintro e1 w1 ⟨rfl, hb1⟩
    go_wp2_with fail
    go_ret
    exact ⟨ret_u64 e.out.symm, hb1⟩
  · have hc := open_any x w h0 h1
    rw [ho] at hc
    by_cases c : openG x = 4294967295
    · have e := Lib.hid (show freedI x = useI 2 (openG x) by simp [freedI, ho, c])
      have hq : (openG x == 4294967295) = true := by simpa using c
      clear ho c
      go_enter Try.func33, Try.ntmps33
      go_wp2_with fail
      refine hc.mono ?_
      rintro e1 w1 ⟨rfl, hb1⟩
      go_wp2_with fail
      refine (use_any _ _ _ (by omega) (by omega) hG.1 hG.2).mono ?_
      rintro e2 w2 ⟨rfl, rfl⟩
      go_wp2_with fail
      go_ret
      exact ⟨ret_u64 e.out.symm, hb1⟩
    · have e := Lib.hid (show freedI x = useI 0 (openG x) by simp [freedI, ho, c])
      have hq : (openG x == 4294967295) = false := by simpa using c
      clear ho c
      go_enter Try.func33, Try.ntmps33
      go_wp2_with fail
      refine hc.mono ?_
      rintro e1 w1 ⟨rfl, hb1⟩
      go_wp2_with fail
      refine (use_any _ _ _ (by omega) (by omega) hG.1 hG.2).mono ?_
      rintro e2 w2 ⟨rfl, rfl⟩
      go_wp2_with fail
      go_ret
      exact ⟨ret_u64 e.out.symm, hb1⟩
end Go.Proofs.Ytchkiacmiljopaa.HazP
