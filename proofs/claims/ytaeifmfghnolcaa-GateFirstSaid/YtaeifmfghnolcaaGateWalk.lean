/-
  gate.After, gate.Ahead and the document's: contracts.
-/
import Derived.Test.YtaeifmfghnolcaaRows
import Derived.Test.YtaeifmfghnolcaaAid
import Derived.Test.YtaeifmfghnolcaaGatePlain
import Derived.WalkLawsBesides
import Derived.WalkSpells
import Derived.Outline
import Derived.BigQuiet
import Derived.LoopTactic
import Derived.Lib.MinMax
namespace Go.Proofs.Ytaeifmfghnolcaa.GateP
open Go.RowKit RefP
set_option linter.unusedVariables false
set_option linter.unusedSimpArgs false
theorem ret_after {xs : List Int} : Hid (maxL xs = 18446744073709551615 → afterI xs = maxL xs) ∧ Hid (maxL xs ≠ 18446744073709551615 → afterI xs = maxL xs + 1) :=
  ⟨fun h => if_pos h, fun h => if_neg h⟩
set_option maxHeartbeats 800000 in
theorem after_any (a : Option Addr) (c : Nat) (xs : List Int) (w : World) (h : U64s w a xs) :
    Calls Try.prog 14 #[.slice a xs.length c] w fun e w' => e = .returned (.int .u64 (afterI xs)) ∧ w = w' := by
  have hlen := h.len
  go_enter Try.func14, Try.ntmps14
  go_wp2_with fail
  go_loop [3, 8] (fun t i => ∃ k : Nat, k ≤ xs.length ∧ i = .int .i64 k ∧ t = .int .u64 (maxL (xs.take k))) (fun _ i => xs.length - (intOf i).toNat)
  case atStart => exact ⟨0, Nat.zero_le _, rfl, rfl⟩
  case round =>
    obtain ⟨k, hk, rfl, rfl⟩ := hrel
    by_cases hlt : k < xs.length
    · obtain ⟨b, off, rfl, hbl, hc⟩ := h.cell k hlt
      have HS := Lib.hid (maxL_snoc xs k hlt)
      go_wp2_with fail
      go_round
      case rel => exact ⟨k + 1, by omega, by go_num, by rw [HS.out]⟩
      case measure => simp [intOf]; omega
    · obtain rfl : k = xs.length := by omega
      clear hlt hk
      rw [List.take_length]
      have r2 := maxL_lo xs
      have r3 := maxL_hi xs h.rng
      by_cases c1 : maxL xs = 18446744073709551615
      · have e := Lib.hid (if_pos c1 : afterI xs = maxL xs)
        have hq : (maxL xs == 18446744073709551615) = true := by simpa using c1
        clear c1
        go_wp2_with fail
        go_ret
        exact ⟨ret_u64 e.out.symm, rfl⟩
      · have e := Lib.hid (if_neg c1 : afterI xs = maxL xs + 1)
        have hq : (maxL xs == 18446744073709551615) = false := by simpa using c1
        have hlt2 : maxL xs < 18446744073709551615 := by omega
        clear c1
        go_wp2_with fail
        go_ret
        exact ⟨ret_u64 e.out.symm, rfl⟩

set_option maxHeartbeats 800000 in
theorem dafter_any (a : Option Addr) (c : Nat) (xs : List Int) (w : World) (h : U64s w a xs) :
    Calls Try.prog 15 #[.slice a xs.length c] w fun e w' => e = .returned (.int .u64 (afterI xs)) ∧ w = w' := by
  have hlen := h.len
  go_enter Try.func15, Try.ntmps15
  go_wp2_with fail
  go_loop [3, 4] (fun t i => ∃ k : Nat, k ≤ xs.length ∧ i = .int .i64 k ∧ t = .int .u64 (maxL (xs.take k))) (fun _ i => xs.length - (intOf i).toNat)
  case atStart => exact ⟨0, Nat.zero_le _, rfl, rfl⟩
  case round =>
    obtain ⟨k, hk, rfl, rfl⟩ := hrel
    by_cases hlt : k < xs.length
    · obtain ⟨b, off, rfl, hbl, hc⟩ := h.cell k hlt
      by_cases hgt : maxL (xs.take k) < at0 xs k
      · have HS := Lib.hid (show maxL (xs.take (k + 1)) = at0 xs k by rw [maxL_snoc xs k hlt]; omega)
        go_wp2_with fail
        go_round
        case rel => exact ⟨k + 1, by omega, by go_num, by rw [HS.out]⟩
        case measure => simp [intOf]; omega
      · have HS := Lib.hid (show maxL (xs.take (k + 1)) = maxL (xs.take k) by rw [maxL_snoc xs k hlt]; omega)
        go_wp2_with fail
        go_round
        case rel => exact ⟨k + 1, by omega, by go_num, by rw [HS.out]⟩
        case measure => simp [intOf]; omega
    · obtain rfl : k = xs.length := by omega
      clear hlt hk
      rw [List.take_length]
      have r2 := maxL_lo xs
      have r3 := maxL_hi xs h.rng
      by_cases c1 : maxL xs = 18446744073709551615
      · have e := Lib.hid (if_pos c1 : afterI xs = maxL xs)
        have hq : (maxL xs == 18446744073709551615) = true := by simpa using c1
        clear c1
        go_wp2_with fail
        go_ret
        exact ⟨ret_u64 e.out.symm, rfl⟩
      · have e := Lib.hid (if_neg c1 : afterI xs = maxL xs + 1)
        have hq : (maxL xs == 18446744073709551615) = false := by simpa using c1
        have hlt2 : maxL xs < 18446744073709551615 := by omega
        clear c1
        go_wp2_with fail
        go_ret
        exact ⟨ret_u64 e.out.symm, rfl⟩

theorem aheadB_def (t p u q : Int) : aheadB t p u q = decide (p < q ∨ p = q ∧ t < u) := rfl
set_option maxHeartbeats 800000 in
theorem ahead_any (t p u q : Int) (w : World) :
    Calls Try.prog 16 #[.agg #[.int .i64 t, .int .u64 p], .agg #[.int .i64 u, .int .u64 q]] w fun e w' => e = .returned (.bool (aheadB t p u q)) ∧ Below w.heap.size w w' := by
  by_cases c : p = q
  · have e : Hid (aheadB t p u q = decide (t < u)) := by simp [Hid, aheadB, c]
    have hq : (p != q) = false := by simp [c]
    clear c
    go_enter Try.func16, Try.ntmps16
    go_wp2_with fail
    go_ret
    exact ⟨ret_b e.out.symm, by (repeat (first | exact Below.refl _ _ | assumption | refine Below.setCell ?_ (by first | (simp; done) | (simp; omega) | omega) _ | refine Below.alloc ?_ (by first | (simp; done) | (simp; omega) | omega) _ | refine Below.drew ?_ | refine below_drewN ?_ _ | refine below_push ?_ ‹_› (by first | (simp; done) | (simp; omega) | omega)))⟩
  · have e : Hid (aheadB t p u q = decide (p < q)) := by simp [Hid, aheadB, c]
    have hq : (p != q) = true := by simp [c]
    clear c
    go_enter Try.func16, Try.ntmps16
    go_wp2_with fail
    go_ret
    exact ⟨ret_b e.out.symm, by (repeat (first | exact Below.refl _ _ | assumption | refine Below.setCell ?_ (by first | (simp; done) | (simp; omega) | omega) _ | refine Below.alloc ?_ (by first | (simp; done) | (simp; omega) | omega) _ | refine Below.drew ?_ | refine below_drewN ?_ _ | refine below_push ?_ ‹_› (by first | (simp; done) | (simp; omega) | omega)))⟩
set_option maxHeartbeats 800000 in
theorem dahead_any (t p u q : Int) (w : World) :
    Calls Try.prog 17 #[.agg #[.int .i64 t, .int .u64 p], .agg #[.int .i64 u, .int .u64 q]] w fun e w' => e = .returned (.bool (aheadB t p u q)) ∧ Below w.heap.size w w' := by
  by_cases c1 : p < q
  · have e : Hid (aheadB t p u q = true) := by simp [Hid, aheadB, c1]
    go_enter Try.func17, Try.ntmps17
    go_wp2_with fail
    go_ret
    exact ⟨ret_b e.out.symm, by (repeat (first | exact Below.refl _ _ | assumption | refine Below.setCell ?_ (by first | (simp; done) | (simp; omega) | omega) _ | refine Below.alloc ?_ (by first | (simp; done) | (simp; omega) | omega) _ | refine Below.drew ?_ | refine below_drewN ?_ _ | refine below_push ?_ ‹_› (by first | (simp; done) | (simp; omega) | omega)))⟩
  by_cases c : p = q
  · have e : Hid (aheadB t p u q = decide (t < u)) := by simp [Hid, aheadB, c]
    have hq : (p == q) = true := by simp [c]
    clear c
    go_enter Try.func17, Try.ntmps17
    go_wp2_with fail
    go_ret
    exact ⟨ret_b e.out.symm, by (repeat (first | exact Below.refl _ _ | assumption | refine Below.setCell ?_ (by first | (simp; done) | (simp; omega) | omega) _ | refine Below.alloc ?_ (by first | (simp; done) | (simp; omega) | omega) _ | refine Below.drew ?_ | refine below_drewN ?_ _ | refine below_push ?_ ‹_› (by first | (simp; done) | (simp; omega) | omega)))⟩
  · have e : Hid (aheadB t p u q = false) := by simp [Hid, aheadB, c, c1]
    have hq : (p == q) = false := by simp [c]
    clear c
    go_enter Try.func17, Try.ntmps17
    go_wp2_with fail
    go_ret
    exact ⟨ret_b e.out.symm, by (repeat (first | exact Below.refl _ _ | assumption | refine Below.setCell ?_ (by first | (simp; done) | (simp; omega) | omega) _ | refine Below.alloc ?_ (by first | (simp; done) | (simp; omega) | omega) _ | refine Below.drew ?_ | refine below_drewN ?_ _ | refine below_push ?_ ‹_› (by first | (simp; done) | (simp; omega) | omega)))⟩
end Go.Proofs.Ytaeifmfghnolcaa.GateP
