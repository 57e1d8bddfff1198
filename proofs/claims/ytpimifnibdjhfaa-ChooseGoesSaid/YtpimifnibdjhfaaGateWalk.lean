/-
  gate.After, gate.Ahead and the document's: contracts.
-/
import Derived.Test.YtpimifnibdjhfaaRows
import Derived.Test.YtpimifnibdjhfaaAid
import Derived.Test.YtpimifnibdjhfaaGatePlain
import Derived.WalkLawsBesides
import Derived.WalkSpells
import Derived.Outline
import Derived.BigQuiet
import Derived.LoopTactic
import Derived.Lib.MinMax
namespace Go.Proofs.Ytpimifnibdjhfaa.GateP
open Go.RowKit RefP
set_option linter.unusedVariables false
set_option linter.unusedSimpArgs false
theorem ret_after {xs : List Int} : Hid (maxL xs = 18446744073709551615 → afterI xs = maxL xs) ∧ Hid (maxL xs ≠ 18446744073709551615 → afterI xs = maxL xs + 1) :=
  ⟨fun h => if_pos h, fun h => if_neg h⟩
theorem aheadB_def (t p u q : Int) : aheadB t p u q = decide (p < q ∨ p = q ∧ t < u) := rfl
set_option maxHeartbeats 800000 in
theorem ahead_any (t p u q : Int) (w : World) :
    Calls Try.prog 41 #[.agg #[.int .i64 t, .int .u64 p], .agg #[.int .i64 u, .int .u64 q]] w fun e w' => e = .returned (.bool (aheadB t p u q)) ∧ Below w.heap.size w w' := by
  by_cases c : p = q
  · have e : Hid (aheadB t p u q = decide (t < u)) := by simp [Hid, aheadB, c]
    have hq : (p != q) = false := by simp [c]
    clear c
    go_enter Try.func41, Try.ntmps41
    go_wp2_with fail
    go_ret
    exact ⟨ret_b e.out.symm, by (repeat (first | exact Below.refl _ _ | assumption | refine Below.setCell ?_ (by first | (simp; done) | (simp; omega) | omega) _ | refine Below.alloc ?_ (by first | (simp; done) | (simp; omega) | omega) _ | refine Below.drew ?_ | refine below_drewN ?_ _ | refine below_push ?_ ‹_› (by first | (simp; done) | (simp; omega) | omega)))⟩
  · have e : Hid (aheadB t p u q = decide (p < q)) := by simp [Hid, aheadB, c]
    have hq : (p != q) = true := by simp [c]
    clear c
    go_enter Try.func41, Try.ntmps41
    go_wp2_with fail
    go_ret
    exact ⟨ret_b e.out.symm, by (repeat (first | exact Below.refl _ _ | assumption | refine Below.setCell ?_ (by first | (simp; done) | (simp; omega) | omega) _ | refine Below.alloc ?_ (by first | (simp; done) | (simp; omega) | omega) _ | refine Below.drew ?_ | refine below_drewN ?_ _ | refine below_push ?_ ‹_› (by first | (simp; done) | (simp; omega) | omega)))⟩
set_option maxHeartbeats 800000 in
theorem dahead_any (t p u q : Int) (w : World) :
    Calls Try.prog 42 #[.agg #[.int .i64 t, .int .u64 p], .agg #[.int .i64 u, .int .u64 q]] w fun e w' => e = .returned (.bool (aheadB t p u q)) ∧ Below w.heap.size w w' := by
  by_cases c1 : p < q
  · have e : Hid (aheadB t p u q = true) := by simp [Hid, aheadB, c1]
    go_enter Try.func42, Try.ntmps42
    go_wp2_with fail
    go_ret
    exact ⟨ret_b e.out.symm, by (repeat (first | exact Below.refl _ _ | assumption | refine Below.setCell ?_ (by first | (simp; done) | (simp; omega) | omega) _ | refine Below.alloc ?_ (by first | (simp; done) | (simp; omega) | omega) _ | refine Below.drew ?_ | refine below_drewN ?_ _ | refine below_push ?_ ‹_› (by first | (simp; done) | (simp; omega) | omega)))⟩
  by_cases c : p = q
  · have e : Hid (aheadB t p u q = decide (t < u)) := by simp [Hid, aheadB, c]
    have hq : (p == q) = true := by simp [c]
    clear c
    go_enter Try.func42, Try.ntmps42
    go_wp2_with fail
    go_ret
    exact ⟨ret_b e.out.symm, by (repeat (first | exact Below.refl _ _ | assumption | refine Below.setCell ?_ (by first | (simp; done) | (simp; omega) | omega) _ | refine Below.alloc ?_ (by first | (simp; done) | (simp; omega) | omega) _ | refine Below.drew ?_ | refine below_drewN ?_ _ | refine below_push ?_ ‹_› (by first | (simp; done) | (simp; omega) | omega)))⟩
  · have e : Hid (aheadB t p u q = false) := by simp [Hid, aheadB, c, c1]
    have hq : (p == q) = false := by simp [c]
    clear c
    go_enter Try.func42, Try.ntmps42
    go_wp2_with fail
    go_ret
    exact ⟨ret_b e.out.symm, by (repeat (first | exact Below.refl _ _ | assumption | refine Below.setCell ?_ (by first | (simp; done) | (simp; omega) | omega) _ | refine Below.alloc ?_ (by first | (simp; done) | (simp; omega) | omega) _ | refine Below.drew ?_ | refine below_drewN ?_ _ | refine below_push ?_ ‹_› (by first | (simp; done) | (simp; omega) | omega)))⟩
end Go.Proofs.Ytpimifnibdjhfaa.GateP
