/-
  gate.First: contract. The example of chapter 32 is true.
-/
import Derived.Test.YtpimifnibdjhfaaGateWalk
import Derived.Lib.QuietBelow
namespace Go.Proofs.Ytpimifnibdjhfaa.GateP
open Go.RowKit RefP
set_option linter.unusedVariables false
set_option linter.unusedSimpArgs false

theorem ret_ib {a b : Int} {x y : Bool} (h : a = b) (k : x = y) : Ending.returned (.tuple #[.int .i64 a, .bool x]) = .returned (.tuple #[.int .i64 b, .bool y]) := by rw [h, k]
/-- in a round: the block of the best so far, and all that was there -/
structure FirstRel (w : World) (l : List (Int × Int)) (k : Nat) (wr : World) : Prop where
  b : Below w.heap.size w wr
  best : Blk wr w.heap.size #[.int .i64 (bestTo l k).1, .int .u64 (bestTo l k).2] 96
theorem FirstRel.next {w : World} {l : List (Int × Int)} {k : Nat} {wr w1 : World} {v0 v1 : Value} {T : TypeId} (h : FirstRel w l k wr) (hb : Below (wr.alloc (.cells #[v0, v1] T)).heap.size (wr.alloc (.cells #[v0, v1] T)) w1) (e : bestTo l (k + 1) = bestTo l k) : FirstRel w l (k + 1) w1 :=
  ⟨(h.b.alloc h.b.size _).trans (hb.mono (by have := h.b.size; simp; omega)), by rw [e]; exact (h.best.alloc _).below hb⟩
theorem FirstRel.take {w : World} {l : List (Int × Int)} {k : Nat} {wr w1 : World} {v0 v1 : Value} {T : TypeId} (h : FirstRel w l k wr) (hb : Below (wr.alloc (.cells #[v0, v1] T)).heap.size (wr.alloc (.cells #[v0, v1] T)) w1) (e : bestTo l (k + 1) = at2 l k) : 
    FirstRel w l (k + 1) ((w1.setCell ⟨w.heap.size, 0, none⟩ (.int .i64 (at2 l k).1)).setCell ⟨w.heap.size, 1, none⟩ (.int .u64 (at2 l k).2)) := by
  have b1 : Below w.heap.size w w1 := (h.b.alloc h.b.size _).trans (hb.mono (by have := h.b.size; simp; omega))
  have B1 := (((h.best.alloc _).below hb).set 0 (.int .i64 (at2 l k).1)).set 1 (.int .u64 (at2 l k).2)
  exact ⟨(b1.setCell (Nat.le_refl _) _).setCell (Nat.le_refl _) _, by rw [e]; exact B1⟩

set_option maxHeartbeats 1600000 in
theorem first_any (a : Option Addr) (c : Nat) (l : List (Int × Int)) (w : World) (h : Cands w a l) :
    Calls Try.prog 28 #[.slice a l.length c] w fun e w' => e = .returned (.tuple #[.int .i64 (firstT l), .bool (firstB l)]) ∧ Below w.heap.size w w' := by
  have hlen := h.len
  by_cases hn : l.length = 0
  · have e1 := Lib.hid (show firstT l = 0 by simp [firstT, hn])
    have e2 := Lib.hid (show firstB l = false by simp [firstB, hn])
    rw [hn]
    clear hn
    go_enter Try.func28, Try.ntmps28
    go_wp2_with fail
    go_ret2
    exact ⟨ret_ib e1.out.symm e2.out.symm, Below.refl _ _⟩
  · have e1 := Lib.hid (show firstT l = (bestTo l l.length).1 by simp [firstT, hn])
    have e2 := Lib.hid (show firstB l = true by simp [firstB, hn])
    obtain ⟨b, off, rfl, hbl, hc0, hc1⟩ := h.cell 0 (by omega)
    simp only [Nat.zero_mul, Nat.add_zero] at hc0 hc1
    have hq : ((l.length : Int) == 0) = false := by simpa using hn
    have hpos : 0 < l.length := by omega
    clear hn
    go_enter Try.func28, Try.ntmps28
    go_wp2_with fail
    go_loopw [15] (fun i wr => ∃ k : Nat, k ≤ l.length ∧ i = .int .i64 k ∧ FirstRel w l k wr) (fun i _ => l.length - (intOf i).toNat)
    case atStart => exact ⟨0, Nat.zero_le _, rfl, (Below.refl _ _).alloc (Nat.le_refl _) _, Blk.new _ _ _⟩
    case round =>
      obtain ⟨k, hk, rfl, R⟩ := hrel
      have B0 := R.best.at 0 rfl
      have B1 := R.best.at 1 rfl
      have Bz := R.best.lt
      by_cases hlt : k < l.length
      · obtain ⟨b', off', e', hbl', hk0, hk1⟩ := (h.below R.b).cell k hlt
        simp only [Option.some.injEq, Addr.mk.injEq, and_true] at e'
        obtain ⟨rfl, rfl⟩ := e'
        have hs := bestTo_succ l k hlt
        unfold pick at hs
        cases ha : ahead (at2 l k) (bestTo l k)
        · rw [ha] at hs
          have HS := Lib.hid (show bestTo l (k + 1) = bestTo l k by simpa using hs)
          clear hs
          unfold ahead at ha
          go_wp2_with fail
          refine (ahead_any _ _ _ _ _).mono ?_
          rintro e w1 ⟨rfl, hb1⟩
          go_wp2_with fail
          go_roundw
          case rel => exact ⟨k + 1, by omega, by go_num, R.next hb1 HS.out⟩
          case measure => simp [intOf]; omega
        · rw [ha] at hs
          have HS := Lib.hid (show bestTo l (k + 1) = at2 l k by simpa using hs)
          clear hs
          unfold ahead at ha
          go_wp2_with fail
          refine (ahead_any _ _ _ _ _).mono ?_
          rintro e w1 ⟨rfl, hb1⟩
          have N1 := (Blk.new wr #[.int .i64 (at2 l k).1, .int .u64 (at2 l k).2] 96).below hb1
          have n0 := N1.at 0 rfl
          have n1 := N1.at 1 rfl
          have M1 := (R.best.alloc (.cells #[.int .i64 (at2 l k).1, .int .u64 (at2 l k).2] 96)).below hb1
          have m0 := M1.at 0 rfl
          have m1 := M1.at 1 rfl
          have f0 := M1.free 0
          have f1 := M1.free 1
          go_wp2_with fail
          go_roundw
          case rel => exact ⟨k + 1, by omega, by go_num, R.take hb1 HS.out⟩
          case measure => simp [intOf]; omega
      · obtain rfl : k = l.length := by omega
        go_wp2_with fail
        go_ret2
        exact ⟨ret_ib e1.out.symm e2.out.symm, R.b⟩
end Go.Proofs.Ytpimifnibdjhfaa.GateP
