/-
  Choosing, the document's: contracts.
-/
import Derived.Test.YtpimifnibdjhfaaChooseS
import Derived.Test.YtpimifnibdjhfaaChooseW
import Derived.Test.YtpimifnibdjhfaaDocNew
import Derived.Test.YtpimifnibdjhfaaChooseZ
import Derived.Test.YtpimifnibdjhfaaChooseT
import Derived.Test.YtpimifnibdjhfaaGateCands
namespace Go.Proofs.Ytpimifnibdjhfaa.MemP
open Go.RowKit RefP CellP GateP
set_option linter.unusedVariables false
set_option linter.unusedSimpArgs false
/-- the rows of a document's memory: of no matter here -/
structure DRows where
  a1 : Option Addr
  n1 : Nat
  c1 : Nat
  a2 : Option Addr
  n2 : Nat
  c2 : Nat
  a3 : Option Addr
  n3 : Nat
  c3 : Nat
abbrev dchA (A T : Int) (r : DRows) (s : CS) (a : Option Addr) (c : Nat) : Array Value := #[.int .i64 A, .int .i64 T, .slice r.a1 r.n1 r.c1, .slice r.a2 r.n2 r.c2, .slice r.a3 r.n3 r.c3, .int .i64 s.th, .int .i64 s.at_, .int .u64 s.ver, .int .u64 s.done, .int .u64 s.ph, .slice a s.L.length c]
abbrev dmA (A T : Int) (r : DRows) : Array Value := #[.int .i64 A, .int .i64 T, .slice r.a1 r.n1 r.c1, .slice r.a2 r.n2 r.c2, .slice r.a3 r.n3 r.c3]
set_option maxHeartbeats 1600000 in
theorem dplace_2 (A T : Nat) (r : DRows) (i : Nat) (w : World) (hA : A ≤ 8192) (hT : T ≤ 16) (hi : i < T) :
    Calls Try.prog 27 #[.agg (dmA A T r), .int .i64 2, .int .i64 i, .int .i64 0] w fun e w' => e = .returned (.int .i64 (atI A T 2 i)) ∧ Below w.heap.size w w' := by
  have hb0 : Below w.heap.size w (w.alloc (.cells (dmA A T r) 36)) := by (repeat (first | exact Below.refl _ _ | assumption | refine below_alloc2 ?_ (by first | exact Nat.le_refl _ | omega) _ | refine Below.drew ?_ | refine below_drewN ?_ _ | refine below_push2 ?_ ‹_› (by first | exact Nat.le_refl _ | omega) | refine Below.setCell ?_ (by first | (simp; done) | (simp; omega) | omega) _))
  have hR : Hid (atI A T 2 i = 2 * A + i) := by
    show atI A T 2 i = _
    rw [atI_yes (by omega) (by simp [sizeI]; omega)]; simp [fromI]; try omega
  have hlt : (i : Int) < (T : Int) := by omega
  go_enter Try.func27, Try.ntmps27
  go_wp2_with fail
  go_ret
  exact ⟨ret_int hR.out.symm, hb0⟩
set_option maxHeartbeats 1600000 in
theorem dplace_3 (A T : Nat) (r : DRows) (i : Nat) (w : World) (hA : A ≤ 8192) (hT : T ≤ 16) (hi : i < T) :
    Calls Try.prog 27 #[.agg (dmA A T r), .int .i64 3, .int .i64 i, .int .i64 0] w fun e w' => e = .returned (.int .i64 (atI A T 3 i)) ∧ Below w.heap.size w w' := by
  have hb0 : Below w.heap.size w (w.alloc (.cells (dmA A T r) 36)) := by (repeat (first | exact Below.refl _ _ | assumption | refine below_alloc2 ?_ (by first | exact Nat.le_refl _ | omega) _ | refine Below.drew ?_ | refine below_drewN ?_ _ | refine below_push2 ?_ ‹_› (by first | exact Nat.le_refl _ | omega) | refine Below.setCell ?_ (by first | (simp; done) | (simp; omega) | omega) _))
  have hR : Hid (atI A T 3 i = 2 * A + T + i) := by
    show atI A T 3 i = _
    rw [atI_yes (by omega) (by simp [sizeI]; omega)]; simp [fromI]; try omega
  have hlt : (i : Int) < (T : Int) := by omega
  go_enter Try.func27, Try.ntmps27
  go_wp2_with fail
  go_ret
  exact ⟨ret_int hR.out.symm, hb0⟩
set_option maxHeartbeats 1600000 in
theorem dplace_4 (A T : Nat) (r : DRows) (i : Nat) (w : World) (hA : A ≤ 8192) (hT : T ≤ 16) (hi : i < T) :
    Calls Try.prog 27 #[.agg (dmA A T r), .int .i64 4, .int .i64 i, .int .i64 0] w fun e w' => e = .returned (.int .i64 (atI A T 4 i)) ∧ Below w.heap.size w w' := by
  have hb0 : Below w.heap.size w (w.alloc (.cells (dmA A T r) 36)) := by (repeat (first | exact Below.refl _ _ | assumption | refine below_alloc2 ?_ (by first | exact Nat.le_refl _ | omega) _ | refine Below.drew ?_ | refine below_drewN ?_ _ | refine below_push2 ?_ ‹_› (by first | exact Nat.le_refl _ | omega) | refine Below.setCell ?_ (by first | (simp; done) | (simp; omega) | omega) _))
  have hR : Hid (atI A T 4 i = 2 * A + 2 * T + i) := by
    show atI A T 4 i = _
    rw [atI_yes (by omega) (by simp [sizeI]; omega)]; simp [fromI]; try omega
  have hlt : (i : Int) < (T : Int) := by omega
  go_enter Try.func27, Try.ntmps27
  go_wp2_with fail
  go_ret
  exact ⟨ret_int hR.out.symm, hb0⟩
set_option maxRecDepth 100000 in
set_option maxHeartbeats 1600000 in
theorem dnext_over (A T : Nat) (r : DRows) (s : CS) (a : Option Addr) (c : Nat) (w : World) (hT : T ≤ s.th) : Calls Try.prog 12 #[.agg (dchA A T r s a c)] w fun e w' => e = .returned (.tuple #[.agg (accZ 0 0 0 0), .bool false]) ∧ Below w.heap.size w w' := by
  have q1 : decide ((T : Int) ≤ (s.th : Int)) = true := by simpa using hT
  have hB : Below w.heap.size w ((w.alloc (.cells (dchA A T r s a c) 40)).alloc (.cells (accZ 0 0 0 0) 58)) := by (repeat (first | exact Below.refl _ _ | assumption | refine below_alloc2 ?_ (by first | exact Nat.le_refl _ | omega) _ | refine Below.drew ?_ | refine below_drewN ?_ _ | refine below_push2 ?_ ‹_› (by first | exact Nat.le_refl _ | omega) | refine Below.setCell ?_ (by first | (simp; done) | (simp; omega) | omega) _))
  have BD := (Blk.new w (dchA A T r s a c) 40).alloc (.cells (accZ 0 0 0 0) 58)
  have BR : Blk ((w.alloc (.cells (dchA A T r s a c) 40)).alloc (.cells (accZ 0 0 0 0) 58)) (w.heap.size + 1) (accZ 0 0 0 0) 58 := by
    have := Blk.new (w.alloc (.cells (dchA A T r s a c) 40)) (accZ 0 0 0 0) 58
    simpa using this
  go_enter Try.func12, Try.ntmps12
  go_upto_region 1 with (fail)
  generalize ((w.alloc (.cells (dchA A T r s a c) 40)).alloc (.cells (accZ 0 0 0 0) 58)) = w1 at hB BD BR ⊢
  have d0 := BD.at 0 rfl
  have d1 := BD.at 1 rfl
  have d2 := BD.at 2 rfl
  have d3 := BD.at 3 rfl
  have d4 := BD.at 4 rfl
  have d5 := BD.at 5 rfl
  have d6 : w1.cell? ⟨w.heap.size, 6, none⟩ = some (.int .i64 s.at_) := BD.at 6 rfl
  go_wp2_with (refine wpList_store_row rfl 58 _ _ rfl (w.heap.size + 1) _ rfl rfl 58 _ BR.h (by kernel_rfl) (by rfl) (by kernel_rfl) ?_)
  refine bodyPost_ret (v := .tuple #[.agg (accZ 0 0 0 0), .bool false]) (results_cell_tmp rfl _ _ (w.heap.size + 1) 58 (accZ 0 0 0 0) (0, 0) _ (.bool false) rfl rfl (Blk.row BR (accZ 0 0 0 0)).h Try.underlying58 rfl (by kernel_rfl)) rfl ⟨rfl, below_setRow hB (by omega) _⟩
set_option maxRecDepth 100000 in
set_option maxHeartbeats 3200000 in
theorem dnext_any (A T : Nat) (r : DRows) (s : CS) (a : Option Addr) (c : Nat) (w : World) (hA : A ≤ 8192) (hT16 : T ≤ 16) (hT : s.th < T) (hat : s.at_ ≤ 3) : Calls Try.prog 12 #[.agg (dchA A T r s a c)] w fun e w' => e = .returned (.tuple #[.agg (accZ 1 (s.cell A T) 0 0), .bool true]) ∧ Below w.heap.size w w' := by
  have q1 : decide ((T : Int) ≤ (s.th : Int)) = false := by simp; omega
  obtain ⟨ci, hci⟩ : ∃ ci, ci = s.cell A T := ⟨_, rfl⟩
  rw [← hci]
  unfold CS.cell at hci
  have hB : Below w.heap.size w ((w.alloc (.cells (dchA A T r s a c) 40)).alloc (.cells (accZ 0 0 0 0) 58)) := by (repeat (first | exact Below.refl _ _ | assumption | refine below_alloc2 ?_ (by first | exact Nat.le_refl _ | omega) _ | refine Below.drew ?_ | refine below_drewN ?_ _ | refine below_push2 ?_ ‹_› (by first | exact Nat.le_refl _ | omega) | refine Below.setCell ?_ (by first | (simp; done) | (simp; omega) | omega) _))
  have BD := (Blk.new w (dchA A T r s a c) 40).alloc (.cells (accZ 0 0 0 0) 58)
  have BR : Blk ((w.alloc (.cells (dchA A T r s a c) 40)).alloc (.cells (accZ 0 0 0 0) 58)) (w.heap.size + 1) (accZ 0 0 0 0) 58 := by
    have := Blk.new (w.alloc (.cells (dchA A T r s a c) 40)) (accZ 0 0 0 0) 58
    simpa using this
  go_enter Try.func12, Try.ntmps12
  go_upto_region 1 with (fail)
  generalize ((w.alloc (.cells (dchA A T r s a c) 40)).alloc (.cells (accZ 0 0 0 0) 58)) = w1 at hB BD BR ⊢
  have d0 := BD.at 0 rfl
  have d1 := BD.at 1 rfl
  have d2 := BD.at 2 rfl
  have d3 := BD.at 3 rfl
  have d4 := BD.at 4 rfl
  have d5 := BD.at 5 rfl
  have d6 : w1.cell? ⟨w.heap.size, 6, none⟩ = some (.int .i64 s.at_) := BD.at 6 rfl
  have hcases : s.at_ = 0 ∨ s.at_ = 1 ∨ s.at_ = 2 ∨ s.at_ = 3 := by omega
  rcases hcases with e | e | e | e <;> rw [e] at d6 hci <;> subst hci <;> clear e
  · go_wp2_with fail
    refine (dplace_2 A T r s.th _ hA hT16 hT).mono ?_
    rintro e w2 ⟨rfl, hb2⟩
    replace BR := BR.below hb2
    replace hB := below_push2 hB hb2 (Nat.le_refl _)
    clear BD hb2 d0 d1 d2 d3 d4 d5 d6
    go_wp2_with (refine wpList_store_row rfl 58 _ _ rfl (w.heap.size + 1) _ rfl rfl 58 _ BR.h (by kernel_rfl) (by rfl) (by kernel_rfl) ?_)
    refine bodyPost_ret (v := .tuple #[.agg (accZ 1 (atI A T 2 s.th) 0 0), .bool true]) (results_cell_tmp rfl _ _ (w.heap.size + 1) 58 (accZ 1 (atI A T 2 s.th) 0 0) (0, 0) _ (.bool true) rfl rfl (Blk.row BR (accZ 1 (atI A T 2 s.th) 0 0)).h Try.underlying58 rfl (by kernel_rfl)) rfl ⟨rfl, below_setRow hB (by omega) _⟩
  · go_wp2_with fail
    refine (dplace_3 A T r s.th _ hA hT16 hT).mono ?_
    rintro e w2 ⟨rfl, hb2⟩
    replace BR := BR.below hb2
    replace hB := below_push2 hB hb2 (Nat.le_refl _)
    clear BD hb2 d0 d1 d2 d3 d4 d5 d6
    go_wp2_with (refine wpList_store_row rfl 58 _ _ rfl (w.heap.size + 1) _ rfl rfl 58 _ BR.h (by kernel_rfl) (by rfl) (by kernel_rfl) ?_)
    refine bodyPost_ret (v := .tuple #[.agg (accZ 1 (atI A T 3 s.th) 0 0), .bool true]) (results_cell_tmp rfl _ _ (w.heap.size + 1) 58 (accZ 1 (atI A T 3 s.th) 0 0) (0, 0) _ (.bool true) rfl rfl (Blk.row BR (accZ 1 (atI A T 3 s.th) 0 0)).h Try.underlying58 rfl (by kernel_rfl)) rfl ⟨rfl, below_setRow hB (by omega) _⟩
  · go_wp2_with fail
    refine (dplace_4 A T r s.th _ hA hT16 hT).mono ?_
    rintro e w2 ⟨rfl, hb2⟩
    replace BR := BR.below hb2
    replace hB := below_push2 hB hb2 (Nat.le_refl _)
    clear BD hb2 d0 d1 d2 d3 d4 d5 d6
    go_wp2_with (refine wpList_store_row rfl 58 _ _ rfl (w.heap.size + 1) _ rfl rfl 58 _ BR.h (by kernel_rfl) (by rfl) (by kernel_rfl) ?_)
    refine bodyPost_ret (v := .tuple #[.agg (accZ 1 (atI A T 4 s.th) 0 0), .bool true]) (results_cell_tmp rfl _ _ (w.heap.size + 1) 58 (accZ 1 (atI A T 4 s.th) 0 0) (0, 0) _ (.bool true) rfl rfl (Blk.row BR (accZ 1 (atI A T 4 s.th) 0 0)).h Try.underlying58 rfl (by kernel_rfl)) rfl ⟨rfl, below_setRow hB (by omega) _⟩
  · go_wp2_with fail
    refine (dplace_2 A T r s.th _ hA hT16 hT).mono ?_
    rintro e w2 ⟨rfl, hb2⟩
    replace BR := BR.below hb2
    replace hB := below_push2 hB hb2 (Nat.le_refl _)
    clear BD hb2 d0 d1 d2 d3 d4 d5 d6
    go_wp2_with (refine wpList_store_row rfl 58 _ _ rfl (w.heap.size + 1) _ rfl rfl 58 _ BR.h (by kernel_rfl) (by rfl) (by kernel_rfl) ?_)
    refine bodyPost_ret (v := .tuple #[.agg (accZ 1 (atI A T 2 s.th) 0 0), .bool true]) (results_cell_tmp rfl _ _ (w.heap.size + 1) 58 (accZ 1 (atI A T 2 s.th) 0 0) (0, 0) _ (.bool true) rfl rfl (Blk.row BR (accZ 1 (atI A T 2 s.th) 0 0)).h Try.underlying58 rfl (by kernel_rfl)) rfl ⟨rfl, below_setRow hB (by omega) _⟩
set_option maxRecDepth 100000 in
set_option maxHeartbeats 1600000 in
theorem dthread_not (A T : Nat) (r : DRows) (s : CS) (a : Option Addr) (c : Nat) (w : World) (hT : s.th < T) : Calls Try.prog 14 #[.agg (dchA A T r s a c)] w fun e w' => e = .returned (.tuple #[.int .i64 0, .bool false]) ∧ Below w.heap.size w w' := by
  have hb0 : Below w.heap.size w (w.alloc (.cells (dchA A T r s a c) 40)) := by (repeat (first | exact Below.refl _ _ | assumption | refine below_alloc2 ?_ (by first | exact Nat.le_refl _ | omega) _ | refine Below.drew ?_ | refine below_drewN ?_ _ | refine below_push2 ?_ ‹_› (by first | exact Nat.le_refl _ | omega) | refine Below.setCell ?_ (by first | (simp; done) | (simp; omega) | omega) _))
  have BD := Blk.new w (dchA A T r s a c) 40
  have q1 : decide ((T : Int) ≤ (s.th : Int)) = false := by simp; omega
  have hT' : (s.th : Int) < (T : Int) := by omega
  go_enter Try.func14, Try.ntmps14
  go_wp2_with fail
  generalize w.alloc (.cells (dchA A T r s a c) 40) = w1 at hb0 BD ⊢
  have d1 := BD.at 1 rfl
  have d5 := BD.at 5 rfl
  have d10 := BD.at 10 rfl
  go_loopw [4] (fun i wr => i = .int .i64 0 ∧ wr = w1) (fun _ _ => 0)
  case atStart => exact ⟨rfl, rfl⟩
  case round =>
    obtain ⟨rfl, rfl⟩ := hrel
    go_wp2_with fail
    all_goals
      go_ret2
      exact ⟨rfl, hb0⟩
set_option maxRecDepth 100000 in
set_option maxHeartbeats 3200000 in
theorem dthread_over (A T : Nat) (r : DRows) (s : CS) (a : Option Addr) (c : Nat) (w : World) (hT : T ≤ s.th) (hL : Cands w a s.L) (hn : s.L.length ≤ 60000) : Calls Try.prog 14 #[.agg (dchA A T r s a c)] w fun e w' => e = .returned (.tuple #[.int .i64 (firstT s.L), .bool (firstB s.L)]) ∧ Below w.heap.size w w' := by
  have hb0 : Below w.heap.size w (w.alloc (.cells (dchA A T r s a c) 40)) := by (repeat (first | exact Below.refl _ _ | assumption | refine below_alloc2 ?_ (by first | exact Nat.le_refl _ | omega) _ | refine Below.drew ?_ | refine below_drewN ?_ _ | refine below_push2 ?_ ‹_› (by first | exact Nat.le_refl _ | omega) | refine Below.setCell ?_ (by first | (simp; done) | (simp; omega) | omega) _))
  have BD := Blk.new w (dchA A T r s a c) 40
  have hL1 := hL.below hb0
  have q1 : decide ((T : Int) ≤ (s.th : Int)) = true := by simpa using hT
  have hT' : (T : Int) ≤ (s.th : Int) := by omega
  go_enter Try.func14, Try.ntmps14
  go_wp2_with fail
  generalize w.alloc (.cells (dchA A T r s a c) 40) = w1 at hb0 BD hL1 ⊢
  go_loopw [4] (fun i wr => ∃ k : Nat, k ≤ s.L.length ∧ i = .int .i64 k ∧ (∀ j, j < k → placeI s.L j ≠ 0) ∧ Below w.heap.size w wr ∧ Blk wr w.heap.size (dchA A T r s a c) 40 ∧ Cands wr a s.L) (fun i _ => s.L.length - (intOf i).toNat)
  case atStart => exact ⟨0, Nat.zero_le _, rfl, fun j hj => by omega, hb0, BD, hL1⟩
  case round =>
    clear hb0 BD hL1
    obtain ⟨k, hk, rfl, hno, hB, BD, hC⟩ := hrel
    have d1 := BD.at 1 rfl
    have d5 := BD.at 5 rfl
    have d10 := BD.at 10 rfl
    by_cases hlt : k < s.L.length
    · have hlt' : (k : Int) < (s.L.length : Int) := by omega
      have q2 : decide ((k : Int) < (s.L.length : Int)) = true := by simpa using hlt
      go_wp2_with fail
      refine (place_any a c s.L k _ hC hlt).mono ?_
      rintro e w2 ⟨rfl, hb2⟩
      have hB2 := below_push2 hB hb2 (Nat.le_refl _)
      replace BD := BD.below hb2
      replace hC := hC.below hb2
      clear d1 d5 d10 hb2 hB
      have d10 := BD.at 10 rfl
      by_cases hz : placeI s.L k = 0
      · have e1 := Lib.hid (place_zero hlt hz)
        have e2 := Lib.hid (show firstB s.L = true by unfold firstB; rw [show (s.L.length == 0) = false by simp only [beq_eq_false_iff_ne, ne_eq]; omega]; rfl)
        obtain ⟨b, off, rfl, hbl, s0, s1⟩ := hC.cell k hlt
        rw [hz]
        clear hz
        go_wp2_with fail
        go_ret2
        rw [← e1.out, e2.out]
        exact ⟨rfl, hB2⟩
      · have qz : (((placeI s.L k : Nat) : Int) == 0) = false := by simp; omega
        go_wp2_with fail
        go_roundw
        case rel => exact ⟨k + 1, by omega, by go_num, fun j hj => by
          by_cases e : j = k
          · subst e; exact hz
          · exact hno j (by omega), hB2, BD, hC⟩
        case measure => simp [intOf]; omega
    · obtain rfl : k = s.L.length := by omega
      have hl0 : s.L.length = 0 := by
        rcases Nat.eq_zero_or_pos s.L.length with h | h
        · exact h
        · obtain ⟨i, hi, hz⟩ := place_some h
          exact absurd hz (hno i hi)
      have e1 := Lib.hid (show firstT s.L = 0 by simp [firstT, hl0])
      have e2 := Lib.hid (show firstB s.L = false by simp [firstB, hl0])
      clear hl0
      have q2 : decide ((s.L.length : Int) < (s.L.length : Int)) = false := by simp
      go_wp2_with fail
      go_ret2
      rw [e1.out, e2.out]
      exact ⟨rfl, hB⟩
end Go.Proofs.Ytpimifnibdjhfaa.MemP
