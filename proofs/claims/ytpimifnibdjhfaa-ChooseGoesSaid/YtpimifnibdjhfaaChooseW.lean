/-
  choose: contracts.
-/
import Derived.Test.YtpimifnibdjhfaaChooseP
namespace Go.Proofs.Ytpimifnibdjhfaa.MemP
open Go.RowKit RefP CellP GateP
set_option linter.unusedVariables false
set_option linter.unusedSimpArgs false
/-- an access without a block and an operation -/
abbrev accZ (k i ver word : Int) : Array Value := #[.int .i64 k, .int .i64 i, .int .u64 ver, .int .u64 word, .int .i64 0, .int .i64 0, .string ⟨#[]⟩, .string ⟨#[]⟩, .bool false, .int .i64 0, .slice none 0 0, .slice none 0 0, .slice none 0 0, .int .i64 0, .int .i64 0, .string ⟨#[]⟩, .int .u64 0, .slice none 0 0, .slice none 0 0, .slice none 0 0, .slice none 0 0, .int .i64 0, .string ⟨#[]⟩, .string ⟨#[]⟩, .int .u64 0, .int .i64 0]
set_option maxHeartbeats 800000 in
theorem chNew_any (p : Option Addr) (w : World) : Calls Try.prog 8 #[.pointer p] w fun e w' => e = .returned (.pointer (some ⟨w.heap.size, 0, none⟩)) ∧ w' = w.alloc (.cells #[.pointer p, .int .i64 0, .int .i64 0, .int .u64 0, .int .u64 0, .int .u64 0, .slice none 0 0] 75) := by
  go_enter Try.func8, Try.ntmps8
  go_wp2_with fail
  go_ret
  exact ⟨rfl, rfl⟩
set_option maxHeartbeats 800000 in
theorem chCost_any (n : Int) (w : World) : Calls Try.prog 10 #[.int .i64 n] w fun e w' => e = .returned (.int .i64 (if 1 ≤ n ∧ n ≤ 16 then 4 * n else 0)) ∧ w = w' := by
  by_cases h1 : 1 ≤ n ∧ n ≤ 16
  · have q1 : decide (n < 1) = false := by simp; omega
    have q2 : decide (16 < n) = false := by simp; omega
    have hw : IntKind.i64.wrap (4 * n) = 4 * n := by rw [IntKind.wrap_i64]; omega
    rw [if_pos h1]
    go_enter Try.func10, Try.ntmps10
    go_wp2_with fail
    go_ret
    exact ⟨rfl, rfl⟩
  · rw [if_neg h1]
    by_cases h2 : n < 1
    · have q1 : decide (n < 1) = true := by simpa using h2
      go_enter Try.func10, Try.ntmps10
      go_wp2_with fail
      go_ret
      exact ⟨rfl, rfl⟩
    · have q1 : decide (n < 1) = false := by simpa using h2
      have q2 : decide (16 < n) = true := by simp; omega
      go_enter Try.func10, Try.ntmps10
      go_wp2_with fail
      go_ret
      exact ⟨rfl, rfl⟩
/-- a task that is none: nil, or of no memory -/
def NoTask (w : World) (p : Option Addr) : Prop := p = none ∨ ∃ t, p = some ⟨t, 0, none⟩ ∧ Blk w t #[.pointer none, .int .i64 0, .int .i64 0, .int .u64 0, .int .u64 0, .int .u64 0, .slice none 0 0] 75
theorem NoTask.below {w w' : World} {p : Option Addr} (h : NoTask w p) (hb : Below w.heap.size w w') : NoTask w' p := by
  rcases h with h | ⟨t, e, B⟩
  · exact .inl h
  · exact .inr ⟨t, e, B.below hb⟩
set_option maxHeartbeats 1600000 in
theorem over_none (p : Option Addr) (w : World) (h : NoTask w p) : Calls Try.prog 26 #[.pointer p] w fun e w' => e = .returned (.bool true) ∧ Below w.heap.size w w' := by
  rcases h with rfl | ⟨t, rfl, B⟩
  · go_enter Try.func26, Try.ntmps26
    go_wp2_with fail
    go_quiet (fail)
    go_wp2_with fail
    go_ret
    exact ⟨rfl, below_drewN (Below.refl _ _) _⟩
  · have c0 := B.at 0 rfl
    have c1 := B.at 1 rfl
    go_enter Try.func26, Try.ntmps26
    go_wp2_with fail
    go_quiet (exact Calls.quiet_of_same ((threads_nil _).flip))
    go_wp2_with fail
    go_ret
    exact ⟨rfl, below_drewN (Below.refl _ _) _⟩
set_option maxHeartbeats 1600000 in
theorem over_any {o oc g gb gr A T : Nat} {L : List (Int × Int)} {bs rs : List (List Value)} {base t : Nat} {s : CS} {a : Option Addr} {c : Nat} (w : World) (h : MemAt w o oc g gb gr A T L bs rs) (hC : ChAt w base o t s a c) (b : Bool) (hb : decide (T ≤ s.th) = b) :
    Calls Try.prog 26 #[.pointer (some ⟨t, 0, none⟩)] w fun e w' => e = .returned (.bool b) ∧ Below w.heap.size w w' := by
  have c0 : w.cell? ⟨t, 0, none⟩ = some (.pointer (some ⟨o, 0, none⟩)) := hC.head.at 0 rfl
  have c1 : w.cell? ⟨t, 1, none⟩ = some (.int .i64 s.th) := hC.head.at 1 rfl
  have hb' : decide ((T : Int) ≤ (s.th : Int)) = b := by rw [← hb]; simp
  go_enter Try.func26, Try.ntmps26
  go_wp2_with fail
  go_quiet (exact Calls.quiet_of_same ((threads_any _ (h.drewN _)).flip))
  go_wp2_with fail
  go_ret
  exact ⟨rfl, below_drewN (Below.refl _ _) _⟩
set_option maxRecDepth 100000 in
set_option maxHeartbeats 1600000 in
theorem chNext_none (p : Option Addr) (w : World) (h : NoTask w p) : Calls Try.prog 11 #[.pointer p] w fun e w' => e = .returned (.tuple #[.agg (accZ 0 0 0 0), .bool false]) ∧ Below w.heap.size w w' := by
  have hb0 : Below w.heap.size w (w.alloc (.cells (accZ 0 0 0 0) 58)) := by (repeat (first | exact Below.refl _ _ | assumption | refine below_alloc2 ?_ (by first | exact Nat.le_refl _ | omega) _ | refine Below.drew ?_ | refine below_drewN ?_ _ | refine below_push2 ?_ ‹_› (by first | exact Nat.le_refl _ | omega) | refine Below.setCell ?_ (by first | (simp; done) | (simp; omega) | omega) _))
  go_enter Try.func11, Try.ntmps11
  go_wp2_with fail
  refine (over_none _ _ (h.below hb0)).mono ?_
  rintro e w1 ⟨rfl, hb1⟩
  have BR := (Blk.new w (accZ 0 0 0 0) 58).below hb1
  have hB := below_push2 hb0 hb1 (Nat.le_refl _)
  go_wp2_with (refine wpList_store_row rfl 58 _ _ rfl w.heap.size _ rfl rfl 58 _ BR.h (by kernel_rfl) (by rfl) (by kernel_rfl) ?_)
  refine bodyPost_ret (v := .tuple #[.agg (accZ 0 0 0 0), .bool false]) (results_cell_tmp rfl _ _ w.heap.size 58 (accZ 0 0 0 0) (0, 0) _ (.bool false) rfl rfl (Blk.row BR (accZ 0 0 0 0)).h Try.underlying58 rfl (by kernel_rfl)) rfl ⟨rfl, below_setRow hB (by omega) _⟩
set_option maxRecDepth 100000 in
set_option maxHeartbeats 1600000 in
theorem chNext_over {o oc g gb gr A T : Nat} {L : List (Int × Int)} {bs rs : List (List Value)} {base t : Nat} {s : CS} {a : Option Addr} {c : Nat} (w : World) (h : MemAt w o oc g gb gr A T L bs rs) (hC : ChAt w base o t s a c) (hT : T ≤ s.th) :
    Calls Try.prog 11 #[.pointer (some ⟨t, 0, none⟩)] w fun e w' => e = .returned (.tuple #[.agg (accZ 0 0 0 0), .bool false]) ∧ Below w.heap.size w w' := by
  have hb0 : Below w.heap.size w (w.alloc (.cells (accZ 0 0 0 0) 58)) := by (repeat (first | exact Below.refl _ _ | assumption | refine below_alloc2 ?_ (by first | exact Nat.le_refl _ | omega) _ | refine Below.drew ?_ | refine below_drewN ?_ _ | refine below_push2 ?_ ‹_› (by first | exact Nat.le_refl _ | omega) | refine Below.setCell ?_ (by first | (simp; done) | (simp; omega) | omega) _))
  go_enter Try.func11, Try.ntmps11
  go_wp2_with fail
  refine (over_any _ (h.below hb0) (hC.under hb0) true (by simpa using hT)).mono ?_
  rintro e w1 ⟨rfl, hb1⟩
  have BR := (Blk.new w (accZ 0 0 0 0) 58).below hb1
  have hB := below_push2 hb0 hb1 (Nat.le_refl _)
  go_wp2_with (refine wpList_store_row rfl 58 _ _ rfl w.heap.size _ rfl rfl 58 _ BR.h (by kernel_rfl) (by rfl) (by kernel_rfl) ?_)
  refine bodyPost_ret (v := .tuple #[.agg (accZ 0 0 0 0), .bool false]) (results_cell_tmp rfl _ _ w.heap.size 58 (accZ 0 0 0 0) (0, 0) _ (.bool false) rfl rfl (Blk.row BR (accZ 0 0 0 0)).h Try.underlying58 rfl (by kernel_rfl)) rfl ⟨rfl, below_setRow hB (by omega) _⟩
set_option maxRecDepth 100000 in
set_option maxHeartbeats 3200000 in
theorem chNext_any {o oc g gb gr A T : Nat} {L : List (Int × Int)} {bs rs : List (List Value)} {base t : Nat} {s : CS} {a : Option Addr} {c : Nat} (w : World) (h : MemAt w o oc g gb gr A T L bs rs) (hC : ChAt w base o t s a c) (hT : s.th < T) :
    Calls Try.prog 11 #[.pointer (some ⟨t, 0, none⟩)] w fun e w' => e = .returned (.tuple #[.agg (accZ 1 (s.cell A T) 0 0), .bool true]) ∧ Below w.heap.size w w' := by
  have hb0 : Below w.heap.size w (w.alloc (.cells (accZ 0 0 0 0) 58)) := by (repeat (first | exact Below.refl _ _ | assumption | refine below_alloc2 ?_ (by first | exact Nat.le_refl _ | omega) _ | refine Below.drew ?_ | refine below_drewN ?_ _ | refine below_push2 ?_ ‹_› (by first | exact Nat.le_refl _ | omega) | refine Below.setCell ?_ (by first | (simp; done) | (simp; omega) | omega) _))
  have hth := hC.ok.th
  have hat := hC.ok.at_
  obtain ⟨ci, hci⟩ : ∃ ci, ci = s.cell A T := ⟨_, rfl⟩
  rw [← hci]
  unfold CS.cell at hci
  go_enter Try.func11, Try.ntmps11
  go_wp2_with fail
  refine (over_any _ (h.below hb0) (hC.under hb0) false (by simpa using hT)).mono ?_
  rintro e w1 ⟨rfl, hb1⟩
  have BR := (Blk.new w (accZ 0 0 0 0) 58).below hb1
  have hB2 := below_push2 hb0 hb1 (Nat.le_refl _)
  have h2 := (h.below hb0).below hb1
  have hC2 := (hC.under hb0).under hb1
  clear h hC hb0 hb1
  have c0 : w1.cell? ⟨t, 0, none⟩ = some (.pointer (some ⟨o, 0, none⟩)) := hC2.head.at 0 rfl
  have c1 : w1.cell? ⟨t, 1, none⟩ = some (.int .i64 s.th) := hC2.head.at 1 rfl
  have c2 : w1.cell? ⟨t, 2, none⟩ = some (.int .i64 s.at_) := hC2.head.at 2 rfl
  have hcases : s.at_ = 0 ∨ s.at_ = 1 ∨ s.at_ = 2 ∨ s.at_ = 3 := by omega
  rcases hcases with e | e | e | e <;> rw [e] at c2 hci <;> subst hci <;> clear e
  · go_wp2_with fail
    refine (announce_any s.th _ h2 (by omega) (by omega)).mono ?_
    rintro e w2 ⟨rfl, hb2⟩
    replace BR := BR.below hb2
    have hB := below_push2 hB2 hb2 (Nat.le_refl _)
    clear h2 hC2 hB2 hb2 c0 c1 c2
    go_wp2_with (refine wpList_store_row rfl 58 _ _ rfl w.heap.size _ rfl rfl 58 _ BR.h (by kernel_rfl) (by rfl) (by kernel_rfl) ?_)
    refine bodyPost_ret (v := .tuple #[.agg (accZ 1 (atI A T 2 s.th) 0 0), .bool true]) (results_cell_tmp rfl _ _ w.heap.size 58 (accZ 1 (atI A T 2 s.th) 0 0) (0, 0) _ (.bool true) rfl rfl (Blk.row BR (accZ 1 (atI A T 2 s.th) 0 0)).h Try.underlying58 rfl (by kernel_rfl)) rfl ⟨rfl, below_setRow hB (by omega) _⟩
  · go_wp2_with fail
    refine (done_any s.th _ h2 (by omega) (by omega)).mono ?_
    rintro e w2 ⟨rfl, hb2⟩
    replace BR := BR.below hb2
    have hB := below_push2 hB2 hb2 (Nat.le_refl _)
    clear h2 hC2 hB2 hb2 c0 c1 c2
    go_wp2_with (refine wpList_store_row rfl 58 _ _ rfl w.heap.size _ rfl rfl 58 _ BR.h (by kernel_rfl) (by rfl) (by kernel_rfl) ?_)
    refine bodyPost_ret (v := .tuple #[.agg (accZ 1 (atI A T 3 s.th) 0 0), .bool true]) (results_cell_tmp rfl _ _ w.heap.size 58 (accZ 1 (atI A T 3 s.th) 0 0) (0, 0) _ (.bool true) rfl rfl (Blk.row BR (accZ 1 (atI A T 3 s.th) 0 0)).h Try.underlying58 rfl (by kernel_rfl)) rfl ⟨rfl, below_setRow hB (by omega) _⟩
  · go_wp2_with fail
    refine (phase_any s.th _ h2 (by omega) (by omega)).mono ?_
    rintro e w2 ⟨rfl, hb2⟩
    replace BR := BR.below hb2
    have hB := below_push2 hB2 hb2 (Nat.le_refl _)
    clear h2 hC2 hB2 hb2 c0 c1 c2
    go_wp2_with (refine wpList_store_row rfl 58 _ _ rfl w.heap.size _ rfl rfl 58 _ BR.h (by kernel_rfl) (by rfl) (by kernel_rfl) ?_)
    refine bodyPost_ret (v := .tuple #[.agg (accZ 1 (atI A T 4 s.th) 0 0), .bool true]) (results_cell_tmp rfl _ _ w.heap.size 58 (accZ 1 (atI A T 4 s.th) 0 0) (0, 0) _ (.bool true) rfl rfl (Blk.row BR (accZ 1 (atI A T 4 s.th) 0 0)).h Try.underlying58 rfl (by kernel_rfl)) rfl ⟨rfl, below_setRow hB (by omega) _⟩
  · go_wp2_with fail
    refine (announce_any s.th _ h2 (by omega) (by omega)).mono ?_
    rintro e w2 ⟨rfl, hb2⟩
    replace BR := BR.below hb2
    have hB := below_push2 hB2 hb2 (Nat.le_refl _)
    clear h2 hC2 hB2 hb2 c0 c1 c2
    go_wp2_with (refine wpList_store_row rfl 58 _ _ rfl w.heap.size _ rfl rfl 58 _ BR.h (by kernel_rfl) (by rfl) (by kernel_rfl) ?_)
    refine bodyPost_ret (v := .tuple #[.agg (accZ 1 (atI A T 2 s.th) 0 0), .bool true]) (results_cell_tmp rfl _ _ w.heap.size 58 (accZ 1 (atI A T 2 s.th) 0 0) (0, 0) _ (.bool true) rfl rfl (Blk.row BR (accZ 1 (atI A T 2 s.th) 0 0)).h Try.underlying58 rfl (by kernel_rfl)) rfl ⟨rfl, below_setRow hB (by omega) _⟩
end Go.Proofs.Ytpimifnibdjhfaa.MemP
