/-
  memory.New: contract.
-/
import Derived.Test.YtfnjggefinkcaaaMemMake
namespace Go.Proofs.Ytfnjggefinkcaaa.MemP
open Go.RowKit RefP CellP
set_option linter.unusedVariables false
set_option linter.unusedSimpArgs false

structure NewR (w : World) (o gb gr A T k : Nat) (wr : World) : Prop where
  head : Blk wr o (memA (.pointer none) (fk A T k) gb A gr T) 48
  blocks : Blk wr gb (rawA 17 (List.replicate A zb)) 35
  records : Blk wr gr (rawA 5 (List.replicate T zo)) 37
  b : Below w.heap.size w wr
  ge : w.heap.size ≤ o ∧ w.heap.size ≤ gb ∧ w.heap.size ≤ gr
  ne : o ≠ gb ∧ o ≠ gr ∧ gb ≠ gr
theorem NewR.below {w : World} {o gb gr A T k : Nat} {wr wx : World} (h : NewR w o gb gr A T k wr) (hb : Below wr.heap.size wr wx) : NewR w o gb gr A T k wx :=
  ⟨h.head.below hb, h.blocks.below hb, h.records.below hb, below_push2 h.b hb (Nat.le_refl _), h.ge, h.ne⟩
theorem fk_self (A T k : Nat) : fk A T k k = fromI A T k := if_pos (Nat.le_refl _)
theorem memA_next (gb A gr T k : Nat) (h : k < 7) : (memA (.pointer none) (fk A T k) gb A gr T).setIfInBounds (k + 2) (.int .i64 (fromI A T (k + 1))) = memA (.pointer none) (fk A T (k + 1)) gb A gr T := by
  have : k = 0 ∨ k = 1 ∨ k = 2 ∨ k = 3 ∨ k = 4 ∨ k = 5 ∨ k = 6 := by omega
  rcases this with e | e | e | e | e | e | e <;> subst e <;> simp [memA, fk]
theorem NewR.next {w : World} {o gb gr A T k : Nat} {wr : World} (h : NewR w o gb gr A T k wr) (hk : k < 7) : NewR w o gb gr A T (k + 1) (wr.setCell ⟨o, k + 2, none⟩ (.int .i64 (fromI A T (k + 1)))) := by
  have hB := h.head.set (k + 2) (.int .i64 (fromI A T (k + 1)))
  rw [memA_next gb A gr T k hk] at hB
  exact ⟨hB, h.blocks.far _ _ (Ne.symm h.ne.1), h.records.far _ _ (Ne.symm h.ne.2.1), h.b.setCell h.ge.1 _, h.ge, h.ne⟩
theorem memA_zero (gb A gr T : Nat) : memA (.pointer none) (fk A T 0) gb A gr T = #[.pointer none, .int .i64 0, .int .i64 0, .int .i64 0, .int .i64 0, .int .i64 0, .int .i64 0, .int .i64 0, .int .i64 0, .slice (some ⟨gb, 0, none⟩) A A, .slice (some ⟨gr, 0, none⟩) T T] := by
  simp [memA, fk, fromI]
theorem memA_seven (gb A gr T : Nat) : memA (.pointer none) (fk A T 7) gb A gr T = memA (.pointer none) (fromI A T) gb A gr T := by
  simp [memA, fk]
/-- the memory that there is at first -/
def NewAt (w : World) (A T : Nat) (gen : Int) (e : Ending) (w' : World) : Prop :=
  ∃ o oc g gb gr, e = .returned (.pointer (some ⟨o, 0, none⟩)) ∧ MemAt w' o oc g gb gr A T (freshL A T gen) ((List.replicate A zb).set 0 eb) (List.replicate T zo) ∧ Below w.heap.size w w' ∧ w.heap.size ≤ o ∧ w.heap.size ≤ oc ∧ w.heap.size ≤ g ∧ w.heap.size ≤ gb ∧ w.heap.size ≤ gr
set_option maxRecDepth 100000 in
set_option maxHeartbeats 800000 in
theorem mnew_no (a t gen : Int) (w : World) (h : a < 1 ∨ 8192 < a ∨ t < 1 ∨ 16 < t ∨ 4294967295 ≤ gen) : Calls Try.prog 18 #[.int .i64 a, .int .i64 t, .int .u64 gen] w fun e w' => e = .returned (.pointer none) ∧ w = w' := by
  obtain ⟨b1, h1⟩ : ∃ b, decide (a < 1) = b := ⟨_, rfl⟩
  obtain ⟨b2, h2⟩ : ∃ b, decide (8192 < a) = b := ⟨_, rfl⟩
  obtain ⟨b3, h3⟩ : ∃ b, decide (t < 1) = b := ⟨_, rfl⟩
  obtain ⟨b4, h4⟩ : ∃ b, decide (16 < t) = b := ⟨_, rfl⟩
  obtain ⟨b5, h5⟩ : ∃ b, decide (4294967295 ≤ gen) = b := ⟨_, rfl⟩
  have hx : b1 = true ∨ b1 = false ∧ b2 = true ∨ b1 = false ∧ b2 = false ∧ b3 = true ∨ b1 = false ∧ b2 = false ∧ b3 = false ∧ b4 = true ∨ b1 = false ∧ b2 = false ∧ b3 = false ∧ b4 = false ∧ b5 = true := by
    subst h1 h2 h3 h4 h5
    simp; omega
  clear h
  rcases hx with hx | ⟨hx, hy⟩ | ⟨hx, hy, hz⟩ | ⟨hx, hy, hz, hu⟩ | ⟨hx, hy, hz, hu, hv⟩ <;> subst_vars
  all_goals
    go_enter Try.func18, Try.ntmps18
    go_wp2_with fail
    go_ret
    exact ⟨rfl, rfl⟩
theorem four (w : World) (s x y m : Array Value) (t1 t2 t3 t4 : TypeId) :
    Blk ((((w.alloc (.cells s t1)).alloc (.cells x t2)).alloc (.cells y t3)).alloc (.cells m t4)).drew w.heap.size s t1 ∧ Blk ((((w.alloc (.cells s t1)).alloc (.cells x t2)).alloc (.cells y t3)).alloc (.cells m t4)).drew (w.heap.size + 1) x t2 ∧
    Blk ((((w.alloc (.cells s t1)).alloc (.cells x t2)).alloc (.cells y t3)).alloc (.cells m t4)).drew (w.heap.size + 1 + 1) y t3 ∧ Blk ((((w.alloc (.cells s t1)).alloc (.cells x t2)).alloc (.cells y t3)).alloc (.cells m t4)).drew (w.heap.size + 1 + 1 + 1) m t4 ∧
    Below w.heap.size w ((((w.alloc (.cells s t1)).alloc (.cells x t2)).alloc (.cells y t3)).alloc (.cells m t4)).drew := by
  refine ⟨((((Blk.new w _ _).alloc _).alloc _).alloc _).drew, ?_, ?_, ?_, by (repeat (first | exact Below.refl _ _ | assumption | refine below_alloc2 ?_ (by first | exact Nat.le_refl _ | omega) _ | refine Below.drew ?_ | refine below_drewN ?_ _ | refine below_push2 ?_ ‹_› (by first | exact Nat.le_refl _ | omega) | refine Below.setCell ?_ (by first | (simp; done) | (simp; omega) | omega) _))⟩
  · have := (((Blk.new (w.alloc (.cells s t1)) x t2).alloc (.cells y t3)).alloc (.cells m t4)).drew
    simpa using this
  · have := ((Blk.new ((w.alloc (.cells s t1)).alloc (.cells x t2)) y t3).alloc (.cells m t4)).drew
    simpa using this
  · have := (Blk.new (((w.alloc (.cells s t1)).alloc (.cells x t2)).alloc (.cells y t3)) m t4).drew
    simpa using this
set_option maxRecDepth 100000 in
set_option maxHeartbeats 3200000 in
theorem mnew_yes (A T : Nat) (gen : Int) (w : World) (hA1 : 1 ≤ A) (hA2 : A ≤ 8192) (hT1 : 1 ≤ T) (hT2 : T ≤ 16) (g0 : 0 ≤ gen) (g1 : gen < 4294967295) :
    Calls Try.prog 18 #[.int .i64 A, .int .i64 T, .int .u64 gen] w (NewAt w A T gen) := by
  obtain ⟨i0, hi, hz0, hz1, hz2⟩ := info_parts' infoBlock
  have hmkB := fun W => run_make_rowN (P := Try.prog) 45 35 i0 _ Try.underlying45 hi hz0 .i64 .i64 A A (Nat.le_refl _) (by rw [hz2]; omega) (by omega) W
  obtain ⟨i1, hj, hy0, hy1, hy2⟩ := info_parts' infoOp
  have hmkO := fun W => run_make_rowN (P := Try.prog) 46 37 i1 _ Try.underlying46 hj hy0 .i64 .i64 T T (Nat.le_refl _) (by rw [hy2]; omega) (by omega) W
  have e0 : (Value.agg #[.int .i64 0, .int .i64 0, .string ⟨#[]⟩, .string ⟨#[]⟩, .bool false, .int .i64 0, .slice none 0 0, .slice none 0 0, .slice none 0 0, .int .i64 0, .int .i64 0, .string ⟨#[]⟩, .int .u64 0, .slice none 0 0, .slice none 0 0, .slice none 0 0, .slice none 0 0]).cells = zb.toArray := by simp [Value.cells, zb]
  have e1 : (Value.agg #[.int .i64 0, .string ⟨#[]⟩, .string ⟨#[]⟩, .int .u64 0, .int .i64 0]).cells = zo.toArray := by simp [Value.cells, zo]
  rw [e0, hz1, raw_made (k := 17) zb A rfl] at hmkB
  rw [e1, hy1, raw_made (k := 5) zo T rfl] at hmkO
  clear e0 e1 hz0 hz1 hz2 hi hj hy0 hy1 hy2
  have q1 : decide ((A : Int) < 1) = false := by simp; omega
  have q2 : decide (8192 < (A : Int)) = false := by simp; omega
  have q3 : decide ((T : Int) < 1) = false := by simp; omega
  have q4 : decide (16 < (T : Int)) = false := by simp; omega
  have q5 : decide (4294967295 ≤ gen) = false := by simp; omega
  have hw2 : IntKind.i64.wrap ((T : Int) * 2) = (T : Int) * 2 := by rw [IntKind.wrap_i64]; omega
  go_enter Try.func18, Try.ntmps18
  go_upto_region 4 with (fail)
  go_cut [8] (fun u8 wx => ∃ o gb gr, u8 = .pointer (some ⟨o, 0, none⟩) ∧ NewR w o gb gr A T 0 wx ∧ Blk wx w.heap.size #[.int .i64 A, .int .i64 A, .int .i64 T, .int .i64 T, .int .i64 T, .int .i64 (T * 2), .int .i64 1] 82)
  case first =>
    have o1 := fun M => four w #[.int .i64 A, .int .i64 A, .int .i64 T, .int .i64 T, .int .i64 T, .int .i64 (T * 2), .int .i64 1] (rawA 17 (List.replicate A zb)) (rawA 5 (List.replicate T zo)) M 82 35 37 48
    have o2 := fun M => four w #[.int .i64 A, .int .i64 A, .int .i64 T, .int .i64 T, .int .i64 T, .int .i64 (T * 2), .int .i64 1] (rawA 5 (List.replicate T zo)) (rawA 17 (List.replicate A zb)) M 82 37 35 48
    go_region
    all_goals
      go_wp2_with fail
      go_meet
    · obtain ⟨r1, r2, r3, r4, r5⟩ := o1 _
      exact ⟨_, w.heap.size + 1, w.heap.size + 1 + 1, rfl, ⟨by rw [memA_zero]; exact r4, r2, r3, r5, by omega, by omega⟩, r1⟩
    · obtain ⟨r1, r2, r3, r4, r5⟩ := o2 _
      exact ⟨_, w.heap.size + 1 + 1, w.heap.size + 1, rfl, ⟨by rw [memA_zero]; exact r4, r3, r2, r5, by omega, by omega⟩, r1⟩
  case rest =>
    obtain ⟨o, gb, gr, rfl, R0, S0⟩ := hcut
    have s0 := S0.at 0 rfl
    have s1 := S0.at 1 rfl
    have s2 := S0.at 2 rfl
    have s3 := S0.at 3 rfl
    have s4 := S0.at 4 rfl
    have s5 := S0.at 5 rfl
    have s6 := S0.at 6 rfl
    go_wp2_with fail
    go_loopw [44] (fun i wr => ∃ k : Nat, k ≤ 7 ∧ ∃ j : Int, j = k ∧ i = .int .i64 j ∧ NewR w o gb gr A T k wr) (fun i _ => 7 - (intOf i).toNat)
    case atStart => exact ⟨0, Nat.zero_le _, 0, rfl, rfl, R0⟩
    case round =>
      clear R0 S0 s0 s1 s2 s3 s4 s5 s6
      obtain ⟨k, hk, j, hj, rfl, R⟩ := hrel
      have hk7 : k = 0 ∨ k = 1 ∨ k = 2 ∨ k = 3 ∨ k = 4 ∨ k = 5 ∨ k = 6 ∨ k = 7 := by omega
      clear hk
      rcases hk7 with h | h | h | h | h | h | h | h <;> subst h
      · obtain rfl : j = 0 := by omega
        clear hj
        have hwk : IntKind.i64.wrap 1 = 1 := by rw [IntKind.wrap_i64]; rfl
        have hix : ∀ W, (Instr.index 82 (.agg #[.int .i64 A, .int .i64 A, .int .i64 T, .int .i64 T, .int .i64 T, .int .i64 (T * 2), .int .i64 1]) (.int .i64 0)).run Try.prog W = .ok (.int .i64 (A : Int)) W := fun W => by kernel_rfl
        have c0 : wr.cell? ⟨o, 0 + 1, none⟩ = some (.int .i64 (fromI A T 0)) := by rw [← fk_self A T 0]; exact R.head.at (0 + 1) rfl
        have c1 : wr.cell? ⟨o, 0 + 2, none⟩ = some (.int .i64 (fk A T 0 (0 + 1))) := R.head.at (0 + 2) rfl
        have f1 := R.head.free (0 + 2)
        simp only [Nat.reduceAdd] at c0 c1 f1
        have hw : IntKind.i64.wrap (fromI A T 0 + (A : Int)) = fromI A T (0 + 1) := by
          have e1 := from_succ A T 0 (by omega)
          have e2 := from_rng A T (0 + 1) hA2 hT2
          rw [IntKind.wrap_i64]
          simp only [sizeI, Nat.reduceAdd] at e1 e2 ⊢
          omega
        simp only [Nat.reduceAdd] at hw
        have hN := R.next (show 0 < 7 by omega)
        simp only [Nat.reduceAdd] at hN
        go_upto_region 8 with (fail)
        go_still_tail 14, (by kernel_rfl)
        go_wp2_with fail
        go_roundw
        case rel => exact ⟨0 + 1, by omega, 0 + 1, by omega, by go_num, hN.below (Below.refl _ _).drew⟩
        case measure => simp [intOf]
      · obtain rfl : j = 1 := by omega
        clear hj
        have hwk : IntKind.i64.wrap 2 = 2 := by rw [IntKind.wrap_i64]; rfl
        have hix : ∀ W, (Instr.index 82 (.agg #[.int .i64 A, .int .i64 A, .int .i64 T, .int .i64 T, .int .i64 T, .int .i64 (T * 2), .int .i64 1]) (.int .i64 1)).run Try.prog W = .ok (.int .i64 (A : Int)) W := fun W => by kernel_rfl
        have c0 : wr.cell? ⟨o, 1 + 1, none⟩ = some (.int .i64 (fromI A T 1)) := by rw [← fk_self A T 1]; exact R.head.at (1 + 1) rfl
        have c1 : wr.cell? ⟨o, 1 + 2, none⟩ = some (.int .i64 (fk A T 1 (1 + 1))) := R.head.at (1 + 2) rfl
        have f1 := R.head.free (1 + 2)
        simp only [Nat.reduceAdd] at c0 c1 f1
        have hw : IntKind.i64.wrap (fromI A T 1 + (A : Int)) = fromI A T (1 + 1) := by
          have e1 := from_succ A T 1 (by omega)
          have e2 := from_rng A T (1 + 1) hA2 hT2
          rw [IntKind.wrap_i64]
          simp only [sizeI, Nat.reduceAdd] at e1 e2 ⊢
          omega
        simp only [Nat.reduceAdd] at hw
        have hN := R.next (show 1 < 7 by omega)
        simp only [Nat.reduceAdd] at hN
        go_upto_region 8 with (fail)
        go_still_tail 14, (by kernel_rfl)
        go_wp2_with fail
        go_roundw
        case rel => exact ⟨1 + 1, by omega, 1 + 1, by omega, by go_num, hN.below (Below.refl _ _).drew⟩
        case measure => simp [intOf]
      · obtain rfl : j = 2 := by omega
        clear hj
        have hwk : IntKind.i64.wrap 3 = 3 := by rw [IntKind.wrap_i64]; rfl
        have hix : ∀ W, (Instr.index 82 (.agg #[.int .i64 A, .int .i64 A, .int .i64 T, .int .i64 T, .int .i64 T, .int .i64 (T * 2), .int .i64 1]) (.int .i64 2)).run Try.prog W = .ok (.int .i64 (T : Int)) W := fun W => by kernel_rfl
        have c0 : wr.cell? ⟨o, 2 + 1, none⟩ = some (.int .i64 (fromI A T 2)) := by rw [← fk_self A T 2]; exact R.head.at (2 + 1) rfl
        have c1 : wr.cell? ⟨o, 2 + 2, none⟩ = some (.int .i64 (fk A T 2 (2 + 1))) := R.head.at (2 + 2) rfl
        have f1 := R.head.free (2 + 2)
        simp only [Nat.reduceAdd] at c0 c1 f1
        have hw : IntKind.i64.wrap (fromI A T 2 + (T : Int)) = fromI A T (2 + 1) := by
          have e1 := from_succ A T 2 (by omega)
          have e2 := from_rng A T (2 + 1) hA2 hT2
          rw [IntKind.wrap_i64]
          simp only [sizeI, Nat.reduceAdd] at e1 e2 ⊢
          omega
        simp only [Nat.reduceAdd] at hw
        have hN := R.next (show 2 < 7 by omega)
        simp only [Nat.reduceAdd] at hN
        go_upto_region 8 with (fail)
        go_still_tail 14, (by kernel_rfl)
        go_wp2_with fail
        go_roundw
        case rel => exact ⟨2 + 1, by omega, 2 + 1, by omega, by go_num, hN.below (Below.refl _ _).drew⟩
        case measure => simp [intOf]
      · obtain rfl : j = 3 := by omega
        clear hj
        have hwk : IntKind.i64.wrap 4 = 4 := by rw [IntKind.wrap_i64]; rfl
        have hix : ∀ W, (Instr.index 82 (.agg #[.int .i64 A, .int .i64 A, .int .i64 T, .int .i64 T, .int .i64 T, .int .i64 (T * 2), .int .i64 1]) (.int .i64 3)).run Try.prog W = .ok (.int .i64 (T : Int)) W := fun W => by kernel_rfl
        have c0 : wr.cell? ⟨o, 3 + 1, none⟩ = some (.int .i64 (fromI A T 3)) := by rw [← fk_self A T 3]; exact R.head.at (3 + 1) rfl
        have c1 : wr.cell? ⟨o, 3 + 2, none⟩ = some (.int .i64 (fk A T 3 (3 + 1))) := R.head.at (3 + 2) rfl
        have f1 := R.head.free (3 + 2)
        simp only [Nat.reduceAdd] at c0 c1 f1
        have hw : IntKind.i64.wrap (fromI A T 3 + (T : Int)) = fromI A T (3 + 1) := by
          have e1 := from_succ A T 3 (by omega)
          have e2 := from_rng A T (3 + 1) hA2 hT2
          rw [IntKind.wrap_i64]
          simp only [sizeI, Nat.reduceAdd] at e1 e2 ⊢
          omega
        simp only [Nat.reduceAdd] at hw
        have hN := R.next (show 3 < 7 by omega)
        simp only [Nat.reduceAdd] at hN
        go_upto_region 8 with (fail)
        go_still_tail 14, (by kernel_rfl)
        go_wp2_with fail
        go_roundw
        case rel => exact ⟨3 + 1, by omega, 3 + 1, by omega, by go_num, hN.below (Below.refl _ _).drew⟩
        case measure => simp [intOf]
      · obtain rfl : j = 4 := by omega
        clear hj
        have hwk : IntKind.i64.wrap 5 = 5 := by rw [IntKind.wrap_i64]; rfl
        have hix : ∀ W, (Instr.index 82 (.agg #[.int .i64 A, .int .i64 A, .int .i64 T, .int .i64 T, .int .i64 T, .int .i64 (T * 2), .int .i64 1]) (.int .i64 4)).run Try.prog W = .ok (.int .i64 (T : Int)) W := fun W => by kernel_rfl
        have c0 : wr.cell? ⟨o, 4 + 1, none⟩ = some (.int .i64 (fromI A T 4)) := by rw [← fk_self A T 4]; exact R.head.at (4 + 1) rfl
        have c1 : wr.cell? ⟨o, 4 + 2, none⟩ = some (.int .i64 (fk A T 4 (4 + 1))) := R.head.at (4 + 2) rfl
        have f1 := R.head.free (4 + 2)
        simp only [Nat.reduceAdd] at c0 c1 f1
        have hw : IntKind.i64.wrap (fromI A T 4 + (T : Int)) = fromI A T (4 + 1) := by
          have e1 := from_succ A T 4 (by omega)
          have e2 := from_rng A T (4 + 1) hA2 hT2
          rw [IntKind.wrap_i64]
          simp only [sizeI, Nat.reduceAdd] at e1 e2 ⊢
          omega
        simp only [Nat.reduceAdd] at hw
        have hN := R.next (show 4 < 7 by omega)
        simp only [Nat.reduceAdd] at hN
        go_upto_region 8 with (fail)
        go_still_tail 14, (by kernel_rfl)
        go_wp2_with fail
        go_roundw
        case rel => exact ⟨4 + 1, by omega, 4 + 1, by omega, by go_num, hN.below (Below.refl _ _).drew⟩
        case measure => simp [intOf]
      · obtain rfl : j = 5 := by omega
        clear hj
        have hwk : IntKind.i64.wrap 6 = 6 := by rw [IntKind.wrap_i64]; rfl
        have hix : ∀ W, (Instr.index 82 (.agg #[.int .i64 A, .int .i64 A, .int .i64 T, .int .i64 T, .int .i64 T, .int .i64 (T * 2), .int .i64 1]) (.int .i64 5)).run Try.prog W = .ok (.int .i64 ((T : Int) * 2)) W := fun W => by kernel_rfl
        have c0 : wr.cell? ⟨o, 5 + 1, none⟩ = some (.int .i64 (fromI A T 5)) := by rw [← fk_self A T 5]; exact R.head.at (5 + 1) rfl
        have c1 : wr.cell? ⟨o, 5 + 2, none⟩ = some (.int .i64 (fk A T 5 (5 + 1))) := R.head.at (5 + 2) rfl
        have f1 := R.head.free (5 + 2)
        simp only [Nat.reduceAdd] at c0 c1 f1
        have hw : IntKind.i64.wrap (fromI A T 5 + ((T : Int) * 2)) = fromI A T (5 + 1) := by
          have e1 := from_succ A T 5 (by omega)
          have e2 := from_rng A T (5 + 1) hA2 hT2
          rw [IntKind.wrap_i64]
          simp only [sizeI, Nat.reduceAdd] at e1 e2 ⊢
          omega
        simp only [Nat.reduceAdd] at hw
        have hN := R.next (show 5 < 7 by omega)
        simp only [Nat.reduceAdd] at hN
        go_upto_region 8 with (fail)
        go_still_tail 14, (by kernel_rfl)
        go_wp2_with fail
        go_roundw
        case rel => exact ⟨5 + 1, by omega, 5 + 1, by omega, by go_num, hN.below (Below.refl _ _).drew⟩
        case measure => simp [intOf]
      · obtain rfl : j = 6 := by omega
        clear hj
        have hwk : IntKind.i64.wrap 7 = 7 := by rw [IntKind.wrap_i64]; rfl
        have hix : ∀ W, (Instr.index 82 (.agg #[.int .i64 A, .int .i64 A, .int .i64 T, .int .i64 T, .int .i64 T, .int .i64 (T * 2), .int .i64 1]) (.int .i64 6)).run Try.prog W = .ok (.int .i64 1) W := fun W => by kernel_rfl
        have c0 : wr.cell? ⟨o, 6 + 1, none⟩ = some (.int .i64 (fromI A T 6)) := by rw [← fk_self A T 6]; exact R.head.at (6 + 1) rfl
        have c1 : wr.cell? ⟨o, 6 + 2, none⟩ = some (.int .i64 (fk A T 6 (6 + 1))) := R.head.at (6 + 2) rfl
        have f1 := R.head.free (6 + 2)
        simp only [Nat.reduceAdd] at c0 c1 f1
        have hw : IntKind.i64.wrap (fromI A T 6 + 1) = fromI A T (6 + 1) := by
          have e1 := from_succ A T 6 (by omega)
          have e2 := from_rng A T (6 + 1) hA2 hT2
          rw [IntKind.wrap_i64]
          simp only [sizeI, Nat.reduceAdd] at e1 e2 ⊢
          omega
        simp only [Nat.reduceAdd] at hw
        have hN := R.next (show 6 < 7 by omega)
        simp only [Nat.reduceAdd] at hN
        go_upto_region 8 with (fail)
        go_still_tail 14, (by kernel_rfl)
        go_wp2_with fail
        go_roundw
        case rel => exact ⟨6 + 1, by omega, 6 + 1, by omega, by go_num, hN.below (Below.refl _ _).drew⟩
        case measure => simp [intOf]
      · obtain rfl : j = 7 := by omega
        clear hj
        have hP : PreAt wr o gb gr A T (List.replicate A zb) (List.replicate T zo) := ⟨by rw [← memA_seven]; exact R.head, R.blocks, R.records, by simp, by simp, ⟨hA1, hA2⟩, ⟨hT1, hT2⟩, R.ne⟩
        go_wp2_with fail
        refine (begin_any o gb gr A T _ _ gen wr hP g0 g1).mono ?_
        rintro e w6 ⟨rfl, oc, g, hM, hF, hO, hG⟩
        go_wp2_with fail
        go_ret
        have hs := R.b.size
        have hge := R.ge
        exact ⟨o, oc, g, gb, gr, rfl, hM, hF.below R.b (Nat.le_refl _) (by simp; omega), by omega, by omega, by omega, by omega, by omega⟩
end Go.Proofs.Ytfnjggefinkcaaa.MemP
