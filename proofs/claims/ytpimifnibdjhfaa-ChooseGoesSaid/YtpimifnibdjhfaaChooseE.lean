/-
  Choosing, the document's Tell: contracts.
-/
import Derived.Test.YtpimifnibdjhfaaChooseD
namespace Go.Proofs.Ytpimifnibdjhfaa.MemP
open Go.RowKit RefP CellP GateP
set_option linter.unusedVariables false
set_option linter.unusedSimpArgs false
abbrev dchZ : Array Value := #[.int .i64 0, .int .i64 0, .slice none 0 0, .slice none 0 0, .slice none 0 0, .int .i64 0, .int .i64 0, .int .u64 0, .int .u64 0, .int .u64 0, .slice none 0 0]
set_option maxRecDepth 100000 in
set_option maxHeartbeats 3200000 in
theorem dtell_0z (A T : Nat) (r : DRows) (s : CS) (a : Option Addr) (c : Nat) (w : World) (ok : Bool) (word ver : Int) (hth : s.th ≤ 16) (he : s.at_ = 0) (hx : word = 0) :
    Calls Try.prog 17 #[.agg (dchA A T r s a c), .agg #[.bool ok, .int .u64 word, .int .u64 ver, .int .i64 0, .int .i64 0, .string ⟨#[]⟩, .string ⟨#[]⟩, .bool false, .int .i64 0, .slice none 0 0, .slice none 0 0, .slice none 0 0, .int .i64 0, .int .i64 0, .string ⟨#[]⟩, .int .u64 0, .slice none 0 0, .slice none 0 0, .slice none 0 0, .slice none 0 0, .int .i64 0, .string ⟨#[]⟩, .string ⟨#[]⟩, .int .u64 0, .int .i64 0]] w fun e w' => e = .returned (.agg (dchA A T r (s.tell word ver) a c)) ∧ Below w.heap.size w w' := by
  rw [tell_0z (v := ver) he hx]
  have hw : IntKind.i64.wrap ((s.th : Int) + 1) = (s.th : Int) + 1 := by rw [IntKind.wrap_i64]; omega
  have hq : (word == 0) = true := by simpa using hx
  clear hx
  have hB : Below w.heap.size w (((w.alloc (.cells (dchA A T r s a c) 40)).alloc (.cells #[.bool ok, .int .u64 word, .int .u64 ver, .int .i64 0, .int .i64 0, .string ⟨#[]⟩, .string ⟨#[]⟩, .bool false, .int .i64 0, .slice none 0 0, .slice none 0 0, .slice none 0 0, .int .i64 0, .int .i64 0, .string ⟨#[]⟩, .int .u64 0, .slice none 0 0, .slice none 0 0, .slice none 0 0, .slice none 0 0, .int .i64 0, .string ⟨#[]⟩, .string ⟨#[]⟩, .int .u64 0, .int .i64 0] 66)).alloc (.cells dchZ 40)) := by (repeat (first | exact Below.refl _ _ | assumption | refine below_alloc2 ?_ (by first | exact Nat.le_refl _ | omega) _ | refine Below.drew ?_ | refine below_drewN ?_ _ | refine below_push2 ?_ ‹_› (by first | exact Nat.le_refl _ | omega) | refine Below.setCell ?_ (by first | (simp; done) | (simp; omega) | omega) _))
  have BC := ((Blk.new w (dchA A T r s a c) 40).alloc (.cells #[.bool ok, .int .u64 word, .int .u64 ver, .int .i64 0, .int .i64 0, .string ⟨#[]⟩, .string ⟨#[]⟩, .bool false, .int .i64 0, .slice none 0 0, .slice none 0 0, .slice none 0 0, .int .i64 0, .int .i64 0, .string ⟨#[]⟩, .int .u64 0, .slice none 0 0, .slice none 0 0, .slice none 0 0, .slice none 0 0, .int .i64 0, .string ⟨#[]⟩, .string ⟨#[]⟩, .int .u64 0, .int .i64 0] 66)).alloc (.cells dchZ 40)
  have BQ : Blk (((w.alloc (.cells (dchA A T r s a c) 40)).alloc (.cells #[.bool ok, .int .u64 word, .int .u64 ver, .int .i64 0, .int .i64 0, .string ⟨#[]⟩, .string ⟨#[]⟩, .bool false, .int .i64 0, .slice none 0 0, .slice none 0 0, .slice none 0 0, .int .i64 0, .int .i64 0, .string ⟨#[]⟩, .int .u64 0, .slice none 0 0, .slice none 0 0, .slice none 0 0, .slice none 0 0, .int .i64 0, .string ⟨#[]⟩, .string ⟨#[]⟩, .int .u64 0, .int .i64 0] 66)).alloc (.cells dchZ 40)) (w.heap.size + 1) #[.bool ok, .int .u64 word, .int .u64 ver, .int .i64 0, .int .i64 0, .string ⟨#[]⟩, .string ⟨#[]⟩, .bool false, .int .i64 0, .slice none 0 0, .slice none 0 0, .slice none 0 0, .int .i64 0, .int .i64 0, .string ⟨#[]⟩, .int .u64 0, .slice none 0 0, .slice none 0 0, .slice none 0 0, .slice none 0 0, .int .i64 0, .string ⟨#[]⟩, .string ⟨#[]⟩, .int .u64 0, .int .i64 0] 66 := by
    have := (Blk.new (w.alloc (.cells (dchA A T r s a c) 40)) #[.bool ok, .int .u64 word, .int .u64 ver, .int .i64 0, .int .i64 0, .string ⟨#[]⟩, .string ⟨#[]⟩, .bool false, .int .i64 0, .slice none 0 0, .slice none 0 0, .slice none 0 0, .int .i64 0, .int .i64 0, .string ⟨#[]⟩, .int .u64 0, .slice none 0 0, .slice none 0 0, .slice none 0 0, .slice none 0 0, .int .i64 0, .string ⟨#[]⟩, .string ⟨#[]⟩, .int .u64 0, .int .i64 0] 66).alloc (.cells dchZ 40)
    simpa using this
  have BR : Blk (((w.alloc (.cells (dchA A T r s a c) 40)).alloc (.cells #[.bool ok, .int .u64 word, .int .u64 ver, .int .i64 0, .int .i64 0, .string ⟨#[]⟩, .string ⟨#[]⟩, .bool false, .int .i64 0, .slice none 0 0, .slice none 0 0, .slice none 0 0, .int .i64 0, .int .i64 0, .string ⟨#[]⟩, .int .u64 0, .slice none 0 0, .slice none 0 0, .slice none 0 0, .slice none 0 0, .int .i64 0, .string ⟨#[]⟩, .string ⟨#[]⟩, .int .u64 0, .int .i64 0] 66)).alloc (.cells dchZ 40)) (w.heap.size + 2) dchZ 40 := by
    have := Blk.new ((w.alloc (.cells (dchA A T r s a c) 40)).alloc (.cells #[.bool ok, .int .u64 word, .int .u64 ver, .int .i64 0, .int .i64 0, .string ⟨#[]⟩, .string ⟨#[]⟩, .bool false, .int .i64 0, .slice none 0 0, .slice none 0 0, .slice none 0 0, .int .i64 0, .int .i64 0, .string ⟨#[]⟩, .int .u64 0, .slice none 0 0, .slice none 0 0, .slice none 0 0, .slice none 0 0, .int .i64 0, .string ⟨#[]⟩, .string ⟨#[]⟩, .int .u64 0, .int .i64 0] 66)) dchZ 40
    simpa using this
  go_enter Try.func17, Try.ntmps17
  go_upto_region 1 with (fail)
  generalize (((w.alloc (.cells (dchA A T r s a c) 40)).alloc (.cells #[.bool ok, .int .u64 word, .int .u64 ver, .int .i64 0, .int .i64 0, .string ⟨#[]⟩, .string ⟨#[]⟩, .bool false, .int .i64 0, .slice none 0 0, .slice none 0 0, .slice none 0 0, .int .i64 0, .int .i64 0, .string ⟨#[]⟩, .int .u64 0, .slice none 0 0, .slice none 0 0, .slice none 0 0, .slice none 0 0, .int .i64 0, .string ⟨#[]⟩, .string ⟨#[]⟩, .int .u64 0, .int .i64 0] 66)).alloc (.cells dchZ 40)) = w1 at hB BC BQ BR ⊢
  have d5 : w1.cell? ⟨w.heap.size, 5, none⟩ = some (.int .i64 s.th) := BC.at 5 rfl
  have d6 : w1.cell? ⟨w.heap.size, 6, none⟩ = some (.int .i64 s.at_) := BC.at 6 rfl
  have d7 : w1.cell? ⟨w.heap.size, 7, none⟩ = some (.int .u64 s.ver) := BC.at 7 rfl
  have d8 : w1.cell? ⟨w.heap.size, 8, none⟩ = some (.int .u64 s.done) := BC.at 8 rfl
  have d9 : w1.cell? ⟨w.heap.size, 9, none⟩ = some (.int .u64 s.ph) := BC.at 9 rfl
  have d10 : w1.cell? ⟨w.heap.size, 10, none⟩ = some (.slice a s.L.length c) := BC.at 10 rfl
  have f5 := BC.free 5
  have f6 := BC.free 6
  have f7 := BC.free 7
  have f8 := BC.free 8
  have f9 := BC.free 9
  have r1 : w1.cell? ⟨w.heap.size + 1, 1, none⟩ = some (.int .u64 word) := BQ.at 1 rfl
  have r2 : w1.cell? ⟨w.heap.size + 1, 2, none⟩ = some (.int .u64 ver) := BQ.at 2 rfl
  rw [he] at d6
  have BF : Blk (((w1.setCell ⟨w.heap.size, 7, none⟩ (.int .u64 ver)).setCell ⟨w.heap.size, 5, none⟩ (.int .i64 ((s.th : Int) + 1)))) w.heap.size (dchA A T r ({ s with ver := ver, th := s.th + 1 }) a c) 40 := by simpa [dchA] using ((BC.set 7 (.int .u64 ver)).set 5 (.int .i64 ((s.th : Int) + 1)))
  have BRF : Blk (((w1.setCell ⟨w.heap.size, 7, none⟩ (.int .u64 ver)).setCell ⟨w.heap.size, 5, none⟩ (.int .i64 ((s.th : Int) + 1)))) (w.heap.size + 2) dchZ 40 := ((BR.far ⟨w.heap.size, 7, none⟩ (.int .u64 ver) (by show w.heap.size + 2 ≠ w.heap.size; omega)).far ⟨w.heap.size, 5, none⟩ (.int .i64 ((s.th : Int) + 1)) (by show w.heap.size + 2 ≠ w.heap.size; omega))
  have hBF : Below w.heap.size w (((w1.setCell ⟨w.heap.size, 7, none⟩ (.int .u64 ver)).setCell ⟨w.heap.size, 5, none⟩ (.int .i64 ((s.th : Int) + 1)))) := ((hB.setCell (p := ⟨w.heap.size, 7, none⟩) (Nat.le_refl _) (.int .u64 ver)).setCell (p := ⟨w.heap.size, 5, none⟩) (Nat.le_refl _) (.int .i64 ((s.th : Int) + 1)))
  go_wp2_with (first
    | (refine wpList_load_row rfl 40 _ rfl w.heap.size rfl 40 _ (0, 0) _ BF.h Try.underlying40 rfl (by kernel_rfl) ?_)
    | (refine wpList_store_row rfl 40 _ _ rfl (w.heap.size + 2) _ rfl rfl 40 _ BRF.h (by kernel_rfl) (by rfl) (by kernel_rfl) ?_))
  refine bodyPost_ret (results_cell_row rfl _ _ (w.heap.size + 2) 40 (dchA A T r ({ s with ver := ver, th := s.th + 1 }) a c) (0, 0) _ rfl (Blk.row BRF (dchA A T r ({ s with ver := ver, th := s.th + 1 }) a c)).h Try.underlying40 rfl (by kernel_rfl)) rfl ⟨rfl, below_setRow hBF (by omega) _⟩
set_option maxRecDepth 100000 in
set_option maxHeartbeats 3200000 in
theorem dtell_0n (A T : Nat) (r : DRows) (s : CS) (a : Option Addr) (c : Nat) (w : World) (ok : Bool) (word ver : Int) (hth : s.th ≤ 16) (he : s.at_ = 0) (hx : ¬ word = 0) :
    Calls Try.prog 17 #[.agg (dchA A T r s a c), .agg #[.bool ok, .int .u64 word, .int .u64 ver, .int .i64 0, .int .i64 0, .string ⟨#[]⟩, .string ⟨#[]⟩, .bool false, .int .i64 0, .slice none 0 0, .slice none 0 0, .slice none 0 0, .int .i64 0, .int .i64 0, .string ⟨#[]⟩, .int .u64 0, .slice none 0 0, .slice none 0 0, .slice none 0 0, .slice none 0 0, .int .i64 0, .string ⟨#[]⟩, .string ⟨#[]⟩, .int .u64 0, .int .i64 0]] w fun e w' => e = .returned (.agg (dchA A T r (s.tell word ver) a c)) ∧ Below w.heap.size w w' := by
  rw [tell_0n (v := ver) he hx]
  have hw : IntKind.i64.wrap ((s.th : Int) + 1) = (s.th : Int) + 1 := by rw [IntKind.wrap_i64]; omega
  have hq : (word == 0) = false := not_eq hx
  clear hx
  have hB : Below w.heap.size w (((w.alloc (.cells (dchA A T r s a c) 40)).alloc (.cells #[.bool ok, .int .u64 word, .int .u64 ver, .int .i64 0, .int .i64 0, .string ⟨#[]⟩, .string ⟨#[]⟩, .bool false, .int .i64 0, .slice none 0 0, .slice none 0 0, .slice none 0 0, .int .i64 0, .int .i64 0, .string ⟨#[]⟩, .int .u64 0, .slice none 0 0, .slice none 0 0, .slice none 0 0, .slice none 0 0, .int .i64 0, .string ⟨#[]⟩, .string ⟨#[]⟩, .int .u64 0, .int .i64 0] 66)).alloc (.cells dchZ 40)) := by (repeat (first | exact Below.refl _ _ | assumption | refine below_alloc2 ?_ (by first | exact Nat.le_refl _ | omega) _ | refine Below.drew ?_ | refine below_drewN ?_ _ | refine below_push2 ?_ ‹_› (by first | exact Nat.le_refl _ | omega) | refine Below.setCell ?_ (by first | (simp; done) | (simp; omega) | omega) _))
  have BC := ((Blk.new w (dchA A T r s a c) 40).alloc (.cells #[.bool ok, .int .u64 word, .int .u64 ver, .int .i64 0, .int .i64 0, .string ⟨#[]⟩, .string ⟨#[]⟩, .bool false, .int .i64 0, .slice none 0 0, .slice none 0 0, .slice none 0 0, .int .i64 0, .int .i64 0, .string ⟨#[]⟩, .int .u64 0, .slice none 0 0, .slice none 0 0, .slice none 0 0, .slice none 0 0, .int .i64 0, .string ⟨#[]⟩, .string ⟨#[]⟩, .int .u64 0, .int .i64 0] 66)).alloc (.cells dchZ 40)
  have BQ : Blk (((w.alloc (.cells (dchA A T r s a c) 40)).alloc (.cells #[.bool ok, .int .u64 word, .int .u64 ver, .int .i64 0, .int .i64 0, .string ⟨#[]⟩, .string ⟨#[]⟩, .bool false, .int .i64 0, .slice none 0 0, .slice none 0 0, .slice none 0 0, .int .i64 0, .int .i64 0, .string ⟨#[]⟩, .int .u64 0, .slice none 0 0, .slice none 0 0, .slice none 0 0, .slice none 0 0, .int .i64 0, .string ⟨#[]⟩, .string ⟨#[]⟩, .int .u64 0, .int .i64 0] 66)).alloc (.cells dchZ 40)) (w.heap.size + 1) #[.bool ok, .int .u64 word, .int .u64 ver, .int .i64 0, .int .i64 0, .string ⟨#[]⟩, .string ⟨#[]⟩, .bool false, .int .i64 0, .slice none 0 0, .slice none 0 0, .slice none 0 0, .int .i64 0, .int .i64 0, .string ⟨#[]⟩, .int .u64 0, .slice none 0 0, .slice none 0 0, .slice none 0 0, .slice none 0 0, .int .i64 0, .string ⟨#[]⟩, .string ⟨#[]⟩, .int .u64 0, .int .i64 0] 66 := by
    have := (Blk.new (w.alloc (.cells (dchA A T r s a c) 40)) #[.bool ok, .int .u64 word, .int .u64 ver, .int .i64 0, .int .i64 0, .string ⟨#[]⟩, .string ⟨#[]⟩, .bool false, .int .i64 0, .slice none 0 0, .slice none 0 0, .slice none 0 0, .int .i64 0, .int .i64 0, .string ⟨#[]⟩, .int .u64 0, .slice none 0 0, .slice none 0 0, .slice none 0 0, .slice none 0 0, .int .i64 0, .string ⟨#[]⟩, .string ⟨#[]⟩, .int .u64 0, .int .i64 0] 66).alloc (.cells dchZ 40)
    simpa using this
  have BR : Blk (((w.alloc (.cells (dchA A T r s a c) 40)).alloc (.cells #[.bool ok, .int .u64 word, .int .u64 ver, .int .i64 0, .int .i64 0, .string ⟨#[]⟩, .string ⟨#[]⟩, .bool false, .int .i64 0, .slice none 0 0, .slice none 0 0, .slice none 0 0, .int .i64 0, .int .i64 0, .string ⟨#[]⟩, .int .u64 0, .slice none 0 0, .slice none 0 0, .slice none 0 0, .slice none 0 0, .int .i64 0, .string ⟨#[]⟩, .string ⟨#[]⟩, .int .u64 0, .int .i64 0] 66)).alloc (.cells dchZ 40)) (w.heap.size + 2) dchZ 40 := by
    have := Blk.new ((w.alloc (.cells (dchA A T r s a c) 40)).alloc (.cells #[.bool ok, .int .u64 word, .int .u64 ver, .int .i64 0, .int .i64 0, .string ⟨#[]⟩, .string ⟨#[]⟩, .bool false, .int .i64 0, .slice none 0 0, .slice none 0 0, .slice none 0 0, .int .i64 0, .int .i64 0, .string ⟨#[]⟩, .int .u64 0, .slice none 0 0, .slice none 0 0, .slice none 0 0, .slice none 0 0, .int .i64 0, .string ⟨#[]⟩, .string ⟨#[]⟩, .int .u64 0, .int .i64 0] 66)) dchZ 40
    simpa using this
  go_enter Try.func17, Try.ntmps17
  go_upto_region 1 with (fail)
  generalize (((w.alloc (.cells (dchA A T r s a c) 40)).alloc (.cells #[.bool ok, .int .u64 word, .int .u64 ver, .int .i64 0, .int .i64 0, .string ⟨#[]⟩, .string ⟨#[]⟩, .bool false, .int .i64 0, .slice none 0 0, .slice none 0 0, .slice none 0 0, .int .i64 0, .int .i64 0, .string ⟨#[]⟩, .int .u64 0, .slice none 0 0, .slice none 0 0, .slice none 0 0, .slice none 0 0, .int .i64 0, .string ⟨#[]⟩, .string ⟨#[]⟩, .int .u64 0, .int .i64 0] 66)).alloc (.cells dchZ 40)) = w1 at hB BC BQ BR ⊢
  have d5 : w1.cell? ⟨w.heap.size, 5, none⟩ = some (.int .i64 s.th) := BC.at 5 rfl
  have d6 : w1.cell? ⟨w.heap.size, 6, none⟩ = some (.int .i64 s.at_) := BC.at 6 rfl
  have d7 : w1.cell? ⟨w.heap.size, 7, none⟩ = some (.int .u64 s.ver) := BC.at 7 rfl
  have d8 : w1.cell? ⟨w.heap.size, 8, none⟩ = some (.int .u64 s.done) := BC.at 8 rfl
  have d9 : w1.cell? ⟨w.heap.size, 9, none⟩ = some (.int .u64 s.ph) := BC.at 9 rfl
  have d10 : w1.cell? ⟨w.heap.size, 10, none⟩ = some (.slice a s.L.length c) := BC.at 10 rfl
  have f5 := BC.free 5
  have f6 := BC.free 6
  have f7 := BC.free 7
  have f8 := BC.free 8
  have f9 := BC.free 9
  have r1 : w1.cell? ⟨w.heap.size + 1, 1, none⟩ = some (.int .u64 word) := BQ.at 1 rfl
  have r2 : w1.cell? ⟨w.heap.size + 1, 2, none⟩ = some (.int .u64 ver) := BQ.at 2 rfl
  rw [he] at d6
  have BF : Blk (((w1.setCell ⟨w.heap.size, 7, none⟩ (.int .u64 ver)).setCell ⟨w.heap.size, 6, none⟩ (.int .i64 1))) w.heap.size (dchA A T r ({ s with ver := ver, at_ := 1 }) a c) 40 := by simpa [dchA] using ((BC.set 7 (.int .u64 ver)).set 6 (.int .i64 1))
  have BRF : Blk (((w1.setCell ⟨w.heap.size, 7, none⟩ (.int .u64 ver)).setCell ⟨w.heap.size, 6, none⟩ (.int .i64 1))) (w.heap.size + 2) dchZ 40 := ((BR.far ⟨w.heap.size, 7, none⟩ (.int .u64 ver) (by show w.heap.size + 2 ≠ w.heap.size; omega)).far ⟨w.heap.size, 6, none⟩ (.int .i64 1) (by show w.heap.size + 2 ≠ w.heap.size; omega))
  have hBF : Below w.heap.size w (((w1.setCell ⟨w.heap.size, 7, none⟩ (.int .u64 ver)).setCell ⟨w.heap.size, 6, none⟩ (.int .i64 1))) := ((hB.setCell (p := ⟨w.heap.size, 7, none⟩) (Nat.le_refl _) (.int .u64 ver)).setCell (p := ⟨w.heap.size, 6, none⟩) (Nat.le_refl _) (.int .i64 1))
  go_wp2_with (first
    | (refine wpList_load_row rfl 40 _ rfl w.heap.size rfl 40 _ (0, 0) _ BF.h Try.underlying40 rfl (by kernel_rfl) ?_)
    | (refine wpList_store_row rfl 40 _ _ rfl (w.heap.size + 2) _ rfl rfl 40 _ BRF.h (by kernel_rfl) (by rfl) (by kernel_rfl) ?_))
  refine bodyPost_ret (results_cell_row rfl _ _ (w.heap.size + 2) 40 (dchA A T r ({ s with ver := ver, at_ := 1 }) a c) (0, 0) _ rfl (Blk.row BRF (dchA A T r ({ s with ver := ver, at_ := 1 }) a c)).h Try.underlying40 rfl (by kernel_rfl)) rfl ⟨rfl, below_setRow hBF (by omega) _⟩
set_option maxRecDepth 100000 in
set_option maxHeartbeats 3200000 in
theorem dtell_1 (A T : Nat) (r : DRows) (s : CS) (a : Option Addr) (c : Nat) (w : World) (ok : Bool) (word ver : Int) (hth : s.th ≤ 16) (he : s.at_ = 1) :
    Calls Try.prog 17 #[.agg (dchA A T r s a c), .agg #[.bool ok, .int .u64 word, .int .u64 ver, .int .i64 0, .int .i64 0, .string ⟨#[]⟩, .string ⟨#[]⟩, .bool false, .int .i64 0, .slice none 0 0, .slice none 0 0, .slice none 0 0, .int .i64 0, .int .i64 0, .string ⟨#[]⟩, .int .u64 0, .slice none 0 0, .slice none 0 0, .slice none 0 0, .slice none 0 0, .int .i64 0, .string ⟨#[]⟩, .string ⟨#[]⟩, .int .u64 0, .int .i64 0]] w fun e w' => e = .returned (.agg (dchA A T r (s.tell word ver) a c)) ∧ Below w.heap.size w w' := by
  rw [tell_1 he]
  have hw : IntKind.i64.wrap ((s.th : Int) + 1) = (s.th : Int) + 1 := by rw [IntKind.wrap_i64]; omega
  have hB : Below w.heap.size w (((w.alloc (.cells (dchA A T r s a c) 40)).alloc (.cells #[.bool ok, .int .u64 word, .int .u64 ver, .int .i64 0, .int .i64 0, .string ⟨#[]⟩, .string ⟨#[]⟩, .bool false, .int .i64 0, .slice none 0 0, .slice none 0 0, .slice none 0 0, .int .i64 0, .int .i64 0, .string ⟨#[]⟩, .int .u64 0, .slice none 0 0, .slice none 0 0, .slice none 0 0, .slice none 0 0, .int .i64 0, .string ⟨#[]⟩, .string ⟨#[]⟩, .int .u64 0, .int .i64 0] 66)).alloc (.cells dchZ 40)) := by (repeat (first | exact Below.refl _ _ | assumption | refine below_alloc2 ?_ (by first | exact Nat.le_refl _ | omega) _ | refine Below.drew ?_ | refine below_drewN ?_ _ | refine below_push2 ?_ ‹_› (by first | exact Nat.le_refl _ | omega) | refine Below.setCell ?_ (by first | (simp; done) | (simp; omega) | omega) _))
  have BC := ((Blk.new w (dchA A T r s a c) 40).alloc (.cells #[.bool ok, .int .u64 word, .int .u64 ver, .int .i64 0, .int .i64 0, .string ⟨#[]⟩, .string ⟨#[]⟩, .bool false, .int .i64 0, .slice none 0 0, .slice none 0 0, .slice none 0 0, .int .i64 0, .int .i64 0, .string ⟨#[]⟩, .int .u64 0, .slice none 0 0, .slice none 0 0, .slice none 0 0, .slice none 0 0, .int .i64 0, .string ⟨#[]⟩, .string ⟨#[]⟩, .int .u64 0, .int .i64 0] 66)).alloc (.cells dchZ 40)
  have BQ : Blk (((w.alloc (.cells (dchA A T r s a c) 40)).alloc (.cells #[.bool ok, .int .u64 word, .int .u64 ver, .int .i64 0, .int .i64 0, .string ⟨#[]⟩, .string ⟨#[]⟩, .bool false, .int .i64 0, .slice none 0 0, .slice none 0 0, .slice none 0 0, .int .i64 0, .int .i64 0, .string ⟨#[]⟩, .int .u64 0, .slice none 0 0, .slice none 0 0, .slice none 0 0, .slice none 0 0, .int .i64 0, .string ⟨#[]⟩, .string ⟨#[]⟩, .int .u64 0, .int .i64 0] 66)).alloc (.cells dchZ 40)) (w.heap.size + 1) #[.bool ok, .int .u64 word, .int .u64 ver, .int .i64 0, .int .i64 0, .string ⟨#[]⟩, .string ⟨#[]⟩, .bool false, .int .i64 0, .slice none 0 0, .slice none 0 0, .slice none 0 0, .int .i64 0, .int .i64 0, .string ⟨#[]⟩, .int .u64 0, .slice none 0 0, .slice none 0 0, .slice none 0 0, .slice none 0 0, .int .i64 0, .string ⟨#[]⟩, .string ⟨#[]⟩, .int .u64 0, .int .i64 0] 66 := by
    have := (Blk.new (w.alloc (.cells (dchA A T r s a c) 40)) #[.bool ok, .int .u64 word, .int .u64 ver, .int .i64 0, .int .i64 0, .string ⟨#[]⟩, .string ⟨#[]⟩, .bool false, .int .i64 0, .slice none 0 0, .slice none 0 0, .slice none 0 0, .int .i64 0, .int .i64 0, .string ⟨#[]⟩, .int .u64 0, .slice none 0 0, .slice none 0 0, .slice none 0 0, .slice none 0 0, .int .i64 0, .string ⟨#[]⟩, .string ⟨#[]⟩, .int .u64 0, .int .i64 0] 66).alloc (.cells dchZ 40)
    simpa using this
  have BR : Blk (((w.alloc (.cells (dchA A T r s a c) 40)).alloc (.cells #[.bool ok, .int .u64 word, .int .u64 ver, .int .i64 0, .int .i64 0, .string ⟨#[]⟩, .string ⟨#[]⟩, .bool false, .int .i64 0, .slice none 0 0, .slice none 0 0, .slice none 0 0, .int .i64 0, .int .i64 0, .string ⟨#[]⟩, .int .u64 0, .slice none 0 0, .slice none 0 0, .slice none 0 0, .slice none 0 0, .int .i64 0, .string ⟨#[]⟩, .string ⟨#[]⟩, .int .u64 0, .int .i64 0] 66)).alloc (.cells dchZ 40)) (w.heap.size + 2) dchZ 40 := by
    have := Blk.new ((w.alloc (.cells (dchA A T r s a c) 40)).alloc (.cells #[.bool ok, .int .u64 word, .int .u64 ver, .int .i64 0, .int .i64 0, .string ⟨#[]⟩, .string ⟨#[]⟩, .bool false, .int .i64 0, .slice none 0 0, .slice none 0 0, .slice none 0 0, .int .i64 0, .int .i64 0, .string ⟨#[]⟩, .int .u64 0, .slice none 0 0, .slice none 0 0, .slice none 0 0, .slice none 0 0, .int .i64 0, .string ⟨#[]⟩, .string ⟨#[]⟩, .int .u64 0, .int .i64 0] 66)) dchZ 40
    simpa using this
  go_enter Try.func17, Try.ntmps17
  go_upto_region 1 with (fail)
  generalize (((w.alloc (.cells (dchA A T r s a c) 40)).alloc (.cells #[.bool ok, .int .u64 word, .int .u64 ver, .int .i64 0, .int .i64 0, .string ⟨#[]⟩, .string ⟨#[]⟩, .bool false, .int .i64 0, .slice none 0 0, .slice none 0 0, .slice none 0 0, .int .i64 0, .int .i64 0, .string ⟨#[]⟩, .int .u64 0, .slice none 0 0, .slice none 0 0, .slice none 0 0, .slice none 0 0, .int .i64 0, .string ⟨#[]⟩, .string ⟨#[]⟩, .int .u64 0, .int .i64 0] 66)).alloc (.cells dchZ 40)) = w1 at hB BC BQ BR ⊢
  have d5 : w1.cell? ⟨w.heap.size, 5, none⟩ = some (.int .i64 s.th) := BC.at 5 rfl
  have d6 : w1.cell? ⟨w.heap.size, 6, none⟩ = some (.int .i64 s.at_) := BC.at 6 rfl
  have d7 : w1.cell? ⟨w.heap.size, 7, none⟩ = some (.int .u64 s.ver) := BC.at 7 rfl
  have d8 : w1.cell? ⟨w.heap.size, 8, none⟩ = some (.int .u64 s.done) := BC.at 8 rfl
  have d9 : w1.cell? ⟨w.heap.size, 9, none⟩ = some (.int .u64 s.ph) := BC.at 9 rfl
  have d10 : w1.cell? ⟨w.heap.size, 10, none⟩ = some (.slice a s.L.length c) := BC.at 10 rfl
  have f5 := BC.free 5
  have f6 := BC.free 6
  have f7 := BC.free 7
  have f8 := BC.free 8
  have f9 := BC.free 9
  have r1 : w1.cell? ⟨w.heap.size + 1, 1, none⟩ = some (.int .u64 word) := BQ.at 1 rfl
  have r2 : w1.cell? ⟨w.heap.size + 1, 2, none⟩ = some (.int .u64 ver) := BQ.at 2 rfl
  rw [he] at d6
  have BF : Blk (((w1.setCell ⟨w.heap.size, 8, none⟩ (.int .u64 word)).setCell ⟨w.heap.size, 6, none⟩ (.int .i64 2))) w.heap.size (dchA A T r ({ s with done := word, at_ := 2 }) a c) 40 := by simpa [dchA] using ((BC.set 8 (.int .u64 word)).set 6 (.int .i64 2))
  have BRF : Blk (((w1.setCell ⟨w.heap.size, 8, none⟩ (.int .u64 word)).setCell ⟨w.heap.size, 6, none⟩ (.int .i64 2))) (w.heap.size + 2) dchZ 40 := ((BR.far ⟨w.heap.size, 8, none⟩ (.int .u64 word) (by show w.heap.size + 2 ≠ w.heap.size; omega)).far ⟨w.heap.size, 6, none⟩ (.int .i64 2) (by show w.heap.size + 2 ≠ w.heap.size; omega))
  have hBF : Below w.heap.size w (((w1.setCell ⟨w.heap.size, 8, none⟩ (.int .u64 word)).setCell ⟨w.heap.size, 6, none⟩ (.int .i64 2))) := ((hB.setCell (p := ⟨w.heap.size, 8, none⟩) (Nat.le_refl _) (.int .u64 word)).setCell (p := ⟨w.heap.size, 6, none⟩) (Nat.le_refl _) (.int .i64 2))
  go_wp2_with (first
    | (refine wpList_load_row rfl 40 _ rfl w.heap.size rfl 40 _ (0, 0) _ BF.h Try.underlying40 rfl (by kernel_rfl) ?_)
    | (refine wpList_store_row rfl 40 _ _ rfl (w.heap.size + 2) _ rfl rfl 40 _ BRF.h (by kernel_rfl) (by rfl) (by kernel_rfl) ?_))
  refine bodyPost_ret (results_cell_row rfl _ _ (w.heap.size + 2) 40 (dchA A T r ({ s with done := word, at_ := 2 }) a c) (0, 0) _ rfl (Blk.row BRF (dchA A T r ({ s with done := word, at_ := 2 }) a c)).h Try.underlying40 rfl (by kernel_rfl)) rfl ⟨rfl, below_setRow hBF (by omega) _⟩
set_option maxRecDepth 100000 in
set_option maxHeartbeats 3200000 in
theorem dtell_2 (A T : Nat) (r : DRows) (s : CS) (a : Option Addr) (c : Nat) (w : World) (ok : Bool) (word ver : Int) (hth : s.th ≤ 16) (he : s.at_ = 2) :
    Calls Try.prog 17 #[.agg (dchA A T r s a c), .agg #[.bool ok, .int .u64 word, .int .u64 ver, .int .i64 0, .int .i64 0, .string ⟨#[]⟩, .string ⟨#[]⟩, .bool false, .int .i64 0, .slice none 0 0, .slice none 0 0, .slice none 0 0, .int .i64 0, .int .i64 0, .string ⟨#[]⟩, .int .u64 0, .slice none 0 0, .slice none 0 0, .slice none 0 0, .slice none 0 0, .int .i64 0, .string ⟨#[]⟩, .string ⟨#[]⟩, .int .u64 0, .int .i64 0]] w fun e w' => e = .returned (.agg (dchA A T r (s.tell word ver) a c)) ∧ Below w.heap.size w w' := by
  rw [tell_2 he]
  have hw : IntKind.i64.wrap ((s.th : Int) + 1) = (s.th : Int) + 1 := by rw [IntKind.wrap_i64]; omega
  have hB : Below w.heap.size w (((w.alloc (.cells (dchA A T r s a c) 40)).alloc (.cells #[.bool ok, .int .u64 word, .int .u64 ver, .int .i64 0, .int .i64 0, .string ⟨#[]⟩, .string ⟨#[]⟩, .bool false, .int .i64 0, .slice none 0 0, .slice none 0 0, .slice none 0 0, .int .i64 0, .int .i64 0, .string ⟨#[]⟩, .int .u64 0, .slice none 0 0, .slice none 0 0, .slice none 0 0, .slice none 0 0, .int .i64 0, .string ⟨#[]⟩, .string ⟨#[]⟩, .int .u64 0, .int .i64 0] 66)).alloc (.cells dchZ 40)) := by (repeat (first | exact Below.refl _ _ | assumption | refine below_alloc2 ?_ (by first | exact Nat.le_refl _ | omega) _ | refine Below.drew ?_ | refine below_drewN ?_ _ | refine below_push2 ?_ ‹_› (by first | exact Nat.le_refl _ | omega) | refine Below.setCell ?_ (by first | (simp; done) | (simp; omega) | omega) _))
  have BC := ((Blk.new w (dchA A T r s a c) 40).alloc (.cells #[.bool ok, .int .u64 word, .int .u64 ver, .int .i64 0, .int .i64 0, .string ⟨#[]⟩, .string ⟨#[]⟩, .bool false, .int .i64 0, .slice none 0 0, .slice none 0 0, .slice none 0 0, .int .i64 0, .int .i64 0, .string ⟨#[]⟩, .int .u64 0, .slice none 0 0, .slice none 0 0, .slice none 0 0, .slice none 0 0, .int .i64 0, .string ⟨#[]⟩, .string ⟨#[]⟩, .int .u64 0, .int .i64 0] 66)).alloc (.cells dchZ 40)
  have BQ : Blk (((w.alloc (.cells (dchA A T r s a c) 40)).alloc (.cells #[.bool ok, .int .u64 word, .int .u64 ver, .int .i64 0, .int .i64 0, .string ⟨#[]⟩, .string ⟨#[]⟩, .bool false, .int .i64 0, .slice none 0 0, .slice none 0 0, .slice none 0 0, .int .i64 0, .int .i64 0, .string ⟨#[]⟩, .int .u64 0, .slice none 0 0, .slice none 0 0, .slice none 0 0, .slice none 0 0, .int .i64 0, .string ⟨#[]⟩, .string ⟨#[]⟩, .int .u64 0, .int .i64 0] 66)).alloc (.cells dchZ 40)) (w.heap.size + 1) #[.bool ok, .int .u64 word, .int .u64 ver, .int .i64 0, .int .i64 0, .string ⟨#[]⟩, .string ⟨#[]⟩, .bool false, .int .i64 0, .slice none 0 0, .slice none 0 0, .slice none 0 0, .int .i64 0, .int .i64 0, .string ⟨#[]⟩, .int .u64 0, .slice none 0 0, .slice none 0 0, .slice none 0 0, .slice none 0 0, .int .i64 0, .string ⟨#[]⟩, .string ⟨#[]⟩, .int .u64 0, .int .i64 0] 66 := by
    have := (Blk.new (w.alloc (.cells (dchA A T r s a c) 40)) #[.bool ok, .int .u64 word, .int .u64 ver, .int .i64 0, .int .i64 0, .string ⟨#[]⟩, .string ⟨#[]⟩, .bool false, .int .i64 0, .slice none 0 0, .slice none 0 0, .slice none 0 0, .int .i64 0, .int .i64 0, .string ⟨#[]⟩, .int .u64 0, .slice none 0 0, .slice none 0 0, .slice none 0 0, .slice none 0 0, .int .i64 0, .string ⟨#[]⟩, .string ⟨#[]⟩, .int .u64 0, .int .i64 0] 66).alloc (.cells dchZ 40)
    simpa using this
  have BR : Blk (((w.alloc (.cells (dchA A T r s a c) 40)).alloc (.cells #[.bool ok, .int .u64 word, .int .u64 ver, .int .i64 0, .int .i64 0, .string ⟨#[]⟩, .string ⟨#[]⟩, .bool false, .int .i64 0, .slice none 0 0, .slice none 0 0, .slice none 0 0, .int .i64 0, .int .i64 0, .string ⟨#[]⟩, .int .u64 0, .slice none 0 0, .slice none 0 0, .slice none 0 0, .slice none 0 0, .int .i64 0, .string ⟨#[]⟩, .string ⟨#[]⟩, .int .u64 0, .int .i64 0] 66)).alloc (.cells dchZ 40)) (w.heap.size + 2) dchZ 40 := by
    have := Blk.new ((w.alloc (.cells (dchA A T r s a c) 40)).alloc (.cells #[.bool ok, .int .u64 word, .int .u64 ver, .int .i64 0, .int .i64 0, .string ⟨#[]⟩, .string ⟨#[]⟩, .bool false, .int .i64 0, .slice none 0 0, .slice none 0 0, .slice none 0 0, .int .i64 0, .int .i64 0, .string ⟨#[]⟩, .int .u64 0, .slice none 0 0, .slice none 0 0, .slice none 0 0, .slice none 0 0, .int .i64 0, .string ⟨#[]⟩, .string ⟨#[]⟩, .int .u64 0, .int .i64 0] 66)) dchZ 40
    simpa using this
  go_enter Try.func17, Try.ntmps17
  go_upto_region 1 with (fail)
  generalize (((w.alloc (.cells (dchA A T r s a c) 40)).alloc (.cells #[.bool ok, .int .u64 word, .int .u64 ver, .int .i64 0, .int .i64 0, .string ⟨#[]⟩, .string ⟨#[]⟩, .bool false, .int .i64 0, .slice none 0 0, .slice none 0 0, .slice none 0 0, .int .i64 0, .int .i64 0, .string ⟨#[]⟩, .int .u64 0, .slice none 0 0, .slice none 0 0, .slice none 0 0, .slice none 0 0, .int .i64 0, .string ⟨#[]⟩, .string ⟨#[]⟩, .int .u64 0, .int .i64 0] 66)).alloc (.cells dchZ 40)) = w1 at hB BC BQ BR ⊢
  have d5 : w1.cell? ⟨w.heap.size, 5, none⟩ = some (.int .i64 s.th) := BC.at 5 rfl
  have d6 : w1.cell? ⟨w.heap.size, 6, none⟩ = some (.int .i64 s.at_) := BC.at 6 rfl
  have d7 : w1.cell? ⟨w.heap.size, 7, none⟩ = some (.int .u64 s.ver) := BC.at 7 rfl
  have d8 : w1.cell? ⟨w.heap.size, 8, none⟩ = some (.int .u64 s.done) := BC.at 8 rfl
  have d9 : w1.cell? ⟨w.heap.size, 9, none⟩ = some (.int .u64 s.ph) := BC.at 9 rfl
  have d10 : w1.cell? ⟨w.heap.size, 10, none⟩ = some (.slice a s.L.length c) := BC.at 10 rfl
  have f5 := BC.free 5
  have f6 := BC.free 6
  have f7 := BC.free 7
  have f8 := BC.free 8
  have f9 := BC.free 9
  have r1 : w1.cell? ⟨w.heap.size + 1, 1, none⟩ = some (.int .u64 word) := BQ.at 1 rfl
  have r2 : w1.cell? ⟨w.heap.size + 1, 2, none⟩ = some (.int .u64 ver) := BQ.at 2 rfl
  rw [he] at d6
  have BF : Blk (((w1.setCell ⟨w.heap.size, 9, none⟩ (.int .u64 word)).setCell ⟨w.heap.size, 6, none⟩ (.int .i64 3))) w.heap.size (dchA A T r ({ s with ph := word, at_ := 3 }) a c) 40 := by simpa [dchA] using ((BC.set 9 (.int .u64 word)).set 6 (.int .i64 3))
  have BRF : Blk (((w1.setCell ⟨w.heap.size, 9, none⟩ (.int .u64 word)).setCell ⟨w.heap.size, 6, none⟩ (.int .i64 3))) (w.heap.size + 2) dchZ 40 := ((BR.far ⟨w.heap.size, 9, none⟩ (.int .u64 word) (by show w.heap.size + 2 ≠ w.heap.size; omega)).far ⟨w.heap.size, 6, none⟩ (.int .i64 3) (by show w.heap.size + 2 ≠ w.heap.size; omega))
  have hBF : Below w.heap.size w (((w1.setCell ⟨w.heap.size, 9, none⟩ (.int .u64 word)).setCell ⟨w.heap.size, 6, none⟩ (.int .i64 3))) := ((hB.setCell (p := ⟨w.heap.size, 9, none⟩) (Nat.le_refl _) (.int .u64 word)).setCell (p := ⟨w.heap.size, 6, none⟩) (Nat.le_refl _) (.int .i64 3))
  go_wp2_with (first
    | (refine wpList_load_row rfl 40 _ rfl w.heap.size rfl 40 _ (0, 0) _ BF.h Try.underlying40 rfl (by kernel_rfl) ?_)
    | (refine wpList_store_row rfl 40 _ _ rfl (w.heap.size + 2) _ rfl rfl 40 _ BRF.h (by kernel_rfl) (by rfl) (by kernel_rfl) ?_))
  refine bodyPost_ret (results_cell_row rfl _ _ (w.heap.size + 2) 40 (dchA A T r ({ s with ph := word, at_ := 3 }) a c) (0, 0) _ rfl (Blk.row BRF (dchA A T r ({ s with ph := word, at_ := 3 }) a c)).h Try.underlying40 rfl (by kernel_rfl)) rfl ⟨rfl, below_setRow hBF (by omega) _⟩
set_option maxRecDepth 100000 in
set_option maxHeartbeats 3200000 in
theorem dtell_3d (A T : Nat) (r : DRows) (s : CS) (a : Option Addr) (c : Nat) (w : World) (ok : Bool) (word ver : Int) (hth : s.th ≤ 16) (he : s.at_ = 3) (hx : ¬ s.done = 0) :
    Calls Try.prog 17 #[.agg (dchA A T r s a c), .agg #[.bool ok, .int .u64 word, .int .u64 ver, .int .i64 0, .int .i64 0, .string ⟨#[]⟩, .string ⟨#[]⟩, .bool false, .int .i64 0, .slice none 0 0, .slice none 0 0, .slice none 0 0, .int .i64 0, .int .i64 0, .string ⟨#[]⟩, .int .u64 0, .slice none 0 0, .slice none 0 0, .slice none 0 0, .slice none 0 0, .int .i64 0, .string ⟨#[]⟩, .string ⟨#[]⟩, .int .u64 0, .int .i64 0]] w fun e w' => e = .returned (.agg (dchA A T r (s.tell word ver) a c)) ∧ Below w.heap.size w w' := by
  rw [tell_3n (x := word) (v := ver) he (fun q => hx q.2)]
  have hw : IntKind.i64.wrap ((s.th : Int) + 1) = (s.th : Int) + 1 := by rw [IntKind.wrap_i64]; omega
  have hq : (s.done == 0) = false := not_eq hx
  clear hx
  have hB : Below w.heap.size w (((w.alloc (.cells (dchA A T r s a c) 40)).alloc (.cells #[.bool ok, .int .u64 word, .int .u64 ver, .int .i64 0, .int .i64 0, .string ⟨#[]⟩, .string ⟨#[]⟩, .bool false, .int .i64 0, .slice none 0 0, .slice none 0 0, .slice none 0 0, .int .i64 0, .int .i64 0, .string ⟨#[]⟩, .int .u64 0, .slice none 0 0, .slice none 0 0, .slice none 0 0, .slice none 0 0, .int .i64 0, .string ⟨#[]⟩, .string ⟨#[]⟩, .int .u64 0, .int .i64 0] 66)).alloc (.cells dchZ 40)) := by (repeat (first | exact Below.refl _ _ | assumption | refine below_alloc2 ?_ (by first | exact Nat.le_refl _ | omega) _ | refine Below.drew ?_ | refine below_drewN ?_ _ | refine below_push2 ?_ ‹_› (by first | exact Nat.le_refl _ | omega) | refine Below.setCell ?_ (by first | (simp; done) | (simp; omega) | omega) _))
  have BC := ((Blk.new w (dchA A T r s a c) 40).alloc (.cells #[.bool ok, .int .u64 word, .int .u64 ver, .int .i64 0, .int .i64 0, .string ⟨#[]⟩, .string ⟨#[]⟩, .bool false, .int .i64 0, .slice none 0 0, .slice none 0 0, .slice none 0 0, .int .i64 0, .int .i64 0, .string ⟨#[]⟩, .int .u64 0, .slice none 0 0, .slice none 0 0, .slice none 0 0, .slice none 0 0, .int .i64 0, .string ⟨#[]⟩, .string ⟨#[]⟩, .int .u64 0, .int .i64 0] 66)).alloc (.cells dchZ 40)
  have BQ : Blk (((w.alloc (.cells (dchA A T r s a c) 40)).alloc (.cells #[.bool ok, .int .u64 word, .int .u64 ver, .int .i64 0, .int .i64 0, .string ⟨#[]⟩, .string ⟨#[]⟩, .bool false, .int .i64 0, .slice none 0 0, .slice none 0 0, .slice none 0 0, .int .i64 0, .int .i64 0, .string ⟨#[]⟩, .int .u64 0, .slice none 0 0, .slice none 0 0, .slice none 0 0, .slice none 0 0, .int .i64 0, .string ⟨#[]⟩, .string ⟨#[]⟩, .int .u64 0, .int .i64 0] 66)).alloc (.cells dchZ 40)) (w.heap.size + 1) #[.bool ok, .int .u64 word, .int .u64 ver, .int .i64 0, .int .i64 0, .string ⟨#[]⟩, .string ⟨#[]⟩, .bool false, .int .i64 0, .slice none 0 0, .slice none 0 0, .slice none 0 0, .int .i64 0, .int .i64 0, .string ⟨#[]⟩, .int .u64 0, .slice none 0 0, .slice none 0 0, .slice none 0 0, .slice none 0 0, .int .i64 0, .string ⟨#[]⟩, .string ⟨#[]⟩, .int .u64 0, .int .i64 0] 66 := by
    have := (Blk.new (w.alloc (.cells (dchA A T r s a c) 40)) #[.bool ok, .int .u64 word, .int .u64 ver, .int .i64 0, .int .i64 0, .string ⟨#[]⟩, .string ⟨#[]⟩, .bool false, .int .i64 0, .slice none 0 0, .slice none 0 0, .slice none 0 0, .int .i64 0, .int .i64 0, .string ⟨#[]⟩, .int .u64 0, .slice none 0 0, .slice none 0 0, .slice none 0 0, .slice none 0 0, .int .i64 0, .string ⟨#[]⟩, .string ⟨#[]⟩, .int .u64 0, .int .i64 0] 66).alloc (.cells dchZ 40)
    simpa using this
  have BR : Blk (((w.alloc (.cells (dchA A T r s a c) 40)).alloc (.cells #[.bool ok, .int .u64 word, .int .u64 ver, .int .i64 0, .int .i64 0, .string ⟨#[]⟩, .string ⟨#[]⟩, .bool false, .int .i64 0, .slice none 0 0, .slice none 0 0, .slice none 0 0, .int .i64 0, .int .i64 0, .string ⟨#[]⟩, .int .u64 0, .slice none 0 0, .slice none 0 0, .slice none 0 0, .slice none 0 0, .int .i64 0, .string ⟨#[]⟩, .string ⟨#[]⟩, .int .u64 0, .int .i64 0] 66)).alloc (.cells dchZ 40)) (w.heap.size + 2) dchZ 40 := by
    have := Blk.new ((w.alloc (.cells (dchA A T r s a c) 40)).alloc (.cells #[.bool ok, .int .u64 word, .int .u64 ver, .int .i64 0, .int .i64 0, .string ⟨#[]⟩, .string ⟨#[]⟩, .bool false, .int .i64 0, .slice none 0 0, .slice none 0 0, .slice none 0 0, .int .i64 0, .int .i64 0, .string ⟨#[]⟩, .int .u64 0, .slice none 0 0, .slice none 0 0, .slice none 0 0, .slice none 0 0, .int .i64 0, .string ⟨#[]⟩, .string ⟨#[]⟩, .int .u64 0, .int .i64 0] 66)) dchZ 40
    simpa using this
  go_enter Try.func17, Try.ntmps17
  go_upto_region 1 with (fail)
  generalize (((w.alloc (.cells (dchA A T r s a c) 40)).alloc (.cells #[.bool ok, .int .u64 word, .int .u64 ver, .int .i64 0, .int .i64 0, .string ⟨#[]⟩, .string ⟨#[]⟩, .bool false, .int .i64 0, .slice none 0 0, .slice none 0 0, .slice none 0 0, .int .i64 0, .int .i64 0, .string ⟨#[]⟩, .int .u64 0, .slice none 0 0, .slice none 0 0, .slice none 0 0, .slice none 0 0, .int .i64 0, .string ⟨#[]⟩, .string ⟨#[]⟩, .int .u64 0, .int .i64 0] 66)).alloc (.cells dchZ 40)) = w1 at hB BC BQ BR ⊢
  have d5 : w1.cell? ⟨w.heap.size, 5, none⟩ = some (.int .i64 s.th) := BC.at 5 rfl
  have d6 : w1.cell? ⟨w.heap.size, 6, none⟩ = some (.int .i64 s.at_) := BC.at 6 rfl
  have d7 : w1.cell? ⟨w.heap.size, 7, none⟩ = some (.int .u64 s.ver) := BC.at 7 rfl
  have d8 : w1.cell? ⟨w.heap.size, 8, none⟩ = some (.int .u64 s.done) := BC.at 8 rfl
  have d9 : w1.cell? ⟨w.heap.size, 9, none⟩ = some (.int .u64 s.ph) := BC.at 9 rfl
  have d10 : w1.cell? ⟨w.heap.size, 10, none⟩ = some (.slice a s.L.length c) := BC.at 10 rfl
  have f5 := BC.free 5
  have f6 := BC.free 6
  have f7 := BC.free 7
  have f8 := BC.free 8
  have f9 := BC.free 9
  have r1 : w1.cell? ⟨w.heap.size + 1, 1, none⟩ = some (.int .u64 word) := BQ.at 1 rfl
  have r2 : w1.cell? ⟨w.heap.size + 1, 2, none⟩ = some (.int .u64 ver) := BQ.at 2 rfl
  rw [he] at d6
  have BF : Blk (((w1.setCell ⟨w.heap.size, 5, none⟩ (.int .i64 ((s.th : Int) + 1))).setCell ⟨w.heap.size, 6, none⟩ (.int .i64 0))) w.heap.size (dchA A T r ({ s with th := s.th + 1, at_ := 0 }) a c) 40 := by simpa [dchA] using ((BC.set 5 (.int .i64 ((s.th : Int) + 1))).set 6 (.int .i64 0))
  have BRF : Blk (((w1.setCell ⟨w.heap.size, 5, none⟩ (.int .i64 ((s.th : Int) + 1))).setCell ⟨w.heap.size, 6, none⟩ (.int .i64 0))) (w.heap.size + 2) dchZ 40 := ((BR.far ⟨w.heap.size, 5, none⟩ (.int .i64 ((s.th : Int) + 1)) (by show w.heap.size + 2 ≠ w.heap.size; omega)).far ⟨w.heap.size, 6, none⟩ (.int .i64 0) (by show w.heap.size + 2 ≠ w.heap.size; omega))
  have hBF : Below w.heap.size w (((w1.setCell ⟨w.heap.size, 5, none⟩ (.int .i64 ((s.th : Int) + 1))).setCell ⟨w.heap.size, 6, none⟩ (.int .i64 0))) := ((hB.setCell (p := ⟨w.heap.size, 5, none⟩) (Nat.le_refl _) (.int .i64 ((s.th : Int) + 1))).setCell (p := ⟨w.heap.size, 6, none⟩) (Nat.le_refl _) (.int .i64 0))
  go_wp2_with (first
    | (refine wpList_load_row rfl 40 _ rfl w.heap.size rfl 40 _ (0, 0) _ BF.h Try.underlying40 rfl (by kernel_rfl) ?_)
    | (refine wpList_store_row rfl 40 _ _ rfl (w.heap.size + 2) _ rfl rfl 40 _ BRF.h (by kernel_rfl) (by rfl) (by kernel_rfl) ?_))
  refine bodyPost_ret (results_cell_row rfl _ _ (w.heap.size + 2) 40 (dchA A T r ({ s with th := s.th + 1, at_ := 0 }) a c) (0, 0) _ rfl (Blk.row BRF (dchA A T r ({ s with th := s.th + 1, at_ := 0 }) a c)).h Try.underlying40 rfl (by kernel_rfl)) rfl ⟨rfl, below_setRow hBF (by omega) _⟩
set_option maxRecDepth 100000 in
set_option maxHeartbeats 3200000 in
theorem dtell_3v (A T : Nat) (r : DRows) (s : CS) (a : Option Addr) (c : Nat) (w : World) (ok : Bool) (word ver : Int) (hth : s.th ≤ 16) (he : s.at_ = 3) (hx : s.done = 0) (hv : ¬ ver = s.ver) :
    Calls Try.prog 17 #[.agg (dchA A T r s a c), .agg #[.bool ok, .int .u64 word, .int .u64 ver, .int .i64 0, .int .i64 0, .string ⟨#[]⟩, .string ⟨#[]⟩, .bool false, .int .i64 0, .slice none 0 0, .slice none 0 0, .slice none 0 0, .int .i64 0, .int .i64 0, .string ⟨#[]⟩, .int .u64 0, .slice none 0 0, .slice none 0 0, .slice none 0 0, .slice none 0 0, .int .i64 0, .string ⟨#[]⟩, .string ⟨#[]⟩, .int .u64 0, .int .i64 0]] w fun e w' => e = .returned (.agg (dchA A T r (s.tell word ver) a c)) ∧ Below w.heap.size w w' := by
  rw [tell_3n (x := word) (v := ver) he (fun q => hv q.1)]
  have hw : IntKind.i64.wrap ((s.th : Int) + 1) = (s.th : Int) + 1 := by rw [IntKind.wrap_i64]; omega
  have hq : (s.done == 0) = true := by simpa using hx
  have hq2 : (ver == s.ver) = false := not_eq hv
  clear hx hv
  have hB : Below w.heap.size w (((w.alloc (.cells (dchA A T r s a c) 40)).alloc (.cells #[.bool ok, .int .u64 word, .int .u64 ver, .int .i64 0, .int .i64 0, .string ⟨#[]⟩, .string ⟨#[]⟩, .bool false, .int .i64 0, .slice none 0 0, .slice none 0 0, .slice none 0 0, .int .i64 0, .int .i64 0, .string ⟨#[]⟩, .int .u64 0, .slice none 0 0, .slice none 0 0, .slice none 0 0, .slice none 0 0, .int .i64 0, .string ⟨#[]⟩, .string ⟨#[]⟩, .int .u64 0, .int .i64 0] 66)).alloc (.cells dchZ 40)) := by (repeat (first | exact Below.refl _ _ | assumption | refine below_alloc2 ?_ (by first | exact Nat.le_refl _ | omega) _ | refine Below.drew ?_ | refine below_drewN ?_ _ | refine below_push2 ?_ ‹_› (by first | exact Nat.le_refl _ | omega) | refine Below.setCell ?_ (by first | (simp; done) | (simp; omega) | omega) _))
  have BC := ((Blk.new w (dchA A T r s a c) 40).alloc (.cells #[.bool ok, .int .u64 word, .int .u64 ver, .int .i64 0, .int .i64 0, .string ⟨#[]⟩, .string ⟨#[]⟩, .bool false, .int .i64 0, .slice none 0 0, .slice none 0 0, .slice none 0 0, .int .i64 0, .int .i64 0, .string ⟨#[]⟩, .int .u64 0, .slice none 0 0, .slice none 0 0, .slice none 0 0, .slice none 0 0, .int .i64 0, .string ⟨#[]⟩, .string ⟨#[]⟩, .int .u64 0, .int .i64 0] 66)).alloc (.cells dchZ 40)
  have BQ : Blk (((w.alloc (.cells (dchA A T r s a c) 40)).alloc (.cells #[.bool ok, .int .u64 word, .int .u64 ver, .int .i64 0, .int .i64 0, .string ⟨#[]⟩, .string ⟨#[]⟩, .bool false, .int .i64 0, .slice none 0 0, .slice none 0 0, .slice none 0 0, .int .i64 0, .int .i64 0, .string ⟨#[]⟩, .int .u64 0, .slice none 0 0, .slice none 0 0, .slice none 0 0, .slice none 0 0, .int .i64 0, .string ⟨#[]⟩, .string ⟨#[]⟩, .int .u64 0, .int .i64 0] 66)).alloc (.cells dchZ 40)) (w.heap.size + 1) #[.bool ok, .int .u64 word, .int .u64 ver, .int .i64 0, .int .i64 0, .string ⟨#[]⟩, .string ⟨#[]⟩, .bool false, .int .i64 0, .slice none 0 0, .slice none 0 0, .slice none 0 0, .int .i64 0, .int .i64 0, .string ⟨#[]⟩, .int .u64 0, .slice none 0 0, .slice none 0 0, .slice none 0 0, .slice none 0 0, .int .i64 0, .string ⟨#[]⟩, .string ⟨#[]⟩, .int .u64 0, .int .i64 0] 66 := by
    have := (Blk.new (w.alloc (.cells (dchA A T r s a c) 40)) #[.bool ok, .int .u64 word, .int .u64 ver, .int .i64 0, .int .i64 0, .string ⟨#[]⟩, .string ⟨#[]⟩, .bool false, .int .i64 0, .slice none 0 0, .slice none 0 0, .slice none 0 0, .int .i64 0, .int .i64 0, .string ⟨#[]⟩, .int .u64 0, .slice none 0 0, .slice none 0 0, .slice none 0 0, .slice none 0 0, .int .i64 0, .string ⟨#[]⟩, .string ⟨#[]⟩, .int .u64 0, .int .i64 0] 66).alloc (.cells dchZ 40)
    simpa using this
  have BR : Blk (((w.alloc (.cells (dchA A T r s a c) 40)).alloc (.cells #[.bool ok, .int .u64 word, .int .u64 ver, .int .i64 0, .int .i64 0, .string ⟨#[]⟩, .string ⟨#[]⟩, .bool false, .int .i64 0, .slice none 0 0, .slice none 0 0, .slice none 0 0, .int .i64 0, .int .i64 0, .string ⟨#[]⟩, .int .u64 0, .slice none 0 0, .slice none 0 0, .slice none 0 0, .slice none 0 0, .int .i64 0, .string ⟨#[]⟩, .string ⟨#[]⟩, .int .u64 0, .int .i64 0] 66)).alloc (.cells dchZ 40)) (w.heap.size + 2) dchZ 40 := by
    have := Blk.new ((w.alloc (.cells (dchA A T r s a c) 40)).alloc (.cells #[.bool ok, .int .u64 word, .int .u64 ver, .int .i64 0, .int .i64 0, .string ⟨#[]⟩, .string ⟨#[]⟩, .bool false, .int .i64 0, .slice none 0 0, .slice none 0 0, .slice none 0 0, .int .i64 0, .int .i64 0, .string ⟨#[]⟩, .int .u64 0, .slice none 0 0, .slice none 0 0, .slice none 0 0, .slice none 0 0, .int .i64 0, .string ⟨#[]⟩, .string ⟨#[]⟩, .int .u64 0, .int .i64 0] 66)) dchZ 40
    simpa using this
  go_enter Try.func17, Try.ntmps17
  go_upto_region 1 with (fail)
  generalize (((w.alloc (.cells (dchA A T r s a c) 40)).alloc (.cells #[.bool ok, .int .u64 word, .int .u64 ver, .int .i64 0, .int .i64 0, .string ⟨#[]⟩, .string ⟨#[]⟩, .bool false, .int .i64 0, .slice none 0 0, .slice none 0 0, .slice none 0 0, .int .i64 0, .int .i64 0, .string ⟨#[]⟩, .int .u64 0, .slice none 0 0, .slice none 0 0, .slice none 0 0, .slice none 0 0, .int .i64 0, .string ⟨#[]⟩, .string ⟨#[]⟩, .int .u64 0, .int .i64 0] 66)).alloc (.cells dchZ 40)) = w1 at hB BC BQ BR ⊢
  have d5 : w1.cell? ⟨w.heap.size, 5, none⟩ = some (.int .i64 s.th) := BC.at 5 rfl
  have d6 : w1.cell? ⟨w.heap.size, 6, none⟩ = some (.int .i64 s.at_) := BC.at 6 rfl
  have d7 : w1.cell? ⟨w.heap.size, 7, none⟩ = some (.int .u64 s.ver) := BC.at 7 rfl
  have d8 : w1.cell? ⟨w.heap.size, 8, none⟩ = some (.int .u64 s.done) := BC.at 8 rfl
  have d9 : w1.cell? ⟨w.heap.size, 9, none⟩ = some (.int .u64 s.ph) := BC.at 9 rfl
  have d10 : w1.cell? ⟨w.heap.size, 10, none⟩ = some (.slice a s.L.length c) := BC.at 10 rfl
  have f5 := BC.free 5
  have f6 := BC.free 6
  have f7 := BC.free 7
  have f8 := BC.free 8
  have f9 := BC.free 9
  have r1 : w1.cell? ⟨w.heap.size + 1, 1, none⟩ = some (.int .u64 word) := BQ.at 1 rfl
  have r2 : w1.cell? ⟨w.heap.size + 1, 2, none⟩ = some (.int .u64 ver) := BQ.at 2 rfl
  rw [he] at d6
  have BF : Blk (((w1.setCell ⟨w.heap.size, 5, none⟩ (.int .i64 ((s.th : Int) + 1))).setCell ⟨w.heap.size, 6, none⟩ (.int .i64 0))) w.heap.size (dchA A T r ({ s with th := s.th + 1, at_ := 0 }) a c) 40 := by simpa [dchA] using ((BC.set 5 (.int .i64 ((s.th : Int) + 1))).set 6 (.int .i64 0))
  have BRF : Blk (((w1.setCell ⟨w.heap.size, 5, none⟩ (.int .i64 ((s.th : Int) + 1))).setCell ⟨w.heap.size, 6, none⟩ (.int .i64 0))) (w.heap.size + 2) dchZ 40 := ((BR.far ⟨w.heap.size, 5, none⟩ (.int .i64 ((s.th : Int) + 1)) (by show w.heap.size + 2 ≠ w.heap.size; omega)).far ⟨w.heap.size, 6, none⟩ (.int .i64 0) (by show w.heap.size + 2 ≠ w.heap.size; omega))
  have hBF : Below w.heap.size w (((w1.setCell ⟨w.heap.size, 5, none⟩ (.int .i64 ((s.th : Int) + 1))).setCell ⟨w.heap.size, 6, none⟩ (.int .i64 0))) := ((hB.setCell (p := ⟨w.heap.size, 5, none⟩) (Nat.le_refl _) (.int .i64 ((s.th : Int) + 1))).setCell (p := ⟨w.heap.size, 6, none⟩) (Nat.le_refl _) (.int .i64 0))
  go_wp2_with (first
    | (refine wpList_load_row rfl 40 _ rfl w.heap.size rfl 40 _ (0, 0) _ BF.h Try.underlying40 rfl (by kernel_rfl) ?_)
    | (refine wpList_store_row rfl 40 _ _ rfl (w.heap.size + 2) _ rfl rfl 40 _ BRF.h (by kernel_rfl) (by rfl) (by kernel_rfl) ?_))
  refine bodyPost_ret (results_cell_row rfl _ _ (w.heap.size + 2) 40 (dchA A T r ({ s with th := s.th + 1, at_ := 0 }) a c) (0, 0) _ rfl (Blk.row BRF (dchA A T r ({ s with th := s.th + 1, at_ := 0 }) a c)).h Try.underlying40 rfl (by kernel_rfl)) rfl ⟨rfl, below_setRow hBF (by omega) _⟩
end Go.Proofs.Ytpimifnibdjhfaa.MemP
