/-
  The first block is got: named, copied, Block, Do: contracts for a block without rows.
-/
import Derived.Test.YtpimifnibdjhfaaMemDoW
import Derived.Test.YtpimifnibdjhfaaMemZero
import Derived.Test.YtpimifnibdjhfaaMemAtX
import Derived.Test.YtpimifnibdjhfaaHazList
import Derived.Deep.RegionHeld
import Derived.Laws.IdiomCopy
namespace Go.Proofs.Ytpimifnibdjhfaa.MemP
open Go.RowKit RefP CellP
set_option linter.unusedVariables false
set_option linter.unusedSimpArgs false
/-- the first node, with rows -/
abbrev ndA (k v d : Value) : Array Value := #[.int .i64 0, .string ⟨#[]⟩, .string ⟨#[]⟩, .bool true, .int .i64 (-1), k, v, d]
abbrev nlV : Value := .slice none 0 0
abbrev e0V (b : Nat) : Value := .slice (some ⟨b, 0, none⟩) 0 0
theorem infoStr : (Try.prog.info? 9).map (fun i => (i.zero, i.size, i.bytes)) = some (some (.string ⟨#[]⟩), 1, 16) := by kernel_rfl
theorem infoU64 : (Try.prog.info? 26).map (fun i => (i.zero, i.size, i.bytes)) = some (some (.int .u64 0), 1, 8) := by kernel_rfl
theorem infoI64 : (Try.prog.info? 3).map (fun i => (i.zero, i.size, i.bytes)) = some (some (.int .i64 0), 1, 8) := by kernel_rfl
theorem mk0_string (W : World) : (Instr.makeSlice 42 (.int .i64 0) (.int .i64 0)).run Try.prog W = .ok (.slice (some ⟨W.heap.size, 0, none⟩) 0 0) (W.alloc (.cells #[] 9)) := by
  obtain ⟨i0, hi, hz0, hz1, hz2⟩ := info_parts infoStr
  have hr := run_make (P := Try.prog) W 42 9 i0 _ Try.underlying42 hi hz0 .i64 .i64 0 0 (by omega) (by omega) (by simp) (by omega)
  simpa [madeCells, Array.range_zero'] using hr
theorem mk0_uint64 (W : World) : (Instr.makeSlice 43 (.int .i64 0) (.int .i64 0)).run Try.prog W = .ok (.slice (some ⟨W.heap.size, 0, none⟩) 0 0) (W.alloc (.cells #[] 26)) := by
  obtain ⟨i0, hi, hz0, hz1, hz2⟩ := info_parts infoU64
  have hr := run_make (P := Try.prog) W 43 26 i0 _ Try.underlying43 hi hz0 .i64 .i64 0 0 (by omega) (by omega) (by simp) (by omega)
  simpa [madeCells, Array.range_zero'] using hr
theorem mk0_int (W : World) : (Instr.makeSlice 44 (.int .i64 0) (.int .i64 0)).run Try.prog W = .ok (.slice (some ⟨W.heap.size, 0, none⟩) 0 0) (W.alloc (.cells #[] 3)) := by
  obtain ⟨i0, hi, hz0, hz1, hz2⟩ := info_parts infoI64
  have hr := run_make (P := Try.prog) W 44 3 i0 _ Try.underlying44 hi hz0 .i64 .i64 0 0 (by omega) (by omega) (by simp) (by omega)
  simpa [madeCells, Array.range_zero'] using hr
set_option maxRecDepth 100000 in
set_option maxHeartbeats 3200000 in
theorem nclone_first (w : World) : Calls Try.prog 49 #[.agg (ndA nlV nlV nlV)] w fun e w' => (∃ b1 b2 b3, e = .returned (.agg (ndA (e0V b1) (e0V b2) (e0V b3)))) ∧ Below w.heap.size w w' := by
  have hb0 : Below w.heap.size w ((w.alloc (.cells (ndA nlV nlV nlV) 46)).alloc (.cells #[.int .i64 0, .string ⟨#[]⟩, .string ⟨#[]⟩, .bool false, .int .i64 0, nlV, nlV, nlV] 46)) := by (repeat (first | exact Below.refl _ _ | assumption | refine below_alloc2 ?_ (by first | exact Nat.le_refl _ | omega) _ | refine Below.drew ?_ | refine below_drewN ?_ _ | refine below_push2 ?_ ‹_› (by first | exact Nat.le_refl _ | omega) | refine Below.setCell ?_ (by first | (simp; done) | (simp; omega) | omega) _))
  have BN := (Blk.new w (ndA nlV nlV nlV) 46).alloc (.cells #[.int .i64 0, .string ⟨#[]⟩, .string ⟨#[]⟩, .bool false, .int .i64 0, nlV, nlV, nlV] 46)
  have BR : Blk ((w.alloc (.cells (ndA nlV nlV nlV) 46)).alloc (.cells #[.int .i64 0, .string ⟨#[]⟩, .string ⟨#[]⟩, .bool false, .int .i64 0, nlV, nlV, nlV] 46)) (w.heap.size + 1) #[.int .i64 0, .string ⟨#[]⟩, .string ⟨#[]⟩, .bool false, .int .i64 0, nlV, nlV, nlV] 46 := by
    have := Blk.new (w.alloc (.cells (ndA nlV nlV nlV) 46)) #[.int .i64 0, .string ⟨#[]⟩, .string ⟨#[]⟩, .bool false, .int .i64 0, nlV, nlV, nlV] 46
    simpa using this
  have m1 := mk0_string
  have m2 := mk0_uint64
  have m3 := mk0_int
  go_enter Try.func49, Try.ntmps49
  go_wp2_with fail
  generalize ((w.alloc (.cells (ndA nlV nlV nlV) 46)).alloc (.cells #[.int .i64 0, .string ⟨#[]⟩, .string ⟨#[]⟩, .bool false, .int .i64 0, nlV, nlV, nlV] 46)) = w1 at hb0 BN BR ⊢
  have c5 := BN.at 5 rfl
  have c6 := BN.at 6 rfl
  have c7 := BN.at 7 rfl
  have hs := hb0.size
  go_upto_region 1 with (fail)
  go_cut [3, 4, 5] (fun u3 u4 u5 wx => ∃ b1 b2 b3, u3 = e0V b1 ∧ u4 = e0V b2 ∧ u5 = e0V b3 ∧ Below w.heap.size w wx ∧ Blk wx w.heap.size (ndA nlV nlV nlV) 46 ∧ Blk wx (w.heap.size + 1) #[.int .i64 0, .string ⟨#[]⟩, .string ⟨#[]⟩, .bool false, .int .i64 0, nlV, nlV, nlV] 46)
  case first =>
    go_region_held (fun w' => w'.cell? ⟨w.heap.size, 5, none⟩ = some (.slice none 0 0) ∧ w'.cell? ⟨w.heap.size, 6, none⟩ = some (.slice none 0 0) ∧ w'.cell? ⟨w.heap.size, 7, none⟩ = some (.slice none 0 0)) (first | exact ⟨BN.drew.at 5 rfl, BN.drew.at 6 rfl, BN.drew.at 7 rfl⟩ | exact ⟨(BN.alloc _).drew.at 5 rfl, (BN.alloc _).drew.at 6 rfl, (BN.alloc _).drew.at 7 rfl⟩ | exact ⟨((BN.alloc _).alloc _).drew.at 5 rfl, ((BN.alloc _).alloc _).drew.at 6 rfl, ((BN.alloc _).alloc _).drew.at 7 rfl⟩ | exact ⟨(((BN.alloc _).alloc _).alloc _).drew.at 5 rfl, (((BN.alloc _).alloc _).alloc _).drew.at 6 rfl, (((BN.alloc _).alloc _).alloc _).drew.at 7 rfl⟩) (fail)
    all_goals
      go_wp2_with fail
      go_meet
      exact ⟨_, _, _, rfl, rfl, rfl, (((hb0.alloc hs _).alloc (by simp; omega) _).alloc (by simp; omega) _).drew, (((BN.alloc _).alloc _).alloc _).drew, (((BR.alloc _).alloc _).alloc _).drew⟩
  case rest =>
    obtain ⟨b1, b2, b3, rfl, rfl, rfl, hb2, B2, R2⟩ := hcut
    clear hb0 BN BR c5 c6 c7 hs m1 m2 m3
    have c5 := B2.at 5 rfl
    have c6 := B2.at 6 rfl
    have c7 := B2.at 7 rfl
    have f5 := B2.free 5
    have f6 := B2.free 6
    have f7 := B2.free 7
    go_wp2_with fail
    rw [show (Builtin.copy_ #[42, 42] 3 #[e0V b1, nlV]).run Try.prog wc = .ok (goInt 0) wc from run_copy_none wc _ _ _ 9 _ _ 0 0 0 0 Try.underlying42 (by kernel_rfl) rfl]
    go_wp2_with fail
    rw [show (Builtin.copy_ #[43, 43] 3 #[e0V b2, nlV]).run Try.prog wc = .ok (goInt 0) wc from run_copy_none wc _ _ _ 26 _ _ 0 0 0 0 Try.underlying43 (by kernel_rfl) rfl]
    go_wp2_with fail
    rw [show (Builtin.copy_ #[44, 44] 3 #[e0V b3, nlV]).run Try.prog wc = .ok (goInt 0) wc from run_copy_none wc _ _ _ 3 _ _ 0 0 0 0 Try.underlying44 (by kernel_rfl) rfl]
    have BF : Blk (((wc.setCell ⟨w.heap.size, 5, none⟩ (e0V b1)).setCell ⟨w.heap.size, 6, none⟩ (e0V b2)).setCell ⟨w.heap.size, 7, none⟩ (e0V b3)) w.heap.size (ndA (e0V b1) (e0V b2) (e0V b3)) 46 := by
      simpa [ndA] using ((B2.set 5 (e0V b1)).set 6 (e0V b2)).set 7 (e0V b3)
    have RF := ((R2.far ⟨w.heap.size, 5, none⟩ (e0V b1) (by show w.heap.size + 1 ≠ w.heap.size; omega)).far ⟨w.heap.size, 6, none⟩ (e0V b2) (by show w.heap.size + 1 ≠ w.heap.size; omega)).far ⟨w.heap.size, 7, none⟩ (e0V b3) (by show w.heap.size + 1 ≠ w.heap.size; omega)
    have hbF := ((hb2.setCell (p := ⟨w.heap.size, 5, none⟩) (Nat.le_refl _) (e0V b1)).setCell (p := ⟨w.heap.size, 6, none⟩) (Nat.le_refl _) (e0V b2)).setCell (p := ⟨w.heap.size, 7, none⟩) (Nat.le_refl _) (e0V b3)
    go_wp2_with (first
      | (refine wpList_load_row rfl 46 _ rfl w.heap.size rfl 46 _ (0, 0) _ BF.h Try.underlying46 rfl (by kernel_rfl) ?_)
      | (refine wpList_store_row rfl 46 _ _ rfl (w.heap.size + 1) _ rfl rfl 46 _ RF.h (by kernel_rfl) (by rfl) (by kernel_rfl) ?_))
    refine bodyPost_ret (results_cell_row rfl _ _ (w.heap.size + 1) 46 (ndA (e0V b1) (e0V b2) (e0V b3)) (0, 0) _ rfl (Blk.row RF (ndA (e0V b1) (e0V b2) (e0V b3))).h Try.underlying46 rfl (by kernel_rfl)) rfl ⟨⟨b1, b2, b3, rfl⟩, below_setRow hbF (by omega) _⟩
end Go.Proofs.Ytpimifnibdjhfaa.MemP
