/-
  The example of chapter 26 is true.
-/
import Derived.Test.YtfnjggefinkcaaaMemDoW
import Derived.Deep.WholeRow
namespace Go.Proofs.Ytfnjggefinkcaaa.MemP
open Go.RowKit RefP CellP
set_option linter.unusedVariables false
set_option linter.unusedSimpArgs false
/-- a reply is kept in a variable of its own -/
theorem rep_ok (a : Bool) (b c : Int) (W : World) : (Instr.field 50 (.agg #[.bool a, .int .u64 b, .int .u64 c, .int .i64 0, .int .i64 0, .string ⟨#[]⟩, .string ⟨#[]⟩, .bool false, .int .i64 0, .slice none 0 0, .slice none 0 0, .slice none 0 0, .int .i64 0, .int .i64 0, .string ⟨#[]⟩, .int .u64 0, .slice none 0 0, .slice none 0 0, .slice none 0 0, .slice none 0 0, .int .i64 0, .string ⟨#[]⟩, .string ⟨#[]⟩, .int .u64 0, .int .i64 0]) 0).run Try.prog W = .ok (.bool a) W := by kernel_rfl
theorem rep_word (a : Bool) (b c : Int) (W : World) : (Instr.field 50 (.agg #[.bool a, .int .u64 b, .int .u64 c, .int .i64 0, .int .i64 0, .string ⟨#[]⟩, .string ⟨#[]⟩, .bool false, .int .i64 0, .slice none 0 0, .slice none 0 0, .slice none 0 0, .int .i64 0, .int .i64 0, .string ⟨#[]⟩, .int .u64 0, .slice none 0 0, .slice none 0 0, .slice none 0 0, .slice none 0 0, .int .i64 0, .string ⟨#[]⟩, .string ⟨#[]⟩, .int .u64 0, .int .i64 0]) 1).run Try.prog W = .ok (.int .u64 b) W := by kernel_rfl
theorem rep_ver (a : Bool) (b c : Int) (W : World) : (Instr.field 50 (.agg #[.bool a, .int .u64 b, .int .u64 c, .int .i64 0, .int .i64 0, .string ⟨#[]⟩, .string ⟨#[]⟩, .bool false, .int .i64 0, .slice none 0 0, .slice none 0 0, .slice none 0 0, .int .i64 0, .int .i64 0, .string ⟨#[]⟩, .int .u64 0, .slice none 0 0, .slice none 0 0, .slice none 0 0, .slice none 0 0, .int .i64 0, .string ⟨#[]⟩, .string ⟨#[]⟩, .int .u64 0, .int .i64 0]) 2).run Try.prog W = .ok (.int .u64 c) W := by kernel_rfl
theorem ex1 : casB (freshL 4 2 0) 18 0 = true := by decide +kernel
theorem ex2 : casB (casL (freshL 4 2 0) 18 0 5) 18 0 = false := by decide +kernel
theorem ex3 : loadW (casL (freshL 4 2 0) 18 0 5) 18 = 5 := by decide +kernel
theorem ex4 : (casL (freshL 4 2 0) 18 0 5).length = 19 := by decide +kernel
theorem ex5 : gateI 4 2 = 18 := by decide
set_option maxRecDepth 100000 in
set_option maxHeartbeats 3200000 in
theorem lives_any (w : World) : Calls Try.prog 8 #[] w fun e w' => e = .returned (.bool true) ∧ Below w.heap.size w w' := by
  have hfw := rep_word
  go_enter Try.func8, Try.ntmps8
  go_wp2_with fail
  refine (mnew_yes 4 2 0 _ (by omega) (by omega) (by omega) (by omega) (by omega) (by omega)).mono ?_
  rintro e w1 ⟨o, oc, g, gb, gr, rfl, hM, hb1, ho, hoc, hg, hgb, hgr⟩
  go_wp2_with fail
  refine (gate_any _ hM).mono ?_
  rw [ex5]
  rintro e w2 ⟨rfl, hb2⟩
  have hM2 := hM.below hb2
  have hB2 := below_push2 hb1 hb2 (Nat.le_refl _)
  clear hM hb1 hb2
  go_wp2_with fail
  refine (do_cas 18 0 5 _ _ _ _ _ _ _ _ _ _ _ _ _ _ _ _ _ _ _ _ _ _ _ hM2 (by omega) (by omega) (by omega) (by omega)).mono ?_
  rw [ex1]
  rintro e w3 ⟨rfl, hM3, hF3⟩
  have hB3 := hF3.below hB2 (Nat.le_refl _) (by simp; omega)
  have hM4 := hM3.below ((Below.refl _ w3).alloc (Nat.le_refl _) (.cells #[.bool true, .int .u64 0, .int .u64 0, .int .i64 0, .int .i64 0, .string ⟨#[]⟩, .string ⟨#[]⟩, .bool false, .int .i64 0, .slice none 0 0, .slice none 0 0, .slice none 0 0, .int .i64 0, .int .i64 0, .string ⟨#[]⟩, .int .u64 0, .slice none 0 0, .slice none 0 0, .slice none 0 0, .slice none 0 0, .int .i64 0, .string ⟨#[]⟩, .string ⟨#[]⟩, .int .u64 0, .int .i64 0] 50))
  have hB4 := below_alloc2 hB3 (Nat.le_refl _) (.cells #[.bool true, .int .u64 0, .int .u64 0, .int .i64 0, .int .i64 0, .string ⟨#[]⟩, .string ⟨#[]⟩, .bool false, .int .i64 0, .slice none 0 0, .slice none 0 0, .slice none 0 0, .int .i64 0, .int .i64 0, .string ⟨#[]⟩, .int .u64 0, .slice none 0 0, .slice none 0 0, .slice none 0 0, .slice none 0 0, .int .i64 0, .string ⟨#[]⟩, .string ⟨#[]⟩, .int .u64 0, .int .i64 0] 50)
  have RA := Blk.new w3 #[.bool true, .int .u64 0, .int .u64 0, .int .i64 0, .int .i64 0, .string ⟨#[]⟩, .string ⟨#[]⟩, .bool false, .int .i64 0, .slice none 0 0, .slice none 0 0, .slice none 0 0, .int .i64 0, .int .i64 0, .string ⟨#[]⟩, .int .u64 0, .slice none 0 0, .slice none 0 0, .slice none 0 0, .slice none 0 0, .int .i64 0, .string ⟨#[]⟩, .string ⟨#[]⟩, .int .u64 0, .int .i64 0] 50
  have hg3 := hM3.cells.rows.lt
  have hgb3 := hM3.blocks.lt
  clear hM2 hB2 hM3 hF3 hB3
  go_wp2_with (refine wpList_store_row rfl 50 _ _ rfl _ _ rfl rfl 50 _ (Blk.new w3 _ _).h (by kernel_rfl) (by rfl) (by kernel_rfl) ?_; rw [World.setRow_alloc_new])
  refine (gate_any _ hM4).mono ?_
  rw [ex5]
  rintro e w5 ⟨rfl, hb5⟩
  have hM5 := hM4.below hb5
  have hB5 := below_push2 hB4 hb5 (Nat.le_refl _)
  have RA5 := RA.below hb5
  clear hM4 hB4 hb5 RA
  go_wp2_with fail
  refine (do_cas 18 0 6 _ _ _ _ _ _ _ _ _ _ _ _ _ _ _ _ _ _ _ _ _ _ _ hM5 (by omega) (by omega) (by omega) (by omega)).mono ?_
  rw [ex2, casL_no 6 ex2, casBs_no _ _ ex2]
  rintro e w6 ⟨rfl, hM6, hF6⟩
  have hB6 := hF6.below hB5 (Nat.le_refl _) (by simp; omega)
  have RA6 := hF6.blk RA5 (by simp; omega)
  have hM7 := hM6.below ((Below.refl _ w6).alloc (Nat.le_refl _) (.cells #[.bool false, .int .u64 0, .int .u64 0, .int .i64 0, .int .i64 0, .string ⟨#[]⟩, .string ⟨#[]⟩, .bool false, .int .i64 0, .slice none 0 0, .slice none 0 0, .slice none 0 0, .int .i64 0, .int .i64 0, .string ⟨#[]⟩, .int .u64 0, .slice none 0 0, .slice none 0 0, .slice none 0 0, .slice none 0 0, .int .i64 0, .string ⟨#[]⟩, .string ⟨#[]⟩, .int .u64 0, .int .i64 0] 50))
  have hB7 := below_alloc2 hB6 (Nat.le_refl _) (.cells #[.bool false, .int .u64 0, .int .u64 0, .int .i64 0, .int .i64 0, .string ⟨#[]⟩, .string ⟨#[]⟩, .bool false, .int .i64 0, .slice none 0 0, .slice none 0 0, .slice none 0 0, .int .i64 0, .int .i64 0, .string ⟨#[]⟩, .int .u64 0, .slice none 0 0, .slice none 0 0, .slice none 0 0, .slice none 0 0, .int .i64 0, .string ⟨#[]⟩, .string ⟨#[]⟩, .int .u64 0, .int .i64 0] 50)
  have RA7 := RA6.alloc (.cells #[.bool false, .int .u64 0, .int .u64 0, .int .i64 0, .int .i64 0, .string ⟨#[]⟩, .string ⟨#[]⟩, .bool false, .int .i64 0, .slice none 0 0, .slice none 0 0, .slice none 0 0, .int .i64 0, .int .i64 0, .string ⟨#[]⟩, .int .u64 0, .slice none 0 0, .slice none 0 0, .slice none 0 0, .slice none 0 0, .int .i64 0, .string ⟨#[]⟩, .string ⟨#[]⟩, .int .u64 0, .int .i64 0] 50)
  have RB7 := Blk.new w6 #[.bool false, .int .u64 0, .int .u64 0, .int .i64 0, .int .i64 0, .string ⟨#[]⟩, .string ⟨#[]⟩, .bool false, .int .i64 0, .slice none 0 0, .slice none 0 0, .slice none 0 0, .int .i64 0, .int .i64 0, .string ⟨#[]⟩, .int .u64 0, .slice none 0 0, .slice none 0 0, .slice none 0 0, .slice none 0 0, .int .i64 0, .string ⟨#[]⟩, .string ⟨#[]⟩, .int .u64 0, .int .i64 0] 50
  clear hM5 hB5 hM6 hF6 hB6 RA5 RA6
  go_wp2_with (refine wpList_store_row rfl 50 _ _ rfl _ _ rfl rfl 50 _ (Blk.new w6 _ _).h (by kernel_rfl) (by rfl) (by kernel_rfl) ?_; rw [World.setRow_alloc_new])
  refine (mlen_any _ hM7).mono ?_
  rw [ex4]
  rintro e w8 ⟨rfl, rfl⟩
  go_wp2_with fail
  refine (gate_any _ hM7).mono ?_
  rw [ex5]
  rintro e w8 ⟨rfl, hb8⟩
  have hM8 := hM7.below hb8
  have hB8 := below_push2 hB7 hb8 (Nat.le_refl _)
  have r0 := (RA7.below hb8).at 0 rfl
  have s0 := (RB7.below hb8).at 0 rfl
  clear hM7 hB7 hb8 RA7 RB7
  go_wp2_with fail
  refine (do_load 18 0 0 _ _ _ _ _ _ _ _ _ _ _ _ _ _ _ _ _ _ _ _ _ _ _ hM8).mono ?_
  rw [ex3]
  rintro e w9 ⟨rfl, hb9⟩
  go_wp2_with fail
  go_ret
  exact ⟨rfl, below_push2 hB8 hb9 (Nat.le_refl _)⟩
end Go.Proofs.Ytfnjggefinkcaaa.MemP
