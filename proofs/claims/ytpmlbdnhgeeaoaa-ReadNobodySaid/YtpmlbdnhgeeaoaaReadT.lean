/-
  read: Tell, State, Known, Sure: contracts.
-/
import Derived.Test.YtpmlbdnhgeeaoaaReadN
import Derived.Test.YtpmlbdnhgeeaoaaRefOpen
import Derived.Test.YtpmlbdnhgeeaoaaMemDoW
import Derived.Deep.MidRow
namespace Go.Proofs.Ytpmlbdnhgeeaoaa.MemP
open Go.RowKit RefP CellP
set_option linter.unusedVariables false
set_option linter.unusedSimpArgs false
set_option maxHeartbeats 800000 in
theorem rdEnd_no (b : Nat) (st : Int) (w : World) : Calls Try.prog 119 #[.int .i64 st, .bool false, .pointer (some ⟨b, 0, none⟩)] w fun e w' => e = .returned (.tuple #[]) ∧ w = w' := by
  go_enter Try.func119, Try.ntmps119
  go_wp2_with fail
  go_end0
  exact ⟨rfl, rfl⟩
set_option maxHeartbeats 800000 in
theorem rdEnd_yes (b t : Nat) (st old : Int) (w : World) (c0 : w.cell? ⟨b, 0, none⟩ = some (.pointer (some ⟨t, 0, none⟩))) (c3 : w.cell? ⟨t, 3, none⟩ = some (.int .i64 old)) (f3 : w.frozen? ⟨t, 3, none⟩ = false) : Calls Try.prog 119 #[.int .i64 st, .bool true, .pointer (some ⟨b, 0, none⟩)] w fun e w' => e = .returned (.tuple #[]) ∧ w' = w.setCell ⟨t, 3, none⟩ (.int .i64 st) := by
  go_enter Try.func119, Try.ntmps119
  go_wp2_with fail
  go_end0
  exact ⟨rfl, rfl⟩
set_option maxHeartbeats 1600000 in
theorem rdState_none (p : Option Addr) (w : World) (h : NoRd w p) : Calls Try.prog 47 #[.pointer p] w fun e w' => e = .returned (.int .i64 3) ∧ Below w.heap.size w w' := by
  go_enter Try.func47, Try.ntmps47
  go_wp2_with fail
  refine (rdnone_none _ _ h).mono ?_
  rintro e w1 ⟨rfl, hb1⟩
  go_wp2_with fail
  go_ret
  exact ⟨rfl, hb1⟩
set_option maxHeartbeats 800000 in
theorem rdSure_nil (w : World) : Calls Try.prog 49 #[.pointer none] w fun e w' => e = .returned (.bool false) ∧ w = w' := by
  go_enter Try.func49, Try.ntmps49
  go_wp2_with fail
  go_ret
  exact ⟨rfl, rfl⟩
set_option maxHeartbeats 800000 in
theorem rdSure_any (t : Nat) (b : Bool) (w : World) (c4 : w.cell? ⟨t, 4, none⟩ = some (.bool b)) : Calls Try.prog 49 #[.pointer (some ⟨t, 0, none⟩)] w fun e w' => e = .returned (.bool b) ∧ w = w' := by
  go_enter Try.func49, Try.ntmps49
  go_wp2_with fail
  go_ret
  exact ⟨rfl, rfl⟩
theorem rdSure_none (p : Option Addr) (w : World) (h : NoRd w p) : Calls Try.prog 49 #[.pointer p] w fun e w' => e = .returned (.bool false) ∧ w = w' := by
  rcases h with rfl | ⟨t, th, cell, rfl, B⟩
  · exact rdSure_nil w
  · exact rdSure_any t false w (B.at 4 rfl)
/-- what is known: a cell, a word, a version, a node -/
abbrev knA (cell word ver : Int) (n0 n1 n2 n3 n4 n5 n6 n7 : Value) : Array Value := #[.int .i64 cell, .int .u64 word, .int .u64 ver, n0, n1, n2, n3, n4, n5, n6, n7]
set_option maxRecDepth 100000 in
set_option maxHeartbeats 1600000 in
theorem rdKnown_none (p : Option Addr) (w : World) (h : NoRd w p) : Calls Try.prog 46 #[.pointer p] w fun e w' => e = .returned (.tuple #[.agg (knA 0 0 0 (.int .i64 0) (.string ⟨#[]⟩) (.string ⟨#[]⟩) (.bool false) (.int .i64 0) (.slice none 0 0) (.slice none 0 0) (.slice none 0 0)), .bool false]) ∧ Below w.heap.size w w' := by
  have hb0 : Below w.heap.size w (w.alloc (.cells (knA 0 0 0 (.int .i64 0) (.string ⟨#[]⟩) (.string ⟨#[]⟩) (.bool false) (.int .i64 0) (.slice none 0 0) (.slice none 0 0) (.slice none 0 0)) 83)) := by (repeat (first | exact Below.refl _ _ | assumption | refine below_alloc2 ?_ (by first | exact Nat.le_refl _ | omega) _ | refine Below.drew ?_ | refine below_drewN ?_ _ | refine below_push2 ?_ ‹_› (by first | exact Nat.le_refl _ | omega) | refine Below.setCell ?_ (by first | (simp; done) | (simp; omega) | omega) _))
  go_enter Try.func46, Try.ntmps46
  go_wp2_with fail
  refine (rdState_none _ _ (h.below hb0)).mono ?_
  rintro e w1 ⟨rfl, hb1⟩
  have BR := (Blk.new w (knA 0 0 0 (.int .i64 0) (.string ⟨#[]⟩) (.string ⟨#[]⟩) (.bool false) (.int .i64 0) (.slice none 0 0) (.slice none 0 0) (.slice none 0 0)) 83).below hb1
  have hB := below_push2 hb0 hb1 (Nat.le_refl _)
  go_wp2_with (refine wpList_store_row rfl 83 _ _ rfl w.heap.size _ rfl rfl 83 _ BR.h (by kernel_rfl) (by rfl) (by kernel_rfl) ?_)
  refine bodyPost_ret (v := .tuple #[.agg (knA 0 0 0 (.int .i64 0) (.string ⟨#[]⟩) (.string ⟨#[]⟩) (.bool false) (.int .i64 0) (.slice none 0 0) (.slice none 0 0) (.slice none 0 0)), .bool false]) (results_cell_tmp rfl _ _ w.heap.size 83 (knA 0 0 0 (.int .i64 0) (.string ⟨#[]⟩) (.string ⟨#[]⟩) (.bool false) (.int .i64 0) (.slice none 0 0) (.slice none 0 0) (.slice none 0 0)) (0, 0) _ (.bool false) rfl rfl (Blk.row BR (knA 0 0 0 (.int .i64 0) (.string ⟨#[]⟩) (.string ⟨#[]⟩) (.bool false) (.int .i64 0) (.slice none 0 0) (.slice none 0 0) (.slice none 0 0))).h Try.underlying83 rfl (by kernel_rfl)) rfl ⟨rfl, below_setRow hB (by omega) _⟩
set_option maxRecDepth 100000 in
set_option maxHeartbeats 1600000 in
theorem rdTell_none (p : Option Addr) (w : World) (h : NoRd w p) : Calls Try.prog 51 #[.pointer p, .agg #[.bool true, .int .u64 0, .int .u64 0, .int .i64 0, .int .i64 0, .string ⟨#[]⟩, .string ⟨#[]⟩, .bool false, .int .i64 0, .slice none 0 0, .slice none 0 0, .slice none 0 0, .int .i64 0, .int .i64 0, .string ⟨#[]⟩, .int .u64 0, .slice none 0 0, .slice none 0 0, .slice none 0 0, .slice none 0 0, .int .i64 0, .string ⟨#[]⟩, .string ⟨#[]⟩, .int .u64 0, .int .i64 0]] w fun e w' => e = .returned (.tuple #[]) ∧ Below w.heap.size w w' := by
  have hb0 : Below w.heap.size w ((w.alloc (.cells #[.pointer p] 78)).alloc (.cells #[.bool true, .int .u64 0, .int .u64 0, .int .i64 0, .int .i64 0, .string ⟨#[]⟩, .string ⟨#[]⟩, .bool false, .int .i64 0, .slice none 0 0, .slice none 0 0, .slice none 0 0, .int .i64 0, .int .i64 0, .string ⟨#[]⟩, .int .u64 0, .slice none 0 0, .slice none 0 0, .slice none 0 0, .slice none 0 0, .int .i64 0, .string ⟨#[]⟩, .string ⟨#[]⟩, .int .u64 0, .int .i64 0] 50)) := by (repeat (first | exact Below.refl _ _ | assumption | refine below_alloc2 ?_ (by first | exact Nat.le_refl _ | omega) _ | refine Below.drew ?_ | refine below_drewN ?_ _ | refine below_push2 ?_ ‹_› (by first | exact Nat.le_refl _ | omega) | refine Below.setCell ?_ (by first | (simp; done) | (simp; omega) | omega) _))
  have NP := h.below hb0
  rcases h with rfl | ⟨t, th, cell, rfl, B⟩
  · go_enter Try.func51, Try.ntmps51
    go_wp2_with fail
    generalize ((w.alloc (.cells #[.pointer none] 78)).alloc (.cells #[.bool true, .int .u64 0, .int .u64 0, .int .i64 0, .int .i64 0, .string ⟨#[]⟩, .string ⟨#[]⟩, .bool false, .int .i64 0, .slice none 0 0, .slice none 0 0, .slice none 0 0, .int .i64 0, .int .i64 0, .string ⟨#[]⟩, .int .u64 0, .slice none 0 0, .slice none 0 0, .slice none 0 0, .slice none 0 0, .int .i64 0, .string ⟨#[]⟩, .string ⟨#[]⟩, .int .u64 0, .int .i64 0] 50)) = w1 at hb0 NP ⊢
    refine (rdNext_none _ _ NP).mono ?_
    rintro e w2 ⟨rfl, hb2⟩
    have hB2 := below_alloc2 (below_push2 hb0 hb2 (Nat.le_refl _)) (Nat.le_refl _) (.cells (accY 0 0 0 0) 39)
    generalize hW : w2.alloc (.cells (accY 0 0 0 0) 39) = w3 at hB2
    replace hW := Lib.hid hW
    go_wp2_with (refine wpList_store_row rfl 39 _ _ rfl _ _ rfl rfl 39 _ (Blk.new w2 _ _).h (by kernel_rfl) (by rfl) (by kernel_rfl) ?_; rw [World.setRow_alloc_new, hW.out])
    refine bodyPost_ret (results_none rfl _ _ _) rfl ?_
    exact ⟨rfl, hB2⟩
  · have B1 := B.below hb0
    have c4 := B1.at 4 rfl
    have f4 := B1.free 4
    have hself := setCell_self (i := 4) (v := .bool false) B1 rfl
    go_enter Try.func51, Try.ntmps51
    go_wp2_with fail
    try rw [hself]
    clear hself c4 f4 B1
    generalize ((w.alloc (.cells #[.pointer (some ⟨t, 0, none⟩)] 78)).alloc (.cells #[.bool true, .int .u64 0, .int .u64 0, .int .i64 0, .int .i64 0, .string ⟨#[]⟩, .string ⟨#[]⟩, .bool false, .int .i64 0, .slice none 0 0, .slice none 0 0, .slice none 0 0, .int .i64 0, .int .i64 0, .string ⟨#[]⟩, .int .u64 0, .slice none 0 0, .slice none 0 0, .slice none 0 0, .slice none 0 0, .int .i64 0, .string ⟨#[]⟩, .string ⟨#[]⟩, .int .u64 0, .int .i64 0] 50)) = w1 at hb0 NP ⊢
    refine (rdNext_none _ _ NP).mono ?_
    rintro e w2 ⟨rfl, hb2⟩
    have hB2 := below_alloc2 (below_push2 hb0 hb2 (Nat.le_refl _)) (Nat.le_refl _) (.cells (accY 0 0 0 0) 39)
    generalize hW : w2.alloc (.cells (accY 0 0 0 0) 39) = w3 at hB2
    replace hW := Lib.hid hW
    go_wp2_with (refine wpList_store_row rfl 39 _ _ rfl _ _ rfl rfl 39 _ (Blk.new w2 _ _).h (by kernel_rfl) (by rfl) (by kernel_rfl) ?_; rw [World.setRow_alloc_new, hW.out])
    refine bodyPost_ret (results_none rfl _ _ _) rfl ?_
    exact ⟨rfl, hB2⟩
end Go.Proofs.Ytpmlbdnhgeeaoaa.MemP
