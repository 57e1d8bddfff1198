/-
  A view that is none: contracts.
-/
import Derived.Test.YtbemgfpnoeogdaaFAid
import Derived.Deep.RegionHeld
import Derived.WalkSpells
namespace Go.Proofs.Ytbemgfpnoeogdaa.FoP
open Go.RowKit RefP
set_option linter.unusedVariables false
set_option linter.unusedSimpArgs false
abbrev vwA (m : Option Nat) (sp : Option Addr) (sn sc : Nat) (k n : Int) : Array Value := #[.map m, .slice sp sn sc, .int .i64 k, .int .i64 n]
/-- a node's cells, of none -/
abbrev nd0 : Array Value := #[.int .i64 0, .string ⟨#[]⟩, .string ⟨#[]⟩, .bool false, .int .i64 0, .slice none 0 0, .slice none 0 0, .slice none 0 0]
/-- what is known of a cell, of none -/
abbrev kz : Array Value := #[.int .i64 0, .int .u64 0, .int .u64 0, .int .i64 0, .string ⟨#[]⟩, .string ⟨#[]⟩, .bool false, .int .i64 0, .slice none 0 0, .slice none 0 0, .slice none 0 0]
abbrev sz : Array Value := #[.int .i64 0, .int .u64 0]
abbrev nz (k n : Int) : Array Value := #[.int .i64 k, .int .i64 n]
/-- no view -/
def NoV (w : World) (v : Value) : Prop := v = .pointer none ∨ ∃ o, v = .pointer (some ⟨o, 0, none⟩) ∧ Blk w o (vwA none none 0 0 0 0) 88
theorem NoV.below {w w' : World} {v : Value} (h : NoV w v) (hb : Below w.heap.size w w') : NoV w' v := by
  rcases h with h | ⟨o, h, B⟩
  · exact .inl h
  · exact .inr ⟨o, h, B.below hb⟩
def cellB (n : Int) : Bool := decide (0 ≤ n) && decide (n < 8192)
theorem mapEq (r : Option Nat) (w : World) : (binOp .eql 86 (.map r) (.map none)).run Try.prog w = .ok (.bool r.isNone) w := run_eql_map_nil w _ _ _ r Try.underlying86
theorem none_no (w : World) (v : Value) (h : NoV w v) : Calls Try.prog 52 #[v] w fun e w' => e = .returned (.bool true) ∧ w' = w := by
  rcases h with rfl | ⟨o, rfl, B⟩
  · go_enter Try.func52, Try.ntmps52
    go_wp2_with fail
    go_ret
    exact ⟨rfl, rfl⟩
  · have c0 := B.at 0 rfl
    have hm := mapEq none
    go_enter Try.func52, Try.ntmps52
    go_wp2_with fail
    go_ret
    exact ⟨rfl, rfl⟩
theorem none_some {w : World} {o m : Nat} {sp : Option Addr} {sn sc : Nat} {k n : Int} {T : TypeId} (B : Blk w o (vwA (some m) sp sn sc k n) T) : Calls Try.prog 52 #[.pointer (some ⟨o, 0, none⟩)] w fun e w' => e = .returned (.bool false) ∧ w' = w := by
  have c0 := B.at 0 rfl
  have hm := mapEq (some m)
  go_enter Try.func52, Try.ntmps52
  go_wp2_with fail
  go_ret
  exact ⟨rfl, rfl⟩
theorem cell_any (w : World) (n : Int) : Calls Try.prog 53 #[.int .i64 n] w fun e w' => e = .returned (.bool (cellB n)) ∧ w' = w := by
  by_cases h0 : 0 ≤ n
  · by_cases h1 : n < 8192
    · go_enter Try.func53, Try.ntmps53
      go_wp2_with fail
      go_ret
      exact ⟨by simp [cellB, h0, h1], rfl⟩
    · go_enter Try.func53, Try.ntmps53
      go_wp2_with fail
      go_ret
      exact ⟨by simp [cellB, h0, h1], rfl⟩
  · go_enter Try.func53, Try.ntmps53
    go_wp2_with fail
    go_ret
    exact ⟨by simp [cellB]; omega, rfl⟩
theorem lack_no (w : World) (v : Value) (k n : Int) (h : NoV w v) : Calls Try.prog 56 #[v, .int .i64 k, .int .i64 n] w fun e w' => e = .returned (.tuple #[]) ∧ w' = w := by
  have hc := none_no w v h
  go_enter Try.func56, Try.ntmps56
  go_wp2_with fail
  refine hc.mono ?_
  rintro e w1 ⟨rfl, rfl⟩
  go_wp2_with fail
  go_end0
  exact ⟨rfl, rfl⟩
theorem giveup_no (w : World) (v : Value) (h : NoV w v) : Calls Try.prog 34 #[v] w fun e w' => e = .returned (.tuple #[]) ∧ w' = w := by
  go_enter Try.func34, Try.ntmps34
  go_wp2_with fail
  refine (lack_no w v 3 0 h).mono ?_
  rintro e w1 ⟨rfl, rfl⟩
  go_wp2_with fail
  go_end0
  exact ⟨rfl, rfl⟩
theorem again_no (w : World) (v : Value) (h : NoV w v) : Calls Try.prog 36 #[v] w fun e w' => e = .returned (.tuple #[]) ∧ w' = w := by
  go_enter Try.func36, Try.ntmps36
  go_wp2_with fail
  refine (none_no w v h).mono ?_
  rintro e w1 ⟨rfl, rfl⟩
  go_wp2_with fail
  go_end0
  exact ⟨rfl, rfl⟩
theorem spares_no (w : World) (v : Value) (h : NoV w v) : Calls Try.prog 39 #[v] w fun e w' => e = .returned (.int .i64 0) ∧ w' = w := by
  go_enter Try.func39, Try.ntmps39
  go_wp2_with fail
  refine (none_no w v h).mono ?_
  rintro e w1 ⟨rfl, rfl⟩
  go_wp2_with fail
  go_ret
  exact ⟨rfl, rfl⟩
theorem cells_no (w : World) (v : Value) (h : NoV w v) : Calls Try.prog 38 #[v] w fun e w' => e = .returned (.slice none 0 0) ∧ w' = w := by
  go_enter Try.func38, Try.ntmps38
  go_wp2_with fail
  refine (none_no w v h).mono ?_
  rintro e w1 ⟨rfl, rfl⟩
  go_wp2_with fail
  go_ret
  exact ⟨rfl, rfl⟩
theorem forget_no (w : World) (v : Value) (c : Int) (h : NoV w v) : Calls Try.prog 28 #[v, .int .i64 c] w fun e w' => e = .returned (.bool false) ∧ w' = w := by
  go_enter Try.func28, Try.ntmps28
  go_wp2_with fail
  refine (none_no w v h).mono ?_
  rintro e w1 ⟨rfl, rfl⟩
  go_wp2_with fail
  go_ret
  exact ⟨rfl, rfl⟩
theorem learn_no (w : World) (v : Value) (cs : Array Value) (h : NoV w v) : Calls Try.prog 24 #[v, .agg cs] w fun e w' => e = .returned (.bool false) ∧ Below w.heap.size w w' := by
  have h1 := h.below ((Below.refl _ w).alloc (Nat.le_refl _) (.cells cs 53))
  go_enter Try.func24, Try.ntmps24
  go_wp2_with fail
  refine (none_no _ v h1).mono ?_
  rintro e w1 ⟨rfl, rfl⟩
  go_wp2_with fail
  go_ret
  exact ⟨rfl, by (repeat (first | exact Below.refl _ _ | assumption | refine below_alloc2 ?_ (by first | exact Nat.le_refl _ | omega) _ | refine Below.drew ?_ | refine below_drewN ?_ _ | refine below_push2 ?_ ‹_› (by first | exact Nat.le_refl _ | omega) | refine Below.setCell ?_ (by first | (simp; done) | (simp; omega) | omega) _))⟩
theorem spare_no (w : World) (v : Value) (cs : Array Value) (h : NoV w v) : Calls Try.prog 26 #[v, .agg cs] w fun e w' => e = .returned (.bool false) ∧ Below w.heap.size w w' := by
  have h1 := h.below ((Below.refl _ w).alloc (Nat.le_refl _) (.cells cs 60))
  go_enter Try.func26, Try.ntmps26
  go_wp2_with fail
  refine (none_no _ v h1).mono ?_
  rintro e w1 ⟨rfl, rfl⟩
  go_wp2_with fail
  go_ret
  exact ⟨rfl, by (repeat (first | exact Below.refl _ _ | assumption | refine below_alloc2 ?_ (by first | exact Nat.le_refl _ | omega) _ | refine Below.drew ?_ | refine below_drewN ?_ _ | refine below_push2 ?_ ‹_› (by first | exact Nat.le_refl _ | omega) | refine Below.setCell ?_ (by first | (simp; done) | (simp; omega) | omega) _))⟩
theorem at_no (w : World) (v : Value) (c : Int) (h : NoV w v) : Calls Try.prog 30 #[v, .int .i64 c] w fun e w' => e = .returned (.tuple #[.agg kz, .bool false]) ∧ Below w.heap.size w w' := by
  have hb := (Below.refl w.heap.size w).alloc (Nat.le_refl _) (.cells kz 53)
  have h1 := h.below hb
  have BR := Blk.new w kz 53
  go_enter Try.func30, Try.ntmps30
  go_wp2_with fail
  refine (none_no _ v h1).mono ?_
  rintro e w1 ⟨rfl, rfl⟩
  go_wp2_with (refine wpList_store_row rfl 53 _ _ rfl w.heap.size _ rfl rfl 53 _ (BR).h (by kernel_rfl) (by rfl) (by kernel_rfl) ?_)
  refine bodyPost_ret (v := .tuple #[.agg (kz), .bool false]) (results_cell_tmp rfl _ _ w.heap.size 53 (kz) (0, 0) _ (.bool false) rfl rfl (Blk.row BR (kz)).h Try.underlying53 rfl (by kernel_rfl)) rfl ?_
  exact ⟨rfl, below_setRow hb (Nat.le_refl _) _⟩
theorem take_no (w : World) (v : Value) (c : Int) (h : NoV w v) : Calls Try.prog 32 #[v, .int .i64 c] w fun e w' => e = .returned (.tuple #[.agg sz, .bool false]) ∧ Below w.heap.size w w' := by
  have hb := (Below.refl w.heap.size w).alloc (Nat.le_refl _) (.cells sz 60)
  have h1 := h.below hb
  have BR := Blk.new w sz 60
  go_enter Try.func32, Try.ntmps32
  go_wp2_with fail
  refine (none_no _ v h1).mono ?_
  rintro e w1 ⟨rfl, rfl⟩
  go_wp2_with (refine wpList_store_row rfl 60 _ _ rfl w.heap.size _ rfl rfl 60 _ (BR).h (by kernel_rfl) (by rfl) (by kernel_rfl) ?_)
  refine bodyPost_ret (v := .tuple #[.agg (sz), .bool false]) (results_cell_tmp rfl _ _ w.heap.size 60 (sz) (0, 0) _ (.bool false) rfl rfl (Blk.row BR (sz)).h Try.underlying60 rfl (by kernel_rfl)) rfl ?_
  exact ⟨rfl, below_setRow hb (Nat.le_refl _) _⟩
theorem need_no (w : World) (v : Value) (h : NoV w v) : Calls Try.prog 40 #[v] w fun e w' => e = .returned (.agg (nz 3 0)) ∧ Below w.heap.size w w' := by
  have hb := (Below.refl w.heap.size w).alloc (Nat.le_refl _) (.cells (nz 0 0) 56)
  have h1 := h.below hb
  have BR := Blk.new w (nz 0 0) 56
  go_enter Try.func40, Try.ntmps40
  go_wp2_with fail
  refine (none_no _ v h1).mono ?_
  rintro e w1 ⟨rfl, rfl⟩
  go_wp2_with (refine wpList_store_row rfl 56 _ _ rfl w.heap.size _ rfl rfl 56 _ (BR).h (by kernel_rfl) (by rfl) (by kernel_rfl) ?_)
  refine bodyPost_ret (results_cell_row rfl _ _ w.heap.size 56 (nz 3 0) (0, 0) _ rfl (Blk.row BR (nz 3 0)).h Try.underlying56 rfl (by kernel_rfl)) rfl ?_
  exact ⟨rfl, below_setRow hb (Nat.le_refl _) _⟩
end Go.Proofs.Ytbemgfpnoeogdaa.FoP
