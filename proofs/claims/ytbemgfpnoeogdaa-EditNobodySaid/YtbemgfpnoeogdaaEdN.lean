/-
  edit: an edit that is nil, or of no view: contracts.
-/
import Derived.Test.YtbemgfpnoeogdaaEdL
namespace Go.Proofs.Ytbemgfpnoeogdaa.EdP
open Go.RowKit RefP FoP Dp
set_option linter.unusedVariables false
set_option linter.unusedSimpArgs false
def NoE (w : World) (v : Value) : Prop := v = .pointer none ∨ ∃ e, v = .pointer (some ⟨e, 0, none⟩) ∧ Blk w e #[.pointer none, .slice none 0 0, .slice none 0 0] 36
theorem NoE.under {w w' : World} {v : Value} (h : NoE w v) (hb : Below w.heap.size w w') : NoE w' v := by
  rcases h with h | ⟨e, h, B⟩
  · exact .inl h
  · exact .inr ⟨e, h, B.below hb⟩
theorem nobody_no (w : World) (v : Value) (N : NoE w v) : Calls Try.prog 43 #[v] w fun r w' => r = .returned (.bool true) ∧ w' = w := by
  rcases N with rfl | ⟨e, rfl, B⟩
  · go_enter Try.func43, Try.ntmps43
    go_wp2_with fail
    go_ret
    exact ⟨rfl, rfl⟩
  · have c0 := B.at 0 rfl
    go_enter Try.func43, Try.ntmps43
    go_wp2_with fail
    go_ret
    exact ⟨rfl, rfl⟩
set_option maxHeartbeats 800000 in
theorem eat_no (w : World) (v : Value) (N : NoE w v) (cell : Int) : Calls Try.prog 10 #[v, .int .i64 cell] w fun r w' => r = .returned (.tuple #[.agg nd0, .bool false]) ∧ Below w.heap.size w w' := by
  have hb : Below w.heap.size w (w.alloc (.cells nd0 26)) := by (repeat (first | exact Below.refl _ _ | assumption | refine below_alloc2 ?_ (by first | exact Nat.le_refl _ | omega) _ | refine Below.drew ?_ | refine below_drewN ?_ _ | refine below_push2 ?_ ‹_› (by first | exact Nat.le_refl _ | omega) | refine Below.setCell ?_ (by first | (simp; done) | (simp; omega) | omega) _))
  have BR := Blk.new w nd0 26
  have N1 := N.under hb
  go_enter Try.func10, Try.ntmps10
  go_upto_region 1 with (fail)
  generalize w.alloc (.cells nd0 26) = w1 at hb BR N1 ⊢
  go_wp2_with fail
  refine (nobody_no _ _ N1).mono ?_
  rintro r w2 ⟨rfl, rfl⟩
  go_wp2_with (refine wpList_store_row rfl 26 _ _ rfl w.heap.size _ rfl rfl 26 _ BR.h (by kernel_rfl) (by rfl) (by kernel_rfl) ?_)
  exact bodyPost_ret (v := .tuple #[.agg nd0, .bool false]) (FoP.results_cell_tmp rfl _ _ w.heap.size 26 nd0 (0, 0) _ (.bool false) rfl rfl (FoP.Blk.row BR _).h Try.underlying26 rfl (by kernel_rfl)) rfl ⟨rfl, below_setRow hb (Nat.le_refl _) _⟩
theorem espare_no (w : World) (v : Value) (N : NoE w v) : Calls Try.prog 11 #[v] w fun r w' => r = .returned (.tuple #[.int .i64 (-1), .bool false]) ∧ w' = w := by
  go_enter Try.func11, Try.ntmps11
  go_wp2_with fail
  refine (nobody_no _ _ N).mono ?_
  rintro r w2 ⟨rfl, rfl⟩
  go_wp2_with fail
  refine bodyPost_ret (results_tmp2 rfl _ _ _) rfl ?_
  exact ⟨rfl, rfl⟩
set_option maxHeartbeats 800000 in
theorem begin_no (w : World) (v : Value) (N : NoE w v) (cell : Int) : Calls Try.prog 46 #[v, .int .i64 cell] w fun r w' => r = .returned (.tuple #[.agg chz, .bool false]) ∧ Below w.heap.size w w' := by
  have hb : Below w.heap.size w (w.alloc (.cells chz 97)) := by (repeat (first | exact Below.refl _ _ | assumption | refine below_alloc2 ?_ (by first | exact Nat.le_refl _ | omega) _ | refine Below.drew ?_ | refine below_drewN ?_ _ | refine below_push2 ?_ ‹_› (by first | exact Nat.le_refl _ | omega) | refine Below.setCell ?_ (by first | (simp; done) | (simp; omega) | omega) _))
  have BR := Blk.new w chz 97
  have N1 := N.under hb
  go_enter Try.func46, Try.ntmps46
  go_upto_region 1 with (fail)
  generalize w.alloc (.cells chz 97) = w1 at hb BR N1 ⊢
  go_wp2_with fail
  refine (nobody_no _ _ N1).mono ?_
  rintro r w2 ⟨rfl, rfl⟩
  go_wp2_with (refine wpList_store_row rfl 97 _ _ rfl w.heap.size _ rfl rfl 97 _ BR.h (by kernel_rfl) (by rfl) (by kernel_rfl) ?_)
  exact bodyPost_ret (v := .tuple #[.agg chz, .bool false]) (FoP.results_cell_tmp rfl _ _ w.heap.size 97 chz (0, 0) _ (.bool false) rfl rfl (FoP.Blk.row BR _).h Try.underlying97 rfl (by kernel_rfl)) rfl ⟨rfl, below_setRow hb (Nat.le_refl _) _⟩
set_option maxHeartbeats 800000 in
theorem set_no (w : World) (v : Value) (N : NoE w v) (cell : Int) (q : NodeH) (x : NodeV) (lin : Bool) : Calls Try.prog 12 #[v, .int .i64 cell, .agg (nodeA q x), .bool lin] w fun r w' => r = .returned (.bool false) ∧ Below w.heap.size w w' := by
  have hb : Below w.heap.size w (w.alloc (.cells (nodeA q x) 26)) := by (repeat (first | exact Below.refl _ _ | assumption | refine below_alloc2 ?_ (by first | exact Nat.le_refl _ | omega) _ | refine Below.drew ?_ | refine below_drewN ?_ _ | refine below_push2 ?_ ‹_› (by first | exact Nat.le_refl _ | omega) | refine Below.setCell ?_ (by first | (simp; done) | (simp; omega) | omega) _))
  have N1 := N.under hb
  go_enter Try.func12, Try.ntmps12
  go_upto_region 1 with (fail)
  generalize w.alloc (.cells (nodeA q x) 26) = w1 at hb N1 ⊢
  go_wp2_with fail
  refine (begin_no _ _ N1 cell).mono ?_
  rintro r w2 ⟨rfl, hb2⟩
  have hbx : Below w2.heap.size w2 (w2.alloc (.cells chz 97)) := by (repeat (first | exact Below.refl _ _ | assumption | refine below_alloc2 ?_ (by first | exact Nat.le_refl _ | omega) _ | refine Below.drew ?_ | refine below_drewN ?_ _ | refine below_push2 ?_ ‹_› (by first | exact Nat.le_refl _ | omega) | refine Below.setCell ?_ (by first | (simp; done) | (simp; omega) | omega) _))
  have hbt := below_push2 (below_push2 hb hb2 (Nat.le_refl _)) hbx (Nat.le_refl _)
  go_wp2_with (refine wpList_store_row rfl 97 _ _ rfl _ _ rfl rfl 97 _ (Blk.new w2 _ _).h (by kernel_rfl) (by rfl) (by kernel_rfl) ?_; rw [World.setRow_alloc_new])
  go_ret
  exact ⟨rfl, hbt⟩
set_option maxHeartbeats 800000 in
theorem clear_no (w : World) (v : Value) (N : NoE w v) (cell : Int) : Calls Try.prog 13 #[v, .int .i64 cell] w fun r w' => r = .returned (.bool false) ∧ Below w.heap.size w w' := by
  go_enter Try.func13, Try.ntmps13
  go_wp2_with fail
  refine (begin_no _ _ N cell).mono ?_
  rintro r w2 ⟨rfl, hb2⟩
  have hbx : Below w2.heap.size w2 (w2.alloc (.cells chz 97)) := by (repeat (first | exact Below.refl _ _ | assumption | refine below_alloc2 ?_ (by first | exact Nat.le_refl _ | omega) _ | refine Below.drew ?_ | refine below_drewN ?_ _ | refine below_push2 ?_ ‹_› (by first | exact Nat.le_refl _ | omega) | refine Below.setCell ?_ (by first | (simp; done) | (simp; omega) | omega) _))
  have hbt := below_push2 hb2 hbx (Nat.le_refl _)
  go_wp2_with (refine wpList_store_row rfl 97 _ _ rfl _ _ rfl rfl 97 _ (Blk.new w2 _ _).h (by kernel_rfl) (by rfl) (by kernel_rfl) ?_; rw [World.setRow_alloc_new])
  go_ret
  exact ⟨rfl, hbt⟩
theorem changes_no (w : World) (v : Value) (N : NoE w v) : Calls Try.prog 14 #[v] w fun r w' => r = .returned (.slice none 0 0) ∧ w' = w := by
  go_enter Try.func14, Try.ntmps14
  go_wp2_with fail
  refine (nobody_no _ _ N).mono ?_
  rintro r w2 ⟨rfl, rfl⟩
  go_wp2_with fail
  go_ret
  exact ⟨rfl, rfl⟩
theorem view_no (w : World) (v : Value) (N : NoE w v) : Calls Try.prog 15 #[v] w fun r w' => r = .returned (.pointer none) ∧ w' = w := by
  rcases N with rfl | ⟨e, rfl, B⟩
  · go_enter Try.func15, Try.ntmps15
    go_wp2_with fail
    go_ret
    exact ⟨rfl, rfl⟩
  · have c0 := B.at 0 rfl
    go_enter Try.func15, Try.ntmps15
    go_wp2_with fail
    go_ret
    exact ⟨rfl, rfl⟩
/-- an act -/
abbrev EAct := Int × Int × NodeV × Bool × Unit
def eactT : Cod EAct := pairC i64C (pairC i64C (pairC nodeT (pairC boolC unitC)))
abbrev eactA (kd n : Int) (q : NodeH) (x : NodeV) (b : Bool) : Array Value := #[.int .i64 kd, .int .i64 n, .int .i64 x.level, .string x.low, .string x.high, .bool x.last, .int .i64 x.next, .slice q.keys.a x.keys.length q.keys.c, .slice q.vals.a x.vals.length q.vals.c, .slice q.kids.a x.kids.length q.kids.c, .bool b]
theorem op_eact : Ox Try.prog 28 eactT := ox_struct Try.underlying28 (by kernel_rfl) (ox_cons rfl (by kernel_rfl) op_i64 (ox_cons rfl (by kernel_rfl) op_i64 (ox_cons rfl (by kernel_rfl) op_node (ox_cons rfl (by kernel_rfl) op_bool ox_nil))))
theorem eact_of {w : World} {S : List Nat} {cs : List Value} {x : EAct} (h : eactT.rep w S cs x) : ∃ q, cs = (eactA x.1 x.2.1 q x.2.2.1 x.2.2.2.1).toList ∧ I64 x.1 ∧ I64 x.2.1 ∧ NodeOk w S q x.2.2.1 := by
  obtain ⟨_, _, rfl, ⟨rfl, h0⟩, _, _, rfl, ⟨rfl, h1⟩, _, _, rfl, h2, _, _, rfl, h3, rfl⟩ := h
  obtain ⟨q, rfl, hn⟩ := nodeT_of h2
  refine ⟨q, ?_, I64.of h0, I64.of h1, hn⟩
  obtain rfl := h3
  rfl
theorem eact_node {w : World} {s : Nat} {kd n : Int} {q : NodeH} {x : NodeV} {b : Bool} {T : TypeId} (B : Blk w s (eactA kd n q x b) T) : w.rangeAt s 2 (nodeA q x).toList := fun j v hv => by
  have hj : j < 8 := (List.getElem?_eq_some_iff.1 hv).1
  have e : j = 0 ∨ j = 1 ∨ j = 2 ∨ j = 3 ∨ j = 4 ∨ j = 5 ∨ j = 6 ∨ j = 7 := by omega
  refine B.at (2 + j) ?_
  rcases e with e | e | e | e | e | e | e | e <;> subst e <;> exact hv
end Go.Proofs.Ytbemgfpnoeogdaa.EdP
