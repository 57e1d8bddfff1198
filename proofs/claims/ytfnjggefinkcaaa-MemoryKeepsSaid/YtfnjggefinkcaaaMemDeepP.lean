/-
  Do of what puts a block: contracts.
-/
import Derived.Test.YtfnjggefinkcaaaMemDeepG
namespace Go.Proofs.Ytfnjggefinkcaaa.MemP
open Go.RowKit RefP CellP Dp
set_option linter.unusedVariables false
set_option linter.unusedSimpArgs false
/-- an access' cells, with a block -/
abbrev putA (i ver word : Int) (h : BlockH) (x : BlockV) (c21 c22 c23 c24 c25 : Value) : Array Value := #[.int .i64 5, .int .i64 i, .int .u64 ver, .int .u64 word, .int .i64 x.kind, .int .i64 x.node.level, .string x.node.low, .string x.node.high, .bool x.node.last, .int .i64 x.node.next, .slice h.node.keys.a x.node.keys.length h.node.keys.c, .slice h.node.vals.a x.node.vals.length h.node.vals.c, .slice h.node.kids.a x.node.kids.length h.node.kids.c, .int .i64 x.plan.thread, .int .i64 x.plan.ans.code, .string x.plan.ans.key, .int .u64 x.plan.ans.val, .slice h.plan.pairs.a x.plan.ans.pairs.length h.plan.pairs.c, .slice h.plan.steps.a x.plan.steps.length h.plan.steps.c, .slice h.plan.extra.a x.plan.extra.length h.plan.extra.c, .slice h.pairs.a x.pairs.length h.pairs.c, c21, c22, c23, c24, c25]
set_option maxRecDepth 100000 in
set_option maxHeartbeats 3200000 in
theorem do_put_yes {o oc g gb gr A T : Nat} {L : List (Int × Int)} {bs rs : List (List Value)} (i ver word : Int) (c21 c22 c23 c24 c25 : Value) (k : Nat) (S : List Nat) (q : BlockH) (b : BlockV) (w : World) (h : MemAt w o oc g gb gr A T L bs rs) (x0 : 0 ≤ word) (x1 : word ≤ 18446744073709551615) (hN : nameB A T L word = true) (hi : k < A) (hp : nameP A word = (k : Int)) (H : BlockOk w S q b) (hf : Few b) :
    Calls Try.prog 9 #[.pointer (some ⟨o, 0, none⟩), .agg (putA i ver word q b c21 c22 c23 c24 c25)] w fun e w' => e = .returned (.agg #[.bool true, .int .u64 0, .int .u64 0, .int .i64 0, .int .i64 0, .string ⟨#[]⟩, .string ⟨#[]⟩, .bool false, .int .i64 0, .slice none 0 0, .slice none 0 0, .slice none 0 0, .int .i64 0, .int .i64 0, .string ⟨#[]⟩, .int .u64 0, .slice none 0 0, .slice none 0 0, .slice none 0 0, .slice none 0 0, .int .i64 0, .string ⟨#[]⟩, .string ⟨#[]⟩, .int .u64 0, .int .i64 0]) ∧ (∃ q', MemAt w' o oc g gb gr A T L (bs.set k (blockA q' b).toList) rs ∧ BlockOk w' (List.range w.heap.size) q' b) ∧ Fr [gb] w w' := by
  have hb2 : Below w.heap.size w ((w.alloc (.cells (putA i ver word q b c21 c22 c23 c24 c25) 39)).alloc (.cells #[.bool false, .int .u64 0, .int .u64 0, .int .i64 0, .int .i64 0, .string ⟨#[]⟩, .string ⟨#[]⟩, .bool false, .int .i64 0, .slice none 0 0, .slice none 0 0, .slice none 0 0, .int .i64 0, .int .i64 0, .string ⟨#[]⟩, .int .u64 0, .slice none 0 0, .slice none 0 0, .slice none 0 0, .slice none 0 0, .int .i64 0, .string ⟨#[]⟩, .string ⟨#[]⟩, .int .u64 0, .int .i64 0] 50)) := by (repeat (first | exact Below.refl _ _ | assumption | refine below_alloc2 ?_ (by first | exact Nat.le_refl _ | omega) _ | refine Below.drew ?_ | refine below_drewN ?_ _ | refine below_push2 ?_ ‹_› (by first | exact Nat.le_refl _ | omega) | refine Below.setCell ?_ (by first | (simp; done) | (simp; omega) | omega) _))
  have BX := (Blk.new w (putA i ver word q b c21 c22 c23 c24 c25) 39).alloc (.cells #[.bool false, .int .u64 0, .int .u64 0, .int .i64 0, .int .i64 0, .string ⟨#[]⟩, .string ⟨#[]⟩, .bool false, .int .i64 0, .slice none 0 0, .slice none 0 0, .slice none 0 0, .int .i64 0, .int .i64 0, .string ⟨#[]⟩, .int .u64 0, .slice none 0 0, .slice none 0 0, .slice none 0 0, .slice none 0 0, .int .i64 0, .string ⟨#[]⟩, .string ⟨#[]⟩, .int .u64 0, .int .i64 0] 50)
  have BR : Blk ((w.alloc (.cells (putA i ver word q b c21 c22 c23 c24 c25) 39)).alloc (.cells #[.bool false, .int .u64 0, .int .u64 0, .int .i64 0, .int .i64 0, .string ⟨#[]⟩, .string ⟨#[]⟩, .bool false, .int .i64 0, .slice none 0 0, .slice none 0 0, .slice none 0 0, .int .i64 0, .int .i64 0, .string ⟨#[]⟩, .int .u64 0, .slice none 0 0, .slice none 0 0, .slice none 0 0, .slice none 0 0, .int .i64 0, .string ⟨#[]⟩, .string ⟨#[]⟩, .int .u64 0, .int .i64 0] 50)) (w.heap.size + 1) #[.bool false, .int .u64 0, .int .u64 0, .int .i64 0, .int .i64 0, .string ⟨#[]⟩, .string ⟨#[]⟩, .bool false, .int .i64 0, .slice none 0 0, .slice none 0 0, .slice none 0 0, .int .i64 0, .int .i64 0, .string ⟨#[]⟩, .int .u64 0, .slice none 0 0, .slice none 0 0, .slice none 0 0, .slice none 0 0, .int .i64 0, .string ⟨#[]⟩, .string ⟨#[]⟩, .int .u64 0, .int .i64 0] 50 := by
    have := Blk.new (w.alloc (.cells (putA i ver word q b c21 c22 c23 c24 c25) 39)) #[.bool false, .int .u64 0, .int .u64 0, .int .i64 0, .int .i64 0, .string ⟨#[]⟩, .string ⟨#[]⟩, .bool false, .int .i64 0, .slice none 0 0, .slice none 0 0, .slice none 0 0, .int .i64 0, .int .i64 0, .string ⟨#[]⟩, .int .u64 0, .slice none 0 0, .slice none 0 0, .slice none 0 0, .slice none 0 0, .int .i64 0, .string ⟨#[]⟩, .string ⟨#[]⟩, .int .u64 0, .int .i64 0] 50
    simpa using this
  have h2 := h.below hb2
  go_enter Try.func9, Try.ntmps9
  go_wp2_with fail
  generalize ((w.alloc (.cells (putA i ver word q b c21 c22 c23 c24 c25) 39)).alloc (.cells #[.bool false, .int .u64 0, .int .u64 0, .int .i64 0, .int .i64 0, .string ⟨#[]⟩, .string ⟨#[]⟩, .bool false, .int .i64 0, .slice none 0 0, .slice none 0 0, .slice none 0 0, .int .i64 0, .int .i64 0, .string ⟨#[]⟩, .int .u64 0, .slice none 0 0, .slice none 0 0, .slice none 0 0, .slice none 0 0, .int .i64 0, .string ⟨#[]⟩, .string ⟨#[]⟩, .int .u64 0, .int .i64 0] 50)) = wq at hb2 h2 BX BR ⊢
  have hl2 : w.heap.size + 2 ≤ wq.heap.size := BR.lt
  refine (none_any _ h2).mono ?_
  rintro e w1 ⟨rfl, rfl⟩
  have b0 := BX.at 0 rfl
  have b3 := BX.at 3 rfl
  go_wp2_with fail
  refine (named_any word _ h2 x0 x1).mono ?_
  rw [hN, hp]
  rintro e w3 ⟨rfl, hb3⟩
  have hB3 := below_push2 hb2 hb3 (Nat.le_refl _)
  have BR3 := BR.below hb3
  have BX3 := BX.below hb3
  have h3 := h2.below hb3
  have hl3 := hb3.size
  have hi' : (k : Int) < (A : Int) := by omega
  clear h2 BX BR b0 b3 hb2 hb3
  have d9 : w3.cell? ⟨o, 9, none⟩ = some (.slice (some ⟨gb, 0, none⟩) A A) := h3.head.at 9 rfl
  go_upto_region 14 with (fail)
  refine wp_region_held_drew (S := fun w' => w'.cell? ⟨o, 9, none⟩ = some (.slice (some ⟨gb, 0, none⟩) A A) ∧ w'.cell? ⟨w.heap.size, 4, none⟩ = some (.int .i64 b.kind) ∧ w'.cell? ⟨w.heap.size, 5, none⟩ = some (.int .i64 b.node.level) ∧ w'.cell? ⟨w.heap.size, 6, none⟩ = some (.string b.node.low) ∧ w'.cell? ⟨w.heap.size, 7, none⟩ = some (.string b.node.high) ∧ w'.cell? ⟨w.heap.size, 8, none⟩ = some (.bool b.node.last) ∧ w'.cell? ⟨w.heap.size, 9, none⟩ = some (.int .i64 b.node.next) ∧ w'.cell? ⟨w.heap.size, 10, none⟩ = some (.slice q.node.keys.a b.node.keys.length q.node.keys.c) ∧ w'.cell? ⟨w.heap.size, 11, none⟩ = some (.slice q.node.vals.a b.node.vals.length q.node.vals.c) ∧ w'.cell? ⟨w.heap.size, 12, none⟩ = some (.slice q.node.kids.a b.node.kids.length q.node.kids.c) ∧ w'.cell? ⟨w.heap.size, 13, none⟩ = some (.int .i64 b.plan.thread) ∧ w'.cell? ⟨w.heap.size, 14, none⟩ = some (.int .i64 b.plan.ans.code) ∧ w'.cell? ⟨w.heap.size, 15, none⟩ = some (.string b.plan.ans.key) ∧ w'.cell? ⟨w.heap.size, 16, none⟩ = some (.int .u64 b.plan.ans.val) ∧ w'.cell? ⟨w.heap.size, 17, none⟩ = some (.slice q.plan.pairs.a b.plan.ans.pairs.length q.plan.pairs.c) ∧ w'.cell? ⟨w.heap.size, 18, none⟩ = some (.slice q.plan.steps.a b.plan.steps.length q.plan.steps.c) ∧ w'.cell? ⟨w.heap.size, 19, none⟩ = some (.slice q.plan.extra.a b.plan.extra.length q.plan.extra.c) ∧ w'.cell? ⟨w.heap.size, 20, none⟩ = some (.slice q.pairs.a b.pairs.length q.pairs.c)) (by kernel_rfl) ?_ (fun hHeld => ?_)
  · exact ⟨h3.head.drew.at 9 rfl, BX3.drew.at 4 rfl, BX3.drew.at 5 rfl, BX3.drew.at 6 rfl, BX3.drew.at 7 rfl, BX3.drew.at 8 rfl, BX3.drew.at 9 rfl, BX3.drew.at 10 rfl, BX3.drew.at 11 rfl, BX3.drew.at 12 rfl, BX3.drew.at 13 rfl, BX3.drew.at 14 rfl, BX3.drew.at 15 rfl, BX3.drew.at 16 rfl, BX3.drew.at 17 rfl, BX3.drew.at 18 rfl, BX3.drew.at 19 rfl, BX3.drew.at 20 rfl⟩
  refine wpAnyH_take (i := 0) (oi := ⟨_, _, _, _, _, _⟩) (v := ?_) rfl (by kernel_rfl) (by kernel_rfl) (by kernel_rfl) (fun _ _ _ h => h) (Or.inl ⟨by rfl, ?_⟩) (by assumption) ?_
  rotate_left
  · intro wS hSw
    try dsimp only at hSw
    go_simp
    try with_reducible rfl
  try simp only [Act.put, List.setIfInBounds_toArray, List.set_cons_zero, List.set_cons_succ]
  refine wpAnyH_take (i := 1) (oi := ⟨_, _, _, _, _, _⟩) (v := ?_) rfl (by kernel_rfl) (by kernel_rfl) (by kernel_rfl) (fun _ _ _ h => h) (Or.inl ⟨by rfl, ?_⟩) (by assumption) ?_
  rotate_left
  · intro wS hSw
    try dsimp only at hSw
    go_simp
    try with_reducible rfl
  try simp only [Act.put, List.setIfInBounds_toArray, List.set_cons_zero, List.set_cons_succ]
  refine wpAnyH_take (i := 2) (oi := ⟨_, _, _, _, _, _⟩) (v := ?_) rfl (by kernel_rfl) (by kernel_rfl) (by kernel_rfl) (fun _ _ _ h => h) (Or.inl ⟨by rfl, ?_⟩) (by assumption) ?_
  rotate_left
  · intro wS hSw
    try dsimp only at hSw
    go_simp
    try with_reducible rfl
  try simp only [Act.put, List.setIfInBounds_toArray, List.set_cons_zero, List.set_cons_succ]
  refine wpAnyH_take (i := 3) (oi := ⟨_, _, _, _, _, _⟩) (v := ?_) rfl (by kernel_rfl) (by kernel_rfl) (by kernel_rfl) (fun _ _ _ h => h) (Or.inl ⟨by rfl, ?_⟩) (by assumption) ?_
  rotate_left
  · intro wS hSw
    try dsimp only at hSw
    go_simp
    try with_reducible rfl
  try simp only [Act.put, List.setIfInBounds_toArray, List.set_cons_zero, List.set_cons_succ]
  refine wpAnyH_take (i := 4) (oi := ⟨_, _, _, _, _, _⟩) (v := ?_) rfl (by kernel_rfl) (by kernel_rfl) (by kernel_rfl) (fun _ _ _ h => h) (Or.inl ⟨by rfl, ?_⟩) (by assumption) ?_
  rotate_left
  · intro wS hSw
    try dsimp only at hSw
    go_simp
    try with_reducible rfl
  try simp only [Act.put, List.setIfInBounds_toArray, List.set_cons_zero, List.set_cons_succ]
  refine wpAnyH_take (i := 5) (oi := ⟨_, _, _, _, _, _⟩) (v := ?_) rfl (by kernel_rfl) (by kernel_rfl) (by kernel_rfl) (fun _ _ _ h => h) (Or.inl ⟨by rfl, ?_⟩) (by assumption) ?_
  rotate_left
  · intro wS hSw
    try dsimp only at hSw
    go_simp
    try with_reducible rfl
  try simp only [Act.put, List.setIfInBounds_toArray, List.set_cons_zero, List.set_cons_succ]
  refine wpAnyH_take (i := 6) (oi := ⟨_, _, _, _, _, _⟩) (v := ?_) rfl (by kernel_rfl) (by kernel_rfl) (by kernel_rfl) (fun _ _ _ h => h) (Or.inl ⟨by rfl, ?_⟩) (by assumption) ?_
  rotate_left
  · intro wS hSw
    try dsimp only at hSw
    go_simp
    try with_reducible rfl
  try simp only [Act.put, List.setIfInBounds_toArray, List.set_cons_zero, List.set_cons_succ]
  refine wpAnyH_ready (rs := [7]) (by kernel_rfl) (by simp) ?_
  refine AllReadyH.cons rfl (fun K hK => ?_) AllReadyH.nil
  go_simp
  have hn := h.ne
  have hgbl := h.blocks.lt
  have hdB := hB3.drew
  have hd3 : w.heap.size + 2 ≤ w3.drew.heap.size := Nat.le_trans hl2 hl3
  refine (show Calls _ _ _ _ _ from copied_any S q b w3.drew (H.keep (Keeps.of_below hdB)) hf).mono ?_
  rintro e w4 ⟨⟨q', rfl, H4⟩, hb4⟩
  replace H4 := H4.more (S' := List.range (w.heap.size + 2)) (range_sub hd3)
  have hB4 := below_push2 hdB hb4 (Nat.le_refl _)
  have h4 := (h3.below (Below.refl _ _).drew).below hb4
  have BX4 := BX3.drew.below hb4
  have BR4 := BR3.drew.below hb4
  refine hK.out _ _ ?_ (fun hHeld => ?_)
  · exact ⟨h4.head.at 9 rfl, BX4.at 4 rfl, BX4.at 5 rfl, BX4.at 6 rfl, BX4.at 7 rfl, BX4.at 8 rfl, BX4.at 9 rfl, BX4.at 10 rfl, BX4.at 11 rfl, BX4.at 12 rfl, BX4.at 13 rfl, BX4.at 14 rfl, BX4.at 15 rfl, BX4.at 16 rfl, BX4.at 17 rfl, BX4.at 18 rfl, BX4.at 19 rfl, BX4.at 20 rfl⟩
  clear hK K hb4 hdB hd3 h3 BX3 BR3 d9
  refine wpAnyH_take (i := 8) (oi := ⟨_, _, _, _, _, _⟩) (v := ?_) rfl (by kernel_rfl) (by kernel_rfl) (by kernel_rfl) (fun _ _ _ h => h) (Or.inl ⟨by rfl, ?_⟩) (by assumption) ?_
  rotate_left
  · intro wS hSw
    try dsimp only at hSw
    go_simp
    try with_reducible rfl
  try simp only [Act.put, List.setIfInBounds_toArray, List.set_cons_zero, List.set_cons_succ]
  have hth := there_blk' (o := k * 17) (n := 17) h4.blocks (by rw [recA_size, h4.lb]; omega)
  have h5 := h4.putAt k hi (blockA q' b).toList rfl
  have F5 := fr_sets' (S := [gb]) (b := gb) (by simp) (blockA q' b).toList (k * 17) w4
  have BX5 := F5.blk BX4 (by simp; omega)
  have BR5 := F5.blk BR4 (by simp; omega)
  have H5 := H4.keep (F5.keeps.more (S' := List.range (w.heap.size + 2)) (by simp; omega))
  have F5' : Fr [gb] w (w4.setCells gb (k * 17) (blockA q' b).toList) := (Fr.of_below hB4).trans F5
  refine wpAnyH_ready (rs := [9]) (by kernel_rfl) (by simp) ?_
  refine AllReadyH.cons rfl (fun K hK => ?_) AllReadyH.nil
  rw [if_pos (by rfl)]
  refine wp_store_mid 35 _ _ rfl gb (k * 17) (blockA q' b) rfl rfl hth (by kernel_rfl) (by kernel_rfl) ?_
  refine hK.out _ _ ?_ (fun hHeld => ?_)
  · exact ⟨h5.head.at 9 rfl, BX5.at 4 rfl, BX5.at 5 rfl, BX5.at 6 rfl, BX5.at 7 rfl, BX5.at 8 rfl, BX5.at 9 rfl, BX5.at 10 rfl, BX5.at 11 rfl, BX5.at 12 rfl, BX5.at 13 rfl, BX5.at 14 rfl, BX5.at 15 rfl, BX5.at 16 rfl, BX5.at 17 rfl, BX5.at 18 rfl, BX5.at 19 rfl, BX5.at 20 rfl⟩
  clear hK K hth
  generalize w4.setCells gb (k * 17) (blockA q' b).toList = w5 at h5 F5 BX5 BR5 H5 F5' ⊢ hHeld
  refine wpAnyH_take (i := 10) (oi := ⟨_, _, _, _, _, _⟩) (v := ?_) rfl (by kernel_rfl) (by kernel_rfl) (by kernel_rfl) (fun _ _ _ h => h) (Or.inl ⟨by rfl, ?_⟩) (by assumption) ?_
  rotate_left
  · intro wS hSw
    try dsimp only at hSw
    go_simp
    try with_reducible rfl
  try simp only [Act.put, List.setIfInBounds_toArray, List.set_cons_zero, List.set_cons_succ]
  have c0 := BR5.at 0 rfl
  have f0 := BR5.free 0
  refine wpAnyH_ready (rs := [11]) (by kernel_rfl) (by simp) ?_
  refine AllReadyH.cons rfl (fun K hK => ?_) AllReadyH.nil
  go_simp
  have BX6 := BX5.far ⟨w.heap.size + 1, 0, none⟩ (.bool true) (by simp)
  have BR6 := BR5.set 0 (.bool true)
  simp only [List.setIfInBounds_toArray, List.set_cons_zero] at BR6
  have F6 : Fr [gb, w.heap.size + 1] w (w5.setCell ⟨w.heap.size + 1, 0, none⟩ (.bool true)) := (F5'.more (by simp)).set _ _ (.inl (by simp))
  have h6 := h5.off (Fr.set (S := [w.heap.size + 1]) (Fr.refl _ w5) ⟨w.heap.size + 1, 0, none⟩ (.bool true) (.inl (by simp))) (by have := h.head.lt; have := h.cells.head.lt; have := h.cells.rows.lt; have := h.records.lt; simp; omega)
  have H6 := H5.keep (Keeps.set (S := List.range (w.heap.size + 2)) (w := w5) ⟨w.heap.size + 1, 0, none⟩ (.bool true) (by simp))
  refine hK.out _ _ ?_ (fun hHeld => ?_)
  · exact ⟨h6.head.at 9 rfl, BX6.at 4 rfl, BX6.at 5 rfl, BX6.at 6 rfl, BX6.at 7 rfl, BX6.at 8 rfl, BX6.at 9 rfl, BX6.at 10 rfl, BX6.at 11 rfl, BX6.at 12 rfl, BX6.at 13 rfl, BX6.at 14 rfl, BX6.at 15 rfl, BX6.at 16 rfl, BX6.at 17 rfl, BX6.at 18 rfl, BX6.at 19 rfl, BX6.at 20 rfl⟩
  clear hK K
  refine wpAnyH_done (by kernel_rfl) ?_ _
  go_wp2_with (first
    | (refine wpList_load_row rfl 50 _ rfl (w.heap.size + 1) rfl 50 _ (0, 0) _ BR6.h Try.underlying50 rfl (by kernel_rfl) ?_)
    | (refine wpList_store_row rfl 50 _ _ rfl (w.heap.size + 1) _ rfl rfl 50 _ BR6.h (by kernel_rfl) (by rfl) (by kernel_rfl) ?_))
  refine bodyPost_ret (results_cell_row rfl _ _ (w.heap.size + 1) 50 #[.bool true, .int .u64 0, .int .u64 0, .int .i64 0, .int .i64 0, .string ⟨#[]⟩, .string ⟨#[]⟩, .bool false, .int .i64 0, .slice none 0 0, .slice none 0 0, .slice none 0 0, .int .i64 0, .int .i64 0, .string ⟨#[]⟩, .int .u64 0, .slice none 0 0, .slice none 0 0, .slice none 0 0, .slice none 0 0, .int .i64 0, .string ⟨#[]⟩, .string ⟨#[]⟩, .int .u64 0, .int .i64 0] (0, 0) _ rfl (Blk.row BR6 #[.bool true, .int .u64 0, .int .u64 0, .int .i64 0, .int .i64 0, .string ⟨#[]⟩, .string ⟨#[]⟩, .bool false, .int .i64 0, .slice none 0 0, .slice none 0 0, .slice none 0 0, .int .i64 0, .int .i64 0, .string ⟨#[]⟩, .int .u64 0, .slice none 0 0, .slice none 0 0, .slice none 0 0, .slice none 0 0, .int .i64 0, .string ⟨#[]⟩, .string ⟨#[]⟩, .int .u64 0, .int .i64 0]).h Try.underlying50 rfl (by kernel_rfl)) rfl ⟨rfl, ⟨q', ?_, ?_⟩, ?_⟩
  · exact h6.off (Fr.row (S := [w.heap.size + 1]) _ _ (by simp)) (by have := h.head.lt; have := h.cells.head.lt; have := h.cells.rows.lt; have := h.records.lt; simp; omega)
  · exact (H6.keep (Fr.row (S := List.range (w.heap.size + 2)) (w.heap.size + 1) _ (by simp)).keeps).more (range_sub (by omega))
  · have F7 := F6.trans (Fr.row (S := [gb, w.heap.size + 1]) (w.heap.size + 1) #[.bool true, .int .u64 0, .int .u64 0, .int .i64 0, .int .i64 0, .string ⟨#[]⟩, .string ⟨#[]⟩, .bool false, .int .i64 0, .slice none 0 0, .slice none 0 0, .slice none 0 0, .int .i64 0, .int .i64 0, .string ⟨#[]⟩, .int .u64 0, .slice none 0 0, .slice none 0 0, .slice none 0 0, .slice none 0 0, .int .i64 0, .string ⟨#[]⟩, .string ⟨#[]⟩, .int .u64 0, .int .i64 0] (by simp))
    exact ⟨F7.os, F7.tape, F7.output, F7.size, fun c hc hn' => F7.block c hc (by simp at hn' ⊢; omega)⟩
set_option maxRecDepth 100000 in
set_option maxHeartbeats 3200000 in
theorem do_put_no {o oc g gb gr A T : Nat} {L : List (Int × Int)} {bs rs : List (List Value)} (i ver word : Int) (c21 c22 c23 c24 c25 : Value) (q : BlockH) (b : BlockV) (w : World) (h : MemAt w o oc g gb gr A T L bs rs) (x0 : 0 ≤ word) (x1 : word ≤ 18446744073709551615) (hN : nameB A T L word = false) :
    Calls Try.prog 9 #[.pointer (some ⟨o, 0, none⟩), .agg (putA i ver word q b c21 c22 c23 c24 c25)] w fun e w' => e = .returned (.agg #[.bool false, .int .u64 0, .int .u64 0, .int .i64 0, .int .i64 0, .string ⟨#[]⟩, .string ⟨#[]⟩, .bool false, .int .i64 0, .slice none 0 0, .slice none 0 0, .slice none 0 0, .int .i64 0, .int .i64 0, .string ⟨#[]⟩, .int .u64 0, .slice none 0 0, .slice none 0 0, .slice none 0 0, .slice none 0 0, .int .i64 0, .string ⟨#[]⟩, .string ⟨#[]⟩, .int .u64 0, .int .i64 0]) ∧ Below w.heap.size w w' := by
  have hb2 : Below w.heap.size w ((w.alloc (.cells (putA i ver word q b c21 c22 c23 c24 c25) 39)).alloc (.cells #[.bool false, .int .u64 0, .int .u64 0, .int .i64 0, .int .i64 0, .string ⟨#[]⟩, .string ⟨#[]⟩, .bool false, .int .i64 0, .slice none 0 0, .slice none 0 0, .slice none 0 0, .int .i64 0, .int .i64 0, .string ⟨#[]⟩, .int .u64 0, .slice none 0 0, .slice none 0 0, .slice none 0 0, .slice none 0 0, .int .i64 0, .string ⟨#[]⟩, .string ⟨#[]⟩, .int .u64 0, .int .i64 0] 50)) := by (repeat (first | exact Below.refl _ _ | assumption | refine below_alloc2 ?_ (by first | exact Nat.le_refl _ | omega) _ | refine Below.drew ?_ | refine below_drewN ?_ _ | refine below_push2 ?_ ‹_› (by first | exact Nat.le_refl _ | omega) | refine Below.setCell ?_ (by first | (simp; done) | (simp; omega) | omega) _))
  have BX := (Blk.new w (putA i ver word q b c21 c22 c23 c24 c25) 39).alloc (.cells #[.bool false, .int .u64 0, .int .u64 0, .int .i64 0, .int .i64 0, .string ⟨#[]⟩, .string ⟨#[]⟩, .bool false, .int .i64 0, .slice none 0 0, .slice none 0 0, .slice none 0 0, .int .i64 0, .int .i64 0, .string ⟨#[]⟩, .int .u64 0, .slice none 0 0, .slice none 0 0, .slice none 0 0, .slice none 0 0, .int .i64 0, .string ⟨#[]⟩, .string ⟨#[]⟩, .int .u64 0, .int .i64 0] 50)
  have BR : Blk ((w.alloc (.cells (putA i ver word q b c21 c22 c23 c24 c25) 39)).alloc (.cells #[.bool false, .int .u64 0, .int .u64 0, .int .i64 0, .int .i64 0, .string ⟨#[]⟩, .string ⟨#[]⟩, .bool false, .int .i64 0, .slice none 0 0, .slice none 0 0, .slice none 0 0, .int .i64 0, .int .i64 0, .string ⟨#[]⟩, .int .u64 0, .slice none 0 0, .slice none 0 0, .slice none 0 0, .slice none 0 0, .int .i64 0, .string ⟨#[]⟩, .string ⟨#[]⟩, .int .u64 0, .int .i64 0] 50)) (w.heap.size + 1) #[.bool false, .int .u64 0, .int .u64 0, .int .i64 0, .int .i64 0, .string ⟨#[]⟩, .string ⟨#[]⟩, .bool false, .int .i64 0, .slice none 0 0, .slice none 0 0, .slice none 0 0, .int .i64 0, .int .i64 0, .string ⟨#[]⟩, .int .u64 0, .slice none 0 0, .slice none 0 0, .slice none 0 0, .slice none 0 0, .int .i64 0, .string ⟨#[]⟩, .string ⟨#[]⟩, .int .u64 0, .int .i64 0] 50 := by
    have := Blk.new (w.alloc (.cells (putA i ver word q b c21 c22 c23 c24 c25) 39)) #[.bool false, .int .u64 0, .int .u64 0, .int .i64 0, .int .i64 0, .string ⟨#[]⟩, .string ⟨#[]⟩, .bool false, .int .i64 0, .slice none 0 0, .slice none 0 0, .slice none 0 0, .int .i64 0, .int .i64 0, .string ⟨#[]⟩, .int .u64 0, .slice none 0 0, .slice none 0 0, .slice none 0 0, .slice none 0 0, .int .i64 0, .string ⟨#[]⟩, .string ⟨#[]⟩, .int .u64 0, .int .i64 0] 50
    simpa using this
  have h2 := h.below hb2
  go_enter Try.func9, Try.ntmps9
  go_wp2_with fail
  generalize ((w.alloc (.cells (putA i ver word q b c21 c22 c23 c24 c25) 39)).alloc (.cells #[.bool false, .int .u64 0, .int .u64 0, .int .i64 0, .int .i64 0, .string ⟨#[]⟩, .string ⟨#[]⟩, .bool false, .int .i64 0, .slice none 0 0, .slice none 0 0, .slice none 0 0, .int .i64 0, .int .i64 0, .string ⟨#[]⟩, .int .u64 0, .slice none 0 0, .slice none 0 0, .slice none 0 0, .slice none 0 0, .int .i64 0, .string ⟨#[]⟩, .string ⟨#[]⟩, .int .u64 0, .int .i64 0] 50)) = wq at hb2 h2 BX BR ⊢
  have hl2 : w.heap.size + 2 ≤ wq.heap.size := BR.lt
  refine (none_any _ h2).mono ?_
  rintro e w1 ⟨rfl, rfl⟩
  have b0 := BX.at 0 rfl
  have b3 := BX.at 3 rfl
  go_wp2_with fail
  refine (named_any word _ h2 x0 x1).mono ?_
  rw [hN]
  rintro e w3 ⟨rfl, hb3⟩
  have hB3 := below_push2 hb2 hb3 (Nat.le_refl _)
  have BR3 := BR.below hb3
  go_wp2_with (first
    | (refine wpList_load_row rfl 50 _ rfl (w.heap.size + 1) rfl 50 _ (0, 0) _ BR3.h Try.underlying50 rfl (by kernel_rfl) ?_)
    | (refine wpList_store_row rfl 50 _ _ rfl (w.heap.size + 1) _ rfl rfl 50 _ BR3.h (by kernel_rfl) (by rfl) (by kernel_rfl) ?_))
  refine bodyPost_ret (results_cell_row rfl _ _ (w.heap.size + 1) 50 #[.bool false, .int .u64 0, .int .u64 0, .int .i64 0, .int .i64 0, .string ⟨#[]⟩, .string ⟨#[]⟩, .bool false, .int .i64 0, .slice none 0 0, .slice none 0 0, .slice none 0 0, .int .i64 0, .int .i64 0, .string ⟨#[]⟩, .int .u64 0, .slice none 0 0, .slice none 0 0, .slice none 0 0, .slice none 0 0, .int .i64 0, .string ⟨#[]⟩, .string ⟨#[]⟩, .int .u64 0, .int .i64 0] (0, 0) _ rfl (Blk.row BR3 #[.bool false, .int .u64 0, .int .u64 0, .int .i64 0, .int .i64 0, .string ⟨#[]⟩, .string ⟨#[]⟩, .bool false, .int .i64 0, .slice none 0 0, .slice none 0 0, .slice none 0 0, .int .i64 0, .int .i64 0, .string ⟨#[]⟩, .int .u64 0, .slice none 0 0, .slice none 0 0, .slice none 0 0, .slice none 0 0, .int .i64 0, .string ⟨#[]⟩, .string ⟨#[]⟩, .int .u64 0, .int .i64 0]).h Try.underlying50 rfl (by kernel_rfl)) rfl ⟨rfl, below_setRow hB3 (by omega) _⟩
end Go.Proofs.Ytfnjggefinkcaaa.MemP
