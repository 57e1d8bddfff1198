/-
  The document's views: Take: contracts.
-/
import Derived.Test.YtbemgfpnoeogdaaFRefE
namespace Go.Proofs.Ytbemgfpnoeogdaa.FoP
open Go.RowKit RefP Go.Maps Dp
set_option linter.unusedVariables false
set_option linter.unusedSimpArgs false
set_option maxRecDepth 100000 in
set_option maxHeartbeats 3200000 in
theorem rtake_hit {w : World} {kh sh : Hd} {L : List Kn} {S : List Sp} (H : RV w kh sh L S) (k0 n0 : Int) (i : Nat) (hi : i < S.length) : Calls Try.prog 33 #[.agg (rvA kh sh L.length S.length k0 n0), .int .i64 i] w fun e w' => e = .returned (.tuple #[.agg (rvA kh sh L.length S.length k0 n0), .agg #[.int .i64 S[i].1, .int .u64 S[i].2], .bool true]) ∧ Below w.heap.size w w' := by
  have hsl := H.sl
  have hc : cellB i = true := by simp [cellB]; omega
  have hb : Below w.heap.size w (((w.alloc (.cells (rvA kh sh L.length S.length k0 n0) 58)).alloc (.cells rz 58)).alloc (.cells sz 60)) := by (repeat (first | exact Below.refl _ _ | assumption | refine below_alloc2 ?_ (by first | exact Nat.le_refl _ | omega) _ | refine Below.drew ?_ | refine below_drewN ?_ _ | refine below_push2 ?_ ‹_› (by first | exact Nat.le_refl _ | omega) | refine Below.setCell ?_ (by first | (simp; done) | (simp; omega) | omega) _))
  have BV := ((Blk.new w (rvA kh sh L.length S.length k0 n0) 58).alloc (.cells rz 58)).alloc (.cells sz 60)
  have BR := (Blk.new (w.alloc (.cells (rvA kh sh L.length S.length k0 n0) 58)) rz 58).alloc (.cells sz 60)
  have BK := Blk.new ((w.alloc (.cells (rvA kh sh L.length S.length k0 n0) 58)).alloc (.cells rz 58)) sz 60
  simp only [World.size_alloc] at BK BR
  go_enter Try.func33, Try.ntmps33
  go_upto_region 1 with (fail)
  generalize ((w.alloc (.cells (rvA kh sh L.length S.length k0 n0) 58)).alloc (.cells rz 58)).alloc (.cells sz 60) = w1 at hb BV BK BR ⊢
  have hz1 : w.heap.size + 1 + 1 < w1.heap.size := BK.lt
  go_wp2_with fail
  refine (rcell_any _ i).mono ?_
  rintro e w2 ⟨rfl, rfl⟩
  rw [hc]
  obtain ⟨b, off, ha, hbl, y0, y1, _⟩ := sp_at H.sp i hi
  obtain ⟨ka, kc⟩ := sh
  simp only at ha
  subst ha
  have hi' : (i : Int) < (S.length : Int) := by omega
  generalize hx0 : S[i].1 = x0 at y0
  generalize hx1 : S[i].2 = x1 at y1
  replace hx0 := Lib.hid hx0
  replace hx1 := Lib.hid hx1
  have eS : ∀ W, Below w.heap.size w W → W.cell? ⟨b, off + i * 2, none⟩ = some (.int .i64 x0) ∧ W.cell? ⟨b, off + i * 2 + 1, none⟩ = some (.int .u64 x1) := fun W hW => ⟨(hW.cell hbl).trans y0, (hW.cell hbl).trans y1⟩
  have vS : ∀ W, Blk W w.heap.size (rvA kh ⟨some ⟨b, off, none⟩, kc⟩ L.length S.length k0 n0) 58 → W.cell? ⟨w.heap.size, 0, none⟩ = some (.slice kh.a L.length kh.c) ∧ W.cell? ⟨w.heap.size, 1, none⟩ = some (.slice (some ⟨b, off, none⟩) S.length kc) ∧ W.cell? ⟨w.heap.size, 2, none⟩ = some (.int .i64 k0) ∧ W.cell? ⟨w.heap.size, 3, none⟩ = some (.int .i64 n0) := fun W B => ⟨B.at 0 rfl, B.at 1 rfl, B.at 2 rfl, B.at 3 rfl⟩
  have z1 := BV.at 1 rfl
  go_upto_region 4 with (fail)
  clear z1
  refine wp_region_held_drew (S := fun W => (W.cell? ⟨w.heap.size, 0, none⟩ = some (.slice kh.a L.length kh.c) ∧ W.cell? ⟨w.heap.size, 1, none⟩ = some (.slice (some ⟨b, off, none⟩) S.length kc) ∧ W.cell? ⟨w.heap.size, 2, none⟩ = some (.int .i64 k0) ∧ W.cell? ⟨w.heap.size, 3, none⟩ = some (.int .i64 n0)) ∧ (W.cell? ⟨b, off + i * 2, none⟩ = some (.int .i64 x0) ∧ W.cell? ⟨b, off + i * 2 + 1, none⟩ = some (.int .u64 x1))) (by kernel_rfl) ?_ (fun hHeld => ?_)
  · exact ⟨vS _ BV.drew, eS _ hb.drew⟩
  refine wpAnyH_take (i := 1) (oi := ⟨_, _, _, _, _, _⟩) (v := ?_) rfl (by kernel_rfl) (by kernel_rfl) (by kernel_rfl) (fun _ _ _ h => h) (Or.inl ⟨by rfl, ?_⟩) (by assumption) ?_
  rotate_left
  · intro wS hSw
    try dsimp only at hSw
    go_simp
    try with_reducible rfl
  try simp only [Act.put, List.setIfInBounds_toArray, List.set_cons_zero, List.set_cons_succ]
  refine wpAnyH_take (i := 3) (oi := ⟨_, _, _, _, _, _⟩) (v := ?_) rfl (by kernel_rfl) (by kernel_rfl) (by kernel_rfl) (fun _ _ _ h => h) (Or.inl ⟨by rfl, ?_⟩) (by assumption) ?_
  rotate_left
  · intro wS hSw
    try dsimp only at hSw
    go_simp
    try with_reducible rfl
  try simp only [Act.put, List.setIfInBounds_toArray, List.set_cons_zero, List.set_cons_succ]
  refine wpAnyH_take (i := 0) (oi := ⟨_, _, _, _, _, _⟩) (v := ?_) rfl (by kernel_rfl) (by kernel_rfl) (by kernel_rfl) (fun _ _ _ h => h) (Or.inl ⟨by rfl, ?_⟩) (by assumption) ?_
  rotate_left
  · intro wS hSw
    try dsimp only at hSw
    go_simp
    try with_reducible rfl
  try simp only [Act.put, List.setIfInBounds_toArray, List.set_cons_zero, List.set_cons_succ]
  refine wpAnyH_take (i := 2) (oi := ⟨_, _, _, _, _, _⟩) (v := ?_) rfl (by kernel_rfl) (by kernel_rfl) (by kernel_rfl) (fun _ _ _ h => h) (Or.inl ⟨by rfl, ?_⟩) (by assumption) ?_
  rotate_left
  · intro wS hSw
    try dsimp only at hSw
    go_simp
    try with_reducible rfl
  try simp only [Act.put, List.setIfInBounds_toArray, List.set_cons_zero, List.set_cons_succ]
  refine wpAnyH_take (i := 4) (oi := ⟨_, _, _, _, _, _⟩) (v := ?_) rfl (by kernel_rfl) (by kernel_rfl) (by kernel_rfl) (fun _ _ _ h => h) (Or.inl ⟨by rfl, ?_⟩) (by assumption) ?_
  rotate_left
  · intro wS hSw
    try dsimp only at hSw
    go_simp
    try with_reducible rfl
  try simp only [Act.put, List.setIfInBounds_toArray, List.set_cons_zero, List.set_cons_succ]
  refine wpAnyH_take (i := 5) (oi := ⟨_, _, _, _, _, _⟩) (v := ?_) rfl (by kernel_rfl) (by kernel_rfl) (by kernel_rfl) (fun _ _ _ h => h) (Or.inl ⟨by rfl, ?_⟩) (by assumption) ?_
  rotate_left
  · intro wS hSw
    try dsimp only at hSw
    go_simp
    try with_reducible rfl
  try simp only [Act.put, List.setIfInBounds_toArray, List.set_cons_zero, List.set_cons_succ]
  refine wpAnyH_ready (rs := [6]) (by kernel_rfl) (by simp) ?_
  refine AllReadyH.cons rfl (fun K hK => ?_) AllReadyH.nil
  rw [if_pos (by rfl)]
  refine wp_store_row 58 _ _ rfl (w.heap.size + 1) _ rfl rfl 58 _ (BR.drew).h (by kernel_rfl) (by rfl) (by kernel_rfl) ?_
  refine hK.out _ _ ?_ (fun hHeld => ?_)
  · exact ⟨vS _ (blk_row BV.drew (by omega) _), eS _ (below_setRow hb.drew (by omega) _)⟩
  clear hK K
  refine wpAnyH_ready (rs := [7]) (by kernel_rfl) (by simp) ?_
  refine AllReadyH.cons rfl (fun K hK => ?_) AllReadyH.nil
  rw [if_pos (by rfl)]
  refine wp_store_row 60 _ _ rfl (w.heap.size + 1 + 1) _ rfl rfl 60 _ (blk_row BK.drew (show w.heap.size + 1 + 1 ≠ w.heap.size + 1 by omega) _).h (by kernel_rfl) (by rfl) (by kernel_rfl) ?_
  refine hK.out _ _ ?_ (fun hHeld => ?_)
  · exact ⟨vS _ (blk_row (blk_row BV.drew (by omega) _) (by omega) _), eS _ (below_setRow (below_setRow hb.drew (by omega) _) (by omega) _)⟩
  clear hK K
  refine wpAnyH_take (i := 8) (oi := ⟨_, _, _, _, _, _⟩) (v := ?_) rfl (by kernel_rfl) (by kernel_rfl) (by kernel_rfl) (fun _ _ _ h => h) (Or.inl ⟨by rfl, ?_⟩) (by assumption) ?_
  rotate_left
  · intro wS hSw
    try dsimp only at hSw
    go_simp
    try with_reducible rfl
  try simp only [Act.put, List.setIfInBounds_toArray, List.set_cons_zero, List.set_cons_succ]
  refine wpAnyH_done (by kernel_rfl) ?_ _
  go_wp2_with fail
  refine bodyPost_ret (v := .tuple #[.agg (rvA kh ⟨some ⟨b, off, none⟩, kc⟩ L.length S.length k0 n0), .agg #[.int .i64 x0, .int .u64 x1], .bool true]) (results_row2_tmp rfl _ _ (w.heap.size + 1) 58 (rvA kh ⟨some ⟨b, off, none⟩, kc⟩ L.length S.length k0 n0) (0, 0) _ (w.heap.size + 1 + 1) 60 _ (0, 0) _ (.bool true) rfl rfl rfl (blk_row (Blk.row BR.drew _) (show w.heap.size + 1 ≠ w.heap.size + 1 + 1 by omega) _).h (Blk.row (blk_row BK.drew (show w.heap.size + 1 + 1 ≠ w.heap.size + 1 by omega) _) _).h Try.underlying58 rfl (by kernel_rfl) Try.underlying60 rfl (by kernel_rfl)) rfl ⟨by rw [hx0.out, hx1.out], below_setRow (below_setRow hb.drew (by omega) _) (by omega) _⟩
def tmissK (k0 n : Int) : Int := lackK k0 (if cellB n then 2 else 3)
def tmissN (k0 n0 n : Int) : Int := lackN k0 n0 (if cellB n then n + 1 else 0)
set_option maxRecDepth 100000 in
set_option maxHeartbeats 3200000 in
theorem rtake_miss {w : World} {kh sh : Hd} {L : List Kn} {S : List Sp} (H : RV w kh sh L S) (k0 n0 n : Int) (hm : cellB n = false ∨ (S.length : Int) ≤ n) : Calls Try.prog 33 #[.agg (rvA kh sh L.length S.length k0 n0), .int .i64 n] w fun e w' => e = .returned (.tuple #[.agg (rvA kh sh L.length S.length (tmissK k0 n) (tmissN k0 n0 n)), .agg sz, .bool false]) ∧ Below w.heap.size w w' := by
  have hsl := H.sl
  have hb : Below w.heap.size w (((w.alloc (.cells (rvA kh sh L.length S.length k0 n0) 58)).alloc (.cells rz 58)).alloc (.cells sz 60)) := by (repeat (first | exact Below.refl _ _ | assumption | refine below_alloc2 ?_ (by first | exact Nat.le_refl _ | omega) _ | refine Below.drew ?_ | refine below_drewN ?_ _ | refine below_push2 ?_ ‹_› (by first | exact Nat.le_refl _ | omega) | refine Below.setCell ?_ (by first | (simp; done) | (simp; omega) | omega) _))
  have BV := ((Blk.new w (rvA kh sh L.length S.length k0 n0) 58).alloc (.cells rz 58)).alloc (.cells sz 60)
  have BR := (Blk.new (w.alloc (.cells (rvA kh sh L.length S.length k0 n0) 58)) rz 58).alloc (.cells sz 60)
  have BK := Blk.new ((w.alloc (.cells (rvA kh sh L.length S.length k0 n0) 58)).alloc (.cells rz 58)) sz 60
  simp only [World.size_alloc] at BK BR
  go_enter Try.func33, Try.ntmps33
  go_upto_region 1 with (fail)
  generalize ((w.alloc (.cells (rvA kh sh L.length S.length k0 n0) 58)).alloc (.cells rz 58)).alloc (.cells sz 60) = w1 at hb BV BK BR ⊢
  have hz1 : w.heap.size + 1 + 1 < w1.heap.size := BK.lt
  go_wp2_with fail
  refine (rcell_any _ n).mono ?_
  rintro e w2 ⟨rfl, rfl⟩
  have hM : Hid (tmissK k0 n = lackK k0 (if cellB n then 2 else 3) ∧ tmissN k0 n0 n = lackN k0 n0 (if cellB n then n + 1 else 0)) := Lib.hid ⟨rfl, rfl⟩
  cases hc : cellB n
  · rw [hc] at hM
    clear hc hm
    go_wp2_with (refine wpList_load_row rfl 58 _ rfl w.heap.size rfl 58 _ (0, 0) _ (BV).h Try.underlying58 rfl (by kernel_rfl) ?_)
    refine (rlack_any kh sh L.length S.length k0 n0 3 0 _).mono ?_
    rintro e w3 ⟨rfl, hb3⟩
    have hbz := below_push2 hb hb3 (by have := (hb).size; omega)
    have BR3 := (BR).below hb3
    have BK3 := (BK).below hb3
    have BK4 := blk_row BK3 (show w.heap.size + 1 + 1 ≠ w.heap.size + 1 by omega) (rvA kh sh L.length S.length (lackK k0 3) (lackN k0 n0 0))
    go_wp2_with (first
      | (refine wpList_store_row rfl 58 _ _ rfl (w.heap.size + 1) _ rfl rfl 58 _ BR3.h (by kernel_rfl) (by rfl) (by kernel_rfl) ?_)
      | (refine wpList_store_row rfl 60 _ _ rfl (w.heap.size + 1 + 1) _ rfl rfl 60 _ BK4.h (by kernel_rfl) (by rfl) (by kernel_rfl) ?_))
    refine bodyPost_ret (v := .tuple #[.agg (rvA kh sh L.length S.length (lackK k0 3) (lackN k0 n0 0)), .agg sz, .bool false]) (results_row2_tmp rfl _ _ (w.heap.size + 1) 58 (rvA kh sh L.length S.length (lackK k0 3) (lackN k0 n0 0)) (0, 0) _ (w.heap.size + 1 + 1) 60 sz (0, 0) _ (.bool false) rfl rfl rfl (blk_row (Blk.row BR3 _) (show w.heap.size + 1 ≠ w.heap.size + 1 + 1 by omega) _).h (Blk.row BK4 _).h Try.underlying58 rfl (by kernel_rfl) Try.underlying60 rfl (by kernel_rfl)) rfl ?_
    exact ⟨by rw [hM.out.1, hM.out.2]; rfl, below_setRow (below_setRow hbz (by omega) _) (by omega) _⟩
  · rw [hc] at hM
    have hn : 0 ≤ n ∧ n < 8192 := by simpa [cellB] using hc
    have hlt : ¬ n < (S.length : Int) := by
      rcases hm with h | h
      · rw [hc] at h; cases h
      · omega
    have z1 := BV.at 1 rfl
    clear hc hm
    go_wp2_with (refine wpList_load_row rfl 58 _ rfl w.heap.size rfl 58 _ (0, 0) _ (BV).h Try.underlying58 rfl (by kernel_rfl) ?_)
    refine (rlack_any kh sh L.length S.length k0 n0 2 (n + 1) _).mono ?_
    rintro e w3 ⟨rfl, hb3⟩
    have hbz := below_push2 hb hb3 (by have := (hb).size; omega)
    have BR3 := (BR).below hb3
    have BK3 := (BK).below hb3
    have BK4 := blk_row BK3 (show w.heap.size + 1 + 1 ≠ w.heap.size + 1 by omega) (rvA kh sh L.length S.length (lackK k0 2) (lackN k0 n0 (n + 1)))
    go_wp2_with (first
      | (refine wpList_store_row rfl 58 _ _ rfl (w.heap.size + 1) _ rfl rfl 58 _ BR3.h (by kernel_rfl) (by rfl) (by kernel_rfl) ?_)
      | (refine wpList_store_row rfl 60 _ _ rfl (w.heap.size + 1 + 1) _ rfl rfl 60 _ BK4.h (by kernel_rfl) (by rfl) (by kernel_rfl) ?_))
    refine bodyPost_ret (v := .tuple #[.agg (rvA kh sh L.length S.length (lackK k0 2) (lackN k0 n0 (n + 1))), .agg sz, .bool false]) (results_row2_tmp rfl _ _ (w.heap.size + 1) 58 (rvA kh sh L.length S.length (lackK k0 2) (lackN k0 n0 (n + 1))) (0, 0) _ (w.heap.size + 1 + 1) 60 sz (0, 0) _ (.bool false) rfl rfl rfl (blk_row (Blk.row BR3 _) (show w.heap.size + 1 ≠ w.heap.size + 1 + 1 by omega) _).h (Blk.row BK4 _).h Try.underlying58 rfl (by kernel_rfl) Try.underlying60 rfl (by kernel_rfl)) rfl ?_
    exact ⟨by rw [hM.out.1, hM.out.2]; rfl, below_setRow (below_setRow hbz (by omega) _) (by omega) _⟩
end Go.Proofs.Ytbemgfpnoeogdaa.FoP
