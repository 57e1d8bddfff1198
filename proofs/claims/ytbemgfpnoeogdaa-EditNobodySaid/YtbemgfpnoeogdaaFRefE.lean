/-
  The document's views: At, Take: contracts.
-/
import Derived.Test.YtbemgfpnoeogdaaFRefD
namespace Go.Proofs.Ytbemgfpnoeogdaa.FoP
open Go.RowKit RefP Go.Maps Dp
set_option linter.unusedVariables false
set_option linter.unusedSimpArgs false
theorem results_row2_tmp {P : Program} {fn : Func} {p p2 q : Tmp} {ty ty2 : TypeId} (h : fn.results = #[.cell p ty, .cell p2 ty2, .tmp q]) (tmps : Array Value) (w : World) (g : Nat) (t : TypeId) (cs : Array Value) (fr : Nat × Nat) (d : TypeDesc) (g2 : Nat) (t2 : TypeId) (cs2 : Array Value) (fr2 : Nat × Nat) (d2 : TypeDesc)
    (v : Value) (hv : tmps.getD q undef = v) (hp : tmps.getD p undef = .pointer (some ⟨g, 0, none⟩)) (hp2 : tmps.getD p2 undef = .pointer (some ⟨g2, 0, none⟩)) (hg : w.heap[g]? = some (.cells cs t fr)) (hg2 : w.heap[g2]? = some (.cells cs2 t2 fr2))
    (hu : P.underlying ty = some d) (hd : (match d with | .struct _ | .array _ _ => true | _ => false) = true) (hi : (P.info? ty).map (·.size) = some cs.size)
    (hu2 : P.underlying ty2 = some d2) (hd2 : (match d2 with | .struct _ | .array _ _ => true | _ => false) = true) (hi2 : (P.info? ty2).map (·.size) = some cs2.size) :
    (results fn tmps).run P w = .ok (.tuple #[.agg cs, .agg cs2, v]) w := by
  subst hv
  have hp' : tmps[p]?.getD undef = .pointer (some ⟨g, 0, none⟩) := by simpa using hp
  have hp2' : tmps[p2]?.getD undef = .pointer (some ⟨g2, 0, none⟩) := by simpa using hp2
  simp [results, h, hp', hp2', asAddr, run_loadVar_row w g t ty cs fr d hg hu hd hi, run_loadVar_row w g2 t2 ty2 cs2 fr2 d2 hg2 hu2 hd2 hi2]
theorem raw_keep {w w' : World} {b o : Nat} {cs : List Value} (h : w.rangeAt b o cs) (k : Below w.heap.size w w') (hb : b < w.heap.size) : w'.rangeAt b o cs :=
  fun j v hv => ((Keeps.of_below (S := []) k).cell (p := ⟨b, o + j, none⟩) hb (by simp)).trans (h j v hv)
theorem blk_row {w : World} {b b' : Nat} {cs : Array Value} {T : TypeId} (B : Blk w b cs T) (h : b ≠ b') (cs' : Array Value) : Blk (w.setRow b' cs') b cs T := ⟨((Fr.row (S := [b']) b' cs' (by simp)).block b B.lt (by simpa using h)).trans B.h⟩
set_option maxRecDepth 100000 in
set_option maxHeartbeats 3200000 in
theorem rat_hit {w : World} {kh sh : Hd} {L : List Kn} {S : List Sp} (H : RV w kh sh L S) (k0 n0 n : Int) {cs : Array Value} (hn : knAt L n = some cs) : Calls Try.prog 31 #[.agg (rvA kh sh L.length S.length k0 n0), .int .i64 n] w fun e w' => e = .returned (.tuple #[.agg (rvA kh sh L.length S.length k0 n0), .agg cs, .bool true]) ∧ Below w.heap.size w w' := by
  have hb : Below w.heap.size w (((w.alloc (.cells (rvA kh sh L.length S.length k0 n0) 58)).alloc (.cells rz 58)).alloc (.cells kz 53)) := by (repeat (first | exact Below.refl _ _ | assumption | refine below_alloc2 ?_ (by first | exact Nat.le_refl _ | omega) _ | refine Below.drew ?_ | refine below_drewN ?_ _ | refine below_push2 ?_ ‹_› (by first | exact Nat.le_refl _ | omega) | refine Below.setCell ?_ (by first | (simp; done) | (simp; omega) | omega) _))
  have BV := ((Blk.new w (rvA kh sh L.length S.length k0 n0) 58).alloc (.cells rz 58)).alloc (.cells kz 53)
  have BR := (Blk.new (w.alloc (.cells (rvA kh sh L.length S.length k0 n0) 58)) rz 58).alloc (.cells kz 53)
  have BK := Blk.new ((w.alloc (.cells (rvA kh sh L.length S.length k0 n0) 58)).alloc (.cells rz 58)) kz 53
  simp only [World.size_alloc] at BK BR
  go_enter Try.func31, Try.ntmps31
  go_upto_region 1 with (fail)
  generalize ((w.alloc (.cells (rvA kh sh L.length S.length k0 n0) 58)).alloc (.cells rz 58)).alloc (.cells kz 53) = w1 at hb BV BK BR ⊢
  have hz1 : w.heap.size + 1 + 1 < w1.heap.size := BK.lt
  go_wp2_with (refine wpList_load_row rfl 58 _ rfl w.heap.size rfl 58 _ (0, 0) _ BV.h Try.underlying58 rfl (by kernel_rfl) ?_)
  refine (rfind_any (H.below hb) k0 n0 n).mono ?_
  rintro e w2 ⟨r, rfl, hr, hb2⟩
  rcases hr with ⟨_, h⟩ | ⟨i, hi, rfl, _, h⟩
  · rw [hn] at h; cases h
  rw [hn, Option.some.injEq] at h
  have hbb := below_push2 hb hb2 (by omega)
  have BV2 := BV.below hb2
  have BK2 := BK.below hb2
  have BR2 := BR.below hb2
  obtain ⟨b, off, ha, hbl, hcs, _⟩ := H.at i hi
  obtain ⟨ka, kc⟩ := kh
  simp only at ha
  subst ha
  obtain ⟨hsz, hone⟩ := H.ok L[i] (List.getElem_mem hi)
  rw [← h] at hcs hsz hone
  clear h hn BV BK BR
  have hi' : (i : Int) < (L.length : Int) := by omega
  obtain ⟨v0, v1, v2, v3, v4, v5, v6, v7, v8, v9, v10, rfl⟩ := arr11 hsz
  have eS : ∀ W, Below w.heap.size w W → W.cell? ⟨b, off + i * 11, none⟩ = some v0 ∧ W.cell? ⟨b, off + i * 11 + 1, none⟩ = some v1 ∧ W.cell? ⟨b, off + i * 11 + 2, none⟩ = some v2 ∧ W.cell? ⟨b, off + i * 11 + 3, none⟩ = some v3 ∧ W.cell? ⟨b, off + i * 11 + 4, none⟩ = some v4 ∧ W.cell? ⟨b, off + i * 11 + 5, none⟩ = some v5 ∧ W.cell? ⟨b, off + i * 11 + 6, none⟩ = some v6 ∧ W.cell? ⟨b, off + i * 11 + 7, none⟩ = some v7 ∧ W.cell? ⟨b, off + i * 11 + 8, none⟩ = some v8 ∧ W.cell? ⟨b, off + i * 11 + 9, none⟩ = some v9 ∧ W.cell? ⟨b, off + i * 11 + 10, none⟩ = some v10 := fun W hW => by
    have q := raw_keep hcs hW hbl
    exact ⟨q 0 _ rfl, q 1 _ rfl, q 2 _ rfl, q 3 _ rfl, q 4 _ rfl, q 5 _ rfl, q 6 _ rfl, q 7 _ rfl, q 8 _ rfl, q 9 _ rfl, q 10 _ rfl⟩
  have vS : ∀ W, Blk W w.heap.size (rvA ⟨some ⟨b, off, none⟩, kc⟩ sh L.length S.length k0 n0) 58 → W.cell? ⟨w.heap.size, 0, none⟩ = some (.slice (some ⟨b, off, none⟩) L.length kc) ∧ W.cell? ⟨w.heap.size, 1, none⟩ = some (.slice sh.a S.length sh.c) ∧ W.cell? ⟨w.heap.size, 2, none⟩ = some (.int .i64 k0) ∧ W.cell? ⟨w.heap.size, 3, none⟩ = some (.int .i64 n0) := fun W B => by
    exact ⟨B.at 0 rfl, B.at 1 rfl, B.at 2 rfl, B.at 3 rfl⟩
  go_upto_region 3 with (fail)
  refine wp_region_held_drew (S := fun W => (W.cell? ⟨w.heap.size, 0, none⟩ = some (.slice (some ⟨b, off, none⟩) L.length kc) ∧ W.cell? ⟨w.heap.size, 1, none⟩ = some (.slice sh.a S.length sh.c) ∧ W.cell? ⟨w.heap.size, 2, none⟩ = some (.int .i64 k0) ∧ W.cell? ⟨w.heap.size, 3, none⟩ = some (.int .i64 n0)) ∧ (W.cell? ⟨b, off + i * 11, none⟩ = some v0 ∧ W.cell? ⟨b, off + i * 11 + 1, none⟩ = some v1 ∧ W.cell? ⟨b, off + i * 11 + 2, none⟩ = some v2 ∧ W.cell? ⟨b, off + i * 11 + 3, none⟩ = some v3 ∧ W.cell? ⟨b, off + i * 11 + 4, none⟩ = some v4 ∧ W.cell? ⟨b, off + i * 11 + 5, none⟩ = some v5 ∧ W.cell? ⟨b, off + i * 11 + 6, none⟩ = some v6 ∧ W.cell? ⟨b, off + i * 11 + 7, none⟩ = some v7 ∧ W.cell? ⟨b, off + i * 11 + 8, none⟩ = some v8 ∧ W.cell? ⟨b, off + i * 11 + 9, none⟩ = some v9 ∧ W.cell? ⟨b, off + i * 11 + 10, none⟩ = some v10)) (by kernel_rfl) ?_ (fun hHeld => ?_)
  · exact ⟨vS _ BV2.drew, eS _ hbb.drew⟩
  refine wpAnyH_take (i := 1) (oi := ⟨_, _, _, _, _, _⟩) (v := ?_) rfl (by kernel_rfl) (by kernel_rfl) (by kernel_rfl) (fun _ _ _ h => h) (Or.inl ⟨by rfl, ?_⟩) (by assumption) ?_
  rotate_left
  · intro wS hSw
    try dsimp only at hSw
    go_simp
    try with_reducible rfl
  try simp only [Act.put, List.setIfInBounds_toArray, List.set_cons_zero, List.set_cons_succ]
  refine wpAnyH_take (i := 3) (oi := ⟨_, _, _, _, _, _⟩) (v := ?_) rfl (by kernel_rfl) (by kernel_rfl) (by kernel_rfl) (fun _ _ _ h => h) (Or.inl ⟨by rfl, ?_⟩) (by assumption) ?_
  rotate_left
  · intro wS hSw
    try dsimp only at hSw
    go_simp
    try with_reducible rfl
  try simp only [Act.put, List.setIfInBounds_toArray, List.set_cons_zero, List.set_cons_succ]
  refine wpAnyH_take (i := 0) (oi := ⟨_, _, _, _, _, _⟩) (v := ?_) rfl (by kernel_rfl) (by kernel_rfl) (by kernel_rfl) (fun _ _ _ h => h) (Or.inl ⟨by rfl, ?_⟩) (by assumption) ?_
  rotate_left
  · intro wS hSw
    try dsimp only at hSw
    go_simp
    try with_reducible rfl
  try simp only [Act.put, List.setIfInBounds_toArray, List.set_cons_zero, List.set_cons_succ]
  refine wpAnyH_take (i := 2) (oi := ⟨_, _, _, _, _, _⟩) (v := ?_) rfl (by kernel_rfl) (by kernel_rfl) (by kernel_rfl) (fun _ _ _ h => h) (Or.inl ⟨by rfl, ?_⟩) (by assumption) ?_
  rotate_left
  · intro wS hSw
    try dsimp only at hSw
    go_simp
    try with_reducible rfl
  try simp only [Act.put, List.setIfInBounds_toArray, List.set_cons_zero, List.set_cons_succ]
  refine wpAnyH_take (i := 4) (oi := ⟨_, _, _, _, _, _⟩) (v := ?_) rfl (by kernel_rfl) (by kernel_rfl) (by kernel_rfl) (fun _ _ _ h => h) (Or.inl ⟨by rfl, ?_⟩) (by assumption) ?_
  rotate_left
  · intro wS hSw
    try dsimp only at hSw
    go_simp
    try with_reducible rfl
  try simp only [Act.put, List.setIfInBounds_toArray, List.set_cons_zero, List.set_cons_succ]
  refine wpAnyH_take (i := 5) (oi := ⟨_, _, _, _, _, _⟩) (v := ?_) rfl (by kernel_rfl) (by kernel_rfl) (by kernel_rfl) (fun _ _ _ h => h) (Or.inl ⟨by rfl, ?_⟩) (by assumption) ?_
  rotate_left
  · intro wS hSw
    try dsimp only at hSw
    go_simp
    try with_reducible rfl
  try simp only [Act.put, List.setIfInBounds_toArray, List.set_cons_zero, List.set_cons_succ]
  refine wpAnyH_ready (rs := [6]) (by kernel_rfl) (by simp) ?_
  refine AllReadyH.cons rfl (fun K hK => ?_) AllReadyH.nil
  rw [if_pos (by rfl)]
  refine wp_store_row 58 _ _ rfl (w.heap.size + 1) _ rfl rfl 58 _ (BR2.drew).h (by kernel_rfl) (by rfl) (by kernel_rfl) ?_
  refine hK.out _ _ ?_ (fun hHeld => ?_)
  · exact ⟨vS _ (blk_row BV2.drew (by omega) _), eS _ (below_setRow hbb.drew (by omega) _)⟩
  clear hK K
  refine wpAnyH_ready (rs := [7]) (by kernel_rfl) (by simp) ?_
  refine AllReadyH.cons rfl (fun K hK => ?_) AllReadyH.nil
  rw [if_pos (by rfl)]
  refine wp_store_row 53 _ _ rfl (w.heap.size + 1 + 1) _ rfl rfl 53 _ (blk_row BK2.drew (show w.heap.size + 1 + 1 ≠ w.heap.size + 1 by omega) _).h (by kernel_rfl) (by rfl) (by exact hone) ?_
  refine hK.out _ _ ?_ (fun hHeld => ?_)
  · exact ⟨vS _ (blk_row (blk_row BV2.drew (by omega) _) (by omega) _), eS _ (below_setRow (below_setRow hbb.drew (by omega) _) (by omega) _)⟩
  clear hK K
  refine wpAnyH_take (i := 8) (oi := ⟨_, _, _, _, _, _⟩) (v := ?_) rfl (by kernel_rfl) (by kernel_rfl) (by kernel_rfl) (fun _ _ _ h => h) (Or.inl ⟨by rfl, ?_⟩) (by assumption) ?_
  rotate_left
  · intro wS hSw
    try dsimp only at hSw
    go_simp
    try with_reducible rfl
  try simp only [Act.put, List.setIfInBounds_toArray, List.set_cons_zero, List.set_cons_succ]
  refine wpAnyH_done (by kernel_rfl) ?_ _
  go_wp2_with fail
  refine bodyPost_ret (v := .tuple #[.agg (rvA ⟨some ⟨b, off, none⟩, kc⟩ sh L.length S.length k0 n0), .agg #[v0, v1, v2, v3, v4, v5, v6, v7, v8, v9, v10], .bool true]) (results_row2_tmp rfl _ _ (w.heap.size + 1) 58 (rvA ⟨some ⟨b, off, none⟩, kc⟩ sh L.length S.length k0 n0) (0, 0) _ (w.heap.size + 1 + 1) 53 _ (0, 0) _ (.bool true) rfl rfl rfl (blk_row (Blk.row BR2.drew _) (show w.heap.size + 1 ≠ w.heap.size + 1 + 1 by omega) _).h (Blk.row (blk_row BK2.drew (show w.heap.size + 1 + 1 ≠ w.heap.size + 1 by omega) _) _).h Try.underlying58 rfl (by kernel_rfl) Try.underlying53 rfl (by kernel_rfl)) rfl ⟨rfl, below_setRow (below_setRow hbb.drew (by omega) _) (by omega) _⟩
set_option maxRecDepth 100000 in
set_option maxHeartbeats 3200000 in
theorem rat_miss {w : World} {kh sh : Hd} {L : List Kn} {S : List Sp} (H : RV w kh sh L S) (k0 n0 n : Int) (hn : knAt L n = none) : Calls Try.prog 31 #[.agg (rvA kh sh L.length S.length k0 n0), .int .i64 n] w fun e w' => e = .returned (.tuple #[.agg (rvA kh sh L.length S.length (missK k0 n) (missN k0 n0 n)), .agg kz, .bool false]) ∧ Below w.heap.size w w' := by
  have hb : Below w.heap.size w (((w.alloc (.cells (rvA kh sh L.length S.length k0 n0) 58)).alloc (.cells rz 58)).alloc (.cells kz 53)) := by (repeat (first | exact Below.refl _ _ | assumption | refine below_alloc2 ?_ (by first | exact Nat.le_refl _ | omega) _ | refine Below.drew ?_ | refine below_drewN ?_ _ | refine below_push2 ?_ ‹_› (by first | exact Nat.le_refl _ | omega) | refine Below.setCell ?_ (by first | (simp; done) | (simp; omega) | omega) _))
  have BV := ((Blk.new w (rvA kh sh L.length S.length k0 n0) 58).alloc (.cells rz 58)).alloc (.cells kz 53)
  have BR := (Blk.new (w.alloc (.cells (rvA kh sh L.length S.length k0 n0) 58)) rz 58).alloc (.cells kz 53)
  have BK := Blk.new ((w.alloc (.cells (rvA kh sh L.length S.length k0 n0) 58)).alloc (.cells rz 58)) kz 53
  simp only [World.size_alloc] at BK BR
  go_enter Try.func31, Try.ntmps31
  go_upto_region 1 with (fail)
  generalize ((w.alloc (.cells (rvA kh sh L.length S.length k0 n0) 58)).alloc (.cells rz 58)).alloc (.cells kz 53) = w1 at hb BV BK BR ⊢
  have hz1 : w.heap.size + 1 + 1 < w1.heap.size := BK.lt
  go_wp2_with (refine wpList_load_row rfl 58 _ rfl w.heap.size rfl 58 _ (0, 0) _ BV.h Try.underlying58 rfl (by kernel_rfl) ?_)
  refine (rfind_any (H.below hb) k0 n0 n).mono ?_
  rintro e w2 ⟨r, rfl, hr, hb2⟩
  rcases hr with ⟨rfl, h⟩ | ⟨i, hi, rfl, _, h⟩
  case inr => rw [hn] at h; cases h
  have hbb := below_push2 hb hb2 (by omega)
  have BV2 := BV.below hb2
  have BK2 := BK.below hb2
  have BR2 := BR.below hb2
  clear h hn BV BK BR
  go_wp2_with fail
  refine (rcell_any _ n).mono ?_
  rintro e wx ⟨rfl, rfl⟩
  have hM : Hid (missK k0 n = lackK k0 (if cellB n then 1 else 3) ∧ missN k0 n0 n = lackN k0 n0 (if cellB n then n else 0)) := Lib.hid ⟨rfl, rfl⟩
  cases hc : cellB n
  · rw [hc] at hM
    clear hc
    go_wp2_with (refine wpList_load_row rfl 58 _ rfl w.heap.size rfl 58 _ (0, 0) _ (BV2).h Try.underlying58 rfl (by kernel_rfl) ?_)
    refine (rlack_any kh sh L.length S.length k0 n0 3 0 _).mono ?_
    rintro e w3 ⟨rfl, hb3⟩
    have hbz := below_push2 hbb hb3 (by have := (hbb).size; omega)
    have BR3 := (BR2).below hb3
    have BK3 := (BK2).below hb3
    have BK4 := blk_row BK3 (show w.heap.size + 1 + 1 ≠ w.heap.size + 1 by omega) (rvA kh sh L.length S.length (lackK k0 3) (lackN k0 n0 0))
    go_wp2_with (first
      | (refine wpList_store_row rfl 58 _ _ rfl (w.heap.size + 1) _ rfl rfl 58 _ BR3.h (by kernel_rfl) (by rfl) (by kernel_rfl) ?_)
      | (refine wpList_store_row rfl 53 _ _ rfl (w.heap.size + 1 + 1) _ rfl rfl 53 _ BK4.h (by kernel_rfl) (by rfl) (by kernel_rfl) ?_))
    refine bodyPost_ret (v := .tuple #[.agg (rvA kh sh L.length S.length (lackK k0 3) (lackN k0 n0 0)), .agg kz, .bool false]) (results_row2_tmp rfl _ _ (w.heap.size + 1) 58 (rvA kh sh L.length S.length (lackK k0 3) (lackN k0 n0 0)) (0, 0) _ (w.heap.size + 1 + 1) 53 kz (0, 0) _ (.bool false) rfl rfl rfl (blk_row (Blk.row BR3 _) (show w.heap.size + 1 ≠ w.heap.size + 1 + 1 by omega) _).h (Blk.row BK4 _).h Try.underlying58 rfl (by kernel_rfl) Try.underlying53 rfl (by kernel_rfl)) rfl ?_
    exact ⟨by rw [hM.out.1, hM.out.2]; rfl, below_setRow (below_setRow hbz (by omega) _) (by omega) _⟩
  · rw [hc] at hM
    clear hc
    go_wp2_with (refine wpList_load_row rfl 58 _ rfl w.heap.size rfl 58 _ (0, 0) _ (BV2).h Try.underlying58 rfl (by kernel_rfl) ?_)
    refine (rlack_any kh sh L.length S.length k0 n0 1 n _).mono ?_
    rintro e w3 ⟨rfl, hb3⟩
    have hbz := below_push2 hbb hb3 (by have := (hbb).size; omega)
    have BR3 := (BR2).below hb3
    have BK3 := (BK2).below hb3
    have BK4 := blk_row BK3 (show w.heap.size + 1 + 1 ≠ w.heap.size + 1 by omega) (rvA kh sh L.length S.length (lackK k0 1) (lackN k0 n0 n))
    go_wp2_with (first
      | (refine wpList_store_row rfl 58 _ _ rfl (w.heap.size + 1) _ rfl rfl 58 _ BR3.h (by kernel_rfl) (by rfl) (by kernel_rfl) ?_)
      | (refine wpList_store_row rfl 53 _ _ rfl (w.heap.size + 1 + 1) _ rfl rfl 53 _ BK4.h (by kernel_rfl) (by rfl) (by kernel_rfl) ?_))
    refine bodyPost_ret (v := .tuple #[.agg (rvA kh sh L.length S.length (lackK k0 1) (lackN k0 n0 n)), .agg kz, .bool false]) (results_row2_tmp rfl _ _ (w.heap.size + 1) 58 (rvA kh sh L.length S.length (lackK k0 1) (lackN k0 n0 n)) (0, 0) _ (w.heap.size + 1 + 1) 53 kz (0, 0) _ (.bool false) rfl rfl rfl (blk_row (Blk.row BR3 _) (show w.heap.size + 1 ≠ w.heap.size + 1 + 1 by omega) _).h (Blk.row BK4 _).h Try.underlying58 rfl (by kernel_rfl) Try.underlying53 rfl (by kernel_rfl)) rfl ?_
    exact ⟨by rw [hM.out.1, hM.out.2]; rfl, below_setRow (below_setRow hbz (by omega) _) (by omega) _⟩
end Go.Proofs.Ytbemgfpnoeogdaa.FoP
