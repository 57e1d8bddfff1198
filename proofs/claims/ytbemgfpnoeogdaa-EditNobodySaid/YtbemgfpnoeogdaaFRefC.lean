/-
  The document's views: Learn: contracts.
-/
import Derived.Test.YtbemgfpnoeogdaaFRefB
namespace Go.Proofs.Ytbemgfpnoeogdaa.FoP
open Go.RowKit RefP Go.Maps Dp
set_option linter.unusedVariables false
set_option linter.unusedSimpArgs false
abbrev k11 (n : Int) (v1 v2 v3 v4 v5 v6 v7 v8 v9 v10 : Value) : Array Value := #[.int .i64 n, v1, v2, v3, v4, v5, v6, v7, v8, v9, v10]
set_option maxRecDepth 100000 in
set_option maxHeartbeats 3200000 in
theorem rlearn_out {w : World} {kh sh : Hd} {L : List Kn} {S : List Sp} (k0 n0 n : Int) (v1 v2 v3 v4 v5 v6 v7 v8 v9 v10 : Value) (hc : cellB n = false) : Calls Try.prog 25 #[.agg (rvA kh sh L.length S.length k0 n0), .agg (k11 n v1 v2 v3 v4 v5 v6 v7 v8 v9 v10)] w fun e w' => e = .returned (.tuple #[.agg (rvA kh sh L.length S.length k0 n0), .bool false]) ∧ Below w.heap.size w w' := by
  have hb : Below w.heap.size w (((w.alloc (.cells (rvA kh sh L.length S.length k0 n0) 58)).alloc (.cells (k11 n v1 v2 v3 v4 v5 v6 v7 v8 v9 v10) 53)).alloc (.cells rz 58)) := by (repeat (first | exact Below.refl _ _ | assumption | refine below_alloc2 ?_ (by first | exact Nat.le_refl _ | omega) _ | refine Below.drew ?_ | refine below_drewN ?_ _ | refine below_push2 ?_ ‹_› (by first | exact Nat.le_refl _ | omega) | refine Below.setCell ?_ (by first | (simp; done) | (simp; omega) | omega) _))
  have BV := ((Blk.new w (rvA kh sh L.length S.length k0 n0) 58).alloc (.cells (k11 n v1 v2 v3 v4 v5 v6 v7 v8 v9 v10) 53)).alloc (.cells rz 58)
  have BK := (Blk.new (w.alloc (.cells (rvA kh sh L.length S.length k0 n0) 58)) (k11 n v1 v2 v3 v4 v5 v6 v7 v8 v9 v10) 53).alloc (.cells rz 58)
  have BR := Blk.new ((w.alloc (.cells (rvA kh sh L.length S.length k0 n0) 58)).alloc (.cells (k11 n v1 v2 v3 v4 v5 v6 v7 v8 v9 v10) 53)) rz 58
  simp only [World.size_alloc] at BK BR
  go_enter Try.func25, Try.ntmps25
  go_upto_region 1 with (fail)
  generalize ((w.alloc (.cells (rvA kh sh L.length S.length k0 n0) 58)).alloc (.cells (k11 n v1 v2 v3 v4 v5 v6 v7 v8 v9 v10) 53)).alloc (.cells rz 58) = w1 at hb BV BK BR ⊢
  have hz1 : w.heap.size + 2 < w1.heap.size := BR.lt
  have c0 := BK.at 0 rfl
  go_wp2_with fail
  refine (rcell_any _ n).mono ?_
  rintro e wx ⟨rfl, rfl⟩
  rw [hc]
  go_wp2_with (first
    | (refine wpList_load_row rfl 58 _ rfl w.heap.size rfl 58 _ (0, 0) _ BV.h Try.underlying58 rfl (by kernel_rfl) ?_)
    | (refine wpList_store_row rfl 58 _ _ rfl (w.heap.size + 2) _ rfl rfl 58 _ BR.h (by kernel_rfl) (by rfl) (by kernel_rfl) ?_))
  refine bodyPost_ret (v := .tuple #[.agg (rvA kh sh L.length S.length k0 n0), .bool false]) (results_cell_tmp rfl _ _ (w.heap.size + 2) 58 (rvA kh sh L.length S.length k0 n0) (0, 0) _ (.bool false) rfl rfl (Blk.row BR _).h Try.underlying58 rfl (by kernel_rfl)) rfl ⟨rfl, below_setRow hb (by omega) _⟩
set_option maxRecDepth 100000 in
set_option maxHeartbeats 3200000 in
theorem rlearn_any {w : World} {kh sh : Hd} {L : List Kn} {S : List Sp} (H : RV w kh sh L S) (k0 n0 n : Int) (v1 v2 v3 v4 v5 v6 v7 v8 v9 v10 : Value) (hok : ((k11 n v1 v2 v3 v4 v5 v6 v7 v8 v9 v10)).all (·.oneCell') = true) (hc : cellB n = true) : Calls Try.prog 25 #[.agg (rvA kh sh L.length S.length k0 n0), .agg (k11 n v1 v2 v3 v4 v5 v6 v7 v8 v9 v10)] w fun e w' => ∃ a c, e = .returned (.tuple #[.agg (rvA ⟨a, c⟩ sh (knDel L n ++ [(n, (k11 n v1 v2 v3 v4 v5 v6 v7 v8 v9 v10))]).length S.length k0 n0), .bool true]) ∧ Below w.heap.size w w' ∧ OwnK w' w.heap.size a c (knDel L n ++ [(n, (k11 n v1 v2 v3 v4 v5 v6 v7 v8 v9 v10))]) := by
  have hb : Below w.heap.size w (((w.alloc (.cells (rvA kh sh L.length S.length k0 n0) 58)).alloc (.cells (k11 n v1 v2 v3 v4 v5 v6 v7 v8 v9 v10) 53)).alloc (.cells rz 58)) := by (repeat (first | exact Below.refl _ _ | assumption | refine below_alloc2 ?_ (by first | exact Nat.le_refl _ | omega) _ | refine Below.drew ?_ | refine below_drewN ?_ _ | refine below_push2 ?_ ‹_› (by first | exact Nat.le_refl _ | omega) | refine Below.setCell ?_ (by first | (simp; done) | (simp; omega) | omega) _))
  have BV := ((Blk.new w (rvA kh sh L.length S.length k0 n0) 58).alloc (.cells (k11 n v1 v2 v3 v4 v5 v6 v7 v8 v9 v10) 53)).alloc (.cells rz 58)
  have BK := (Blk.new (w.alloc (.cells (rvA kh sh L.length S.length k0 n0) 58)) (k11 n v1 v2 v3 v4 v5 v6 v7 v8 v9 v10) 53).alloc (.cells rz 58)
  have BR := Blk.new ((w.alloc (.cells (rvA kh sh L.length S.length k0 n0) 58)).alloc (.cells (k11 n v1 v2 v3 v4 v5 v6 v7 v8 v9 v10) 53)) rz 58
  simp only [World.size_alloc] at BK BR
  go_enter Try.func25, Try.ntmps25
  go_upto_region 1 with (fail)
  generalize ((w.alloc (.cells (rvA kh sh L.length S.length k0 n0) 58)).alloc (.cells (k11 n v1 v2 v3 v4 v5 v6 v7 v8 v9 v10) 53)).alloc (.cells rz 58) = w1 at hb BV BK BR ⊢
  have hz1 : w.heap.size + 2 < w1.heap.size := BR.lt
  have c0 := BK.at 0 rfl
  go_wp2_with fail
  refine (rcell_any _ n).mono ?_
  rintro e wx ⟨rfl, rfl⟩
  rw [hc]
  go_wp2_with (first
    | (refine wpList_load_row rfl 58 _ rfl w.heap.size rfl 58 _ (0, 0) _ BV.h Try.underlying58 rfl (by kernel_rfl) ?_))
  refine (rforget_any (H.below hb) k0 n0 n).mono ?_
  rintro e w2 ⟨a, c, rfl, hb2, O⟩
  have BV2 := BV.below hb2
  have hbb := below_push2 hb hb2 (by omega)
  have F3 := Fr.row (S := [w.heap.size]) (w := w2) w.heap.size (rvA ⟨a, c⟩ sh (knDel L n).length S.length k0 n0) (by simp)
  have BV3 := Blk.row BV2 (rvA ⟨a, c⟩ sh (knDel L n).length S.length k0 n0)
  have BK3 : Blk (w2.setRow w.heap.size (rvA ⟨a, c⟩ sh (knDel L n).length S.length k0 n0)) (w.heap.size + 1) (k11 n v1 v2 v3 v4 v5 v6 v7 v8 v9 v10) 53 := ⟨(F3.block _ (BK.below hb2).lt (by simp; try omega)).trans (BK.below hb2).h⟩
  have BR3 : Blk (w2.setRow w.heap.size (rvA ⟨a, c⟩ sh (knDel L n).length S.length k0 n0)) (w.heap.size + 1 + 1) rz 58 := ⟨(F3.block _ (BR.below hb2).lt (by simp; try omega)).trans (BR.below hb2).h⟩
  have O3 := O.fr F3 (fun g hg => by have := (O.lt g hg).1; simp; omega)
  have hz2 := Nat.le_trans hb2.size F3.size
  have hb3 := below_setRow hbb (Nat.le_refl _) (rvA ⟨a, c⟩ sh (knDel L n).length S.length k0 n0)
  go_upto_region 4 with (refine wpList_store_row rfl 58 _ _ rfl w.heap.size _ rfl rfl 58 _ BV2.h (by kernel_rfl) (by rfl) (by kernel_rfl) ?_)
  clear BV2 hbb F3 BV BK BR
  generalize w2.setRow w.heap.size (rvA ⟨a, c⟩ sh (knDel L n).length S.length k0 n0) = w3 at BV3 BK3 BR3 O3 hb3 hz2 ⊢
  have hbx : Below w3.heap.size w3 (w3.alloc (.cells (k11 n v1 v2 v3 v4 v5 v6 v7 v8 v9 v10) 53)) := (Below.refl _ _).alloc (Nat.le_refl _) _
  have hlen : (knL (knDel L n)).length ≤ 100 := by
    have := knDel_le L n
    have := H.ll
    rw [List.length_map]; omega
  have hz3 : wx.heap.size ≤ w3.heap.size := hz2
  obtain ⟨g, d, w5, A⟩ := ((O3.below hbx).rep (wr' := w3.alloc (.cells (k11 n v1 v2 v3 v4 v5 v6 v7 v8 v9 v10) 53)) (S' := []) (fun _ _ h => h)).addLit tinKnown (by decide) (Blk.new w3 _ 53) (raw_mk (cs := (k11 n v1 v2 v3 v4 v5 v6 v7 v8 v9 v10)) ⟨rfl, hok⟩) (by omega) (by decide) (by have := hbx.size; omega)
  have hr := Lib.hid A.run
  have nb : ∀ b, b < wx.heap.size → b ∉ ob a := fun b hlt hb => by have := (O3.lt b hb).1; omega
  have E5 : ∀ b, b < wx.heap.size → w5.heap[b]? = w3.heap[b]? := fun b hlt => (A.fr.block b (by have := hbx.size; omega) (nb b hlt)).trans (hbx.block b (by omega))
  have BV5 : Blk w5 w.heap.size _ _ := ⟨(E5 _ (by omega)).trans BV3.h⟩
  have BR5 : Blk w5 (w.heap.size + 1 + 1) _ _ := ⟨(E5 _ (by omega)).trans BR3.h⟩
  have hb5 : Below w.heap.size w w5 := A.fr.below (below_push2 hb3 hbx (by have := hb3.size; omega)) (by have := hb3.size; omega) (fun b hb => by have := (O3.lt b hb).1; omega)
  have hl5 : (knL (knDel L n)).length = (knDel L n).length := List.length_map _
  rw [hl5] at hr
  have O5 : OwnK w5 wx.heap.size (some ⟨g, 0, none⟩) d (knDel L n ++ [(n, (k11 n v1 v2 v3 v4 v5 v6 v7 v8 v9 v10))]) := by
    have := A.own.rep (wr' := w5) (S' := []) (fun _ _ h => h)
    rw [OwnK, knL, List.map_append]
    exact this
  clear A E5 nb
  have k0' := BV3.at 0 rfl
  have f5 := BV5.free 0
  have k5 := BV5.at 0 rfl
  have BV6 := BV5.set 0 (.slice (some ⟨g, 0, none⟩) ((knDel L n).length + 1) d)
  have BR6 := BR5.far ⟨w.heap.size, 0, none⟩ (.slice (some ⟨g, 0, none⟩) ((knDel L n).length + 1) d) (by simp; try omega)
  generalize hQ : (rvA ⟨a, c⟩ sh (knDel L n).length S.length k0 n0).setIfInBounds 0 (.slice (some ⟨g, 0, none⟩) ((knDel L n).length + 1) d) = Q at BV6
  obtain rfl : rvA ⟨some ⟨g, 0, none⟩, d⟩ sh ((knDel L n).length + 1) S.length k0 n0 = Q := by rw [← hQ]; simp
  clear hQ
  go_wp2_with (first
    | (refine wpList_load_row rfl 53 _ rfl (w.heap.size + 1) rfl 53 _ (0, 0) _ BK3.h Try.underlying53 rfl (by kernel_rfl) ?_)
    | (at_builtin; refine wpList_append_run hr.out rfl (by rfl) (by rfl) (by rfl) ?_)
    | (refine wpList_load_row rfl 58 _ rfl w.heap.size rfl 58 _ (0, 0) _ BV6.h Try.underlying58 rfl (by kernel_rfl) ?_)
    | (refine wpList_store_row rfl 58 _ _ rfl (w.heap.size + 1 + 1) _ rfl rfl 58 _ BR6.h (by kernel_rfl) (by rfl) (by kernel_rfl) ?_))
  all_goals
    refine bodyPost_ret (v := .tuple #[.agg (rvA ⟨some ⟨g, 0, none⟩, d⟩ sh ((knDel L n).length + 1) S.length k0 n0), .bool true]) (results_cell_tmp rfl _ _ (w.heap.size + 1 + 1) 58 (rvA ⟨some ⟨g, 0, none⟩, d⟩ sh ((knDel L n).length + 1) S.length k0 n0) (0, 0) _ (.bool true) rfl rfl (Blk.row BR6 _).h Try.underlying58 rfl (by kernel_rfl)) rfl ⟨some ⟨g, 0, none⟩, d, by rw [List.length_append]; rfl, below_setRow (hb5.setCell (Nat.le_refl _) _) (by omega) _, ?_⟩
    have F7 := ((Fr.refl [w.heap.size, w.heap.size + 1 + 1] w5).set ⟨w.heap.size, 0, none⟩ (.slice (some ⟨g, 0, none⟩) ((knDel L n).length + 1) d) (.inl (by simp))).trans (Fr.row (S := [w.heap.size, w.heap.size + 1 + 1]) (w.heap.size + 1 + 1) (rvA ⟨some ⟨g, 0, none⟩, d⟩ sh ((knDel L n).length + 1) S.length k0 n0) (by simp))
    have O7 := (O5.fr F7 (fun q hq => by have := (O5.lt q hq).1; simp; omega)).lower (b' := w.heap.size) (by omega)
    refine OwnV.rep (wr := w5) (S := []) O7 ?_
    exact fun _ _ h => h
end Go.Proofs.Ytbemgfpnoeogdaa.FoP
