/-
  The document's views: Forget, Learn: contracts.
-/
import Derived.Test.YtbemgfpnoeogdaaFRef
import Derived.BigRegion
import Derived.Deep.DeepCutAuto
import Derived.Deep.LoopGhost
namespace Go.Proofs.Ytbemgfpnoeogdaa.FoP
open Go.RowKit RefP Go.Maps Dp
set_option linter.unusedVariables false
set_option linter.unusedSimpArgs false
theorem infoKnown : (Try.prog.info? 53).map (fun i => (i.zero, i.size, i.bytes)) = some (some (.agg kz), 11, 152) := by kernel_rfl
theorem tinKnown : TIn Try.prog 48 53 11 152 := tin_mk Try.underlying48 infoKnown (by simp [Value.cells])
theorem knDel_take_eq {L : List Kn} {n : Int} {k : Nat} (h : k < L.length) (e : L[k].1 = n) : knDel (L.take (k + 1)) n = knDel (L.take k) n := by
  rw [List.take_succ_eq_append_getElem h, knDel, List.filter_append]
  simp [knDel, e]
theorem knDel_take_ne {L : List Kn} {n : Int} {k : Nat} (h : k < L.length) (e : L[k].1 ≠ n) : knDel (L.take (k + 1)) n = knDel (L.take k) n ++ [L[k]] := by
  rw [List.take_succ_eq_append_getElem h, knDel, List.filter_append]
  simp [knDel, e]
theorem knDel_le (L : List Kn) (n : Int) : (knDel L n).length ≤ L.length := List.length_filter_le _ _
theorem raw_mk {w : World} {S : List Nat} {cs : Array Value} (h : cs.size = 11 ∧ cs.all (·.oneCell') = true) : (rawC 11).rep w S cs.toList cs.toList := ⟨rfl, by simpa using h.1, fun v hv => by
  have := Array.all_eq_true_iff_forall_mem.1 h.2 v (by simpa using hv)
  simpa using this⟩
theorem arr11 {cs : Array Value} (h : cs.size = 11) : ∃ v0 v1 v2 v3 v4 v5 v6 v7 v8 v9 v10, cs = #[v0, v1, v2, v3, v4, v5, v6, v7, v8, v9, v10] := by
  obtain ⟨l⟩ := cs
  match l, h with
  | [v0, v1, v2, v3, v4, v5, v6, v7, v8, v9, v10], _ => exact ⟨v0, v1, v2, v3, v4, v5, v6, v7, v8, v9, v10, rfl⟩
abbrev OwnK (w : World) (base : Nat) (a : Option Addr) (c : Nat) (L : List Kn) : Prop := OwnV (rawC 11) w [] w base 53 a c (knL L)
set_option maxRecDepth 100000 in
set_option maxHeartbeats 3200000 in
/-- the document's view, its row of knowns the call's own -/
theorem rforget_any {w : World} {kh sh : Hd} {L : List Kn} {S : List Sp} (H : RV w kh sh L S) (k0 n0 n : Int) : Calls Try.prog 29 #[.agg (rvA kh sh L.length S.length k0 n0), .int .i64 n] w fun e w' => ∃ a c, e = .returned (.agg (rvA ⟨a, c⟩ sh (knDel L n).length S.length k0 n0)) ∧ Below w.heap.size w w' ∧ OwnK w' w.heap.size a c (knDel L n) := by
  have hb : Below w.heap.size w ((w.alloc (.cells (rvA kh sh L.length S.length k0 n0) 58)).alloc (.cells rz 58)) := by (repeat (first | exact Below.refl _ _ | assumption | refine below_alloc2 ?_ (by first | exact Nat.le_refl _ | omega) _ | refine Below.drew ?_ | refine below_drewN ?_ _ | refine below_push2 ?_ ‹_› (by first | exact Nat.le_refl _ | omega) | refine Below.setCell ?_ (by first | (simp; done) | (simp; omega) | omega) _))
  have BV := (Blk.new w (rvA kh sh L.length S.length k0 n0) 58).alloc (.cells rz 58)
  have BR := Blk.new (w.alloc (.cells (rvA kh sh L.length S.length k0 n0) 58)) rz 58
  rw [World.size_alloc] at BR
  have hll := H.ll
  go_enter Try.func29, Try.ntmps29
  go_upto_region 1 with (fail)
  generalize (w.alloc (.cells (rvA kh sh L.length S.length k0 n0) 58)).alloc (.cells rz 58) = w1 at hb BV BR ⊢
  have H1 := H.below hb
  have hz1 : w.heap.size + 1 < w1.heap.size := BR.lt
  go_wp2_with fail
  go_loopg [5, 6] L.length (fun gg v5 i wr => ∃ (k : Nat) (a : Option Addr) (c : Nat), k ≤ L.length ∧ L.length ≤ k + gg ∧ i = .int .i64 k ∧ v5 = .slice a (knDel (L.take k) n).length c ∧ Below w1.heap.size w1 wr ∧ OwnK wr w1.heap.size a c (knDel (L.take k) n))
  case atStart => exact ⟨0, none, 0, Nat.zero_le _, by omega, rfl, by simp [knDel], Below.refl _ _, by rw [List.take_zero]; exact OwnV.nil _ _ _ _ _⟩
  case round =>
    obtain ⟨k, a, c, hk, hkg, rfl, rfl, hb2, O⟩ := hrel
    have BW := BV.below hb2
    have x0 := BW.at 0 rfl
    by_cases hlt : k < L.length
    · have hlt' : (k : Int) < (L.length : Int) := by omega
      obtain ⟨b, off, ha, hbl, hcs, y0⟩ := (H1.below hb2).at k hlt
      have a0 : wr.cell? ⟨w.heap.size, 0, none⟩ = some (.slice (some ⟨b, off, none⟩) L.length kh.c) := by rw [← ha]; exact x0
      clear x0
      by_cases he : L[k].1 = n
      · have hE := Lib.hid (knDel_take_eq hlt he)
        rw [he] at y0
        clear he hcs
        go_wp2_with fail
        go_roundg (L.length - (k + 1))
        case measure => omega
        case rel => exact ⟨k + 1, a, c, by omega, by omega, by go_num, by rw [hE.out], hb2, by rw [hE.out]; exact O⟩
      · have hE := Lib.hid (knDel_take_ne hlt he)
        have hne : (L[k].1 == n) = false := by simpa using he
        have hsz := (H1.ok L[k] (List.getElem_mem hlt)).1
        have hraw := raw_mk (w := wr) (S := []) (H1.ok L[k] (List.getElem_mem hlt))
        generalize L[k] = p at y0 hne hcs hraw hE hsz
        obtain ⟨x, cs⟩ := p
        simp only at y0 hne hcs hraw hsz
        obtain ⟨v0, v1, v2, v3, v4, v5, v6, v7, v8, v9, v10, rfl⟩ := arr11 hsz
        clear he
        have hbx : Below wr.heap.size wr (wr.alloc (.cells #[v0, v1, v2, v3, v4, v5, v6, v7, v8, v9, v10] 53)) := (Below.refl _ _).alloc (Nat.le_refl _) _
        have hlen : (knL (knDel (L.take k) n)).length ≤ 100 := by
          have := knDel_le (L.take k) n
          rw [List.length_take] at this
          rw [List.length_map]; omega
        obtain ⟨g, d, w5, A⟩ := ((O.below hbx).rep (wr' := wr.alloc (.cells #[v0, v1, v2, v3, v4, v5, v6, v7, v8, v9, v10] 53)) (S' := []) (fun _ _ h => h)).addLit tinKnown (by decide) (Blk.new wr _ 53) hraw (by omega) (by decide) (by have := hbx.size; have := hb2.size; omega)
        have hr := Lib.hid A.run
        have hbW : Below w1.heap.size w1 w5 := A.fr.below (below_push2 hb2 hbx (Nat.le_refl _)) (Nat.le_refl _) (fun b hb => (O.lt b hb).1)
        have O5 : OwnK w5 w1.heap.size (some ⟨g, 0, none⟩) d (knDel (L.take k) n ++ [(x, #[v0, v1, v2, v3, v4, v5, v6, v7, v8, v9, v10])]) := by
          have := A.own.rep (wr' := w5) (S' := []) (fun _ _ h => h)
          rw [OwnK, knL, List.map_append]
          exact this
        clear A O
        simp only [List.length_map] at hr
        go_wp2_with (first
          | (refine wpList_load_mid rfl 53 _ rfl b (off + k * 11) rfl #[v0, v1, v2, v3, v4, v5, v6, v7, v8, v9, v10].toList _ hcs Try.underlying53 rfl (by kernel_rfl) ?_)
          | (at_builtin; refine wpList_append_run hr.out rfl (by rfl) (by rfl) (by rfl) ?_))
        all_goals
          go_roundg (L.length - (k + 1))
          case measure => omega
          case rel => exact ⟨k + 1, _, _, by omega, by omega, by go_num, by rw [hE.out, List.length_append]; rfl, hbW, by rw [hE.out]; exact O5⟩
    · obtain rfl : k = L.length := by omega
      rw [List.take_length] at O
      have BR2 := (BR.below hb2).far ⟨w.heap.size, 0, none⟩ (.slice a (knDel L n).length c) (by simp)
      have BW2 := BW.set 0 (.slice a (knDel L n).length c)
      generalize hQ : (rvA kh sh L.length S.length k0 n0).setIfInBounds 0 (.slice a (knDel L n).length c) = Q at BW2
      obtain rfl : rvA ⟨a, c⟩ sh (knDel L n).length S.length k0 n0 = Q := by rw [← hQ]; simp
      have f0 := BW.free 0
      clear hQ
      go_wp2_with (first
        | (refine wpList_load_row rfl 58 _ rfl w.heap.size rfl 58 _ (0, 0) _ BW2.h Try.underlying58 rfl (by kernel_rfl) ?_)
        | (refine wpList_store_row rfl 58 _ _ rfl (w.heap.size + 1) _ rfl rfl 58 _ BR2.h (by kernel_rfl) (by rfl) (by kernel_rfl) ?_))
      refine bodyPost_ret (results_cell_row rfl _ _ (w.heap.size + 1) 58 (rvA ⟨a, c⟩ sh (knDel L n).length S.length k0 n0) (0, 0) _ rfl (Blk.row BR2 _).h Try.underlying58 rfl (by kernel_rfl)) rfl ⟨a, c, rfl, below_setRow ((below_push2 hb hb2 (by omega)).setCell (Nat.le_refl _) _) (by omega) _, ?_⟩
      have F1 : Fr [w.heap.size, w.heap.size + 1] wr (wr.setCell ⟨w.heap.size, 0, none⟩ (.slice a (knDel L n).length c)) := (Fr.refl _ wr).set ⟨w.heap.size, 0, none⟩ _ (.inl (by simp))
      have F2 := F1.trans (Fr.row (S := [w.heap.size, w.heap.size + 1]) (w.heap.size + 1) (rvA ⟨a, c⟩ sh (knDel L n).length S.length k0 n0) (by simp))
      have O2 := (O.fr F2 (fun g hg => by have := (O.lt g hg).1; simp; omega)).lower (b' := w.heap.size) (by omega)
      refine OwnV.rep (wr := wr) (S := []) O2 ?_
      exact fun _ _ h => h
end Go.Proofs.Ytbemgfpnoeogdaa.FoP
