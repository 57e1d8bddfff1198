/-
  edit: At: the contract.
-/
import Derived.Test.YtbemgfpnoeogdaaEdA
namespace Go.Proofs.Ytbemgfpnoeogdaa.EdP
open Go.RowKit RefP FoP Dp
set_option linter.unusedVariables false
set_option linter.unusedSimpArgs false
/-- what an edit tells of a cell -/
def AtIs (C : List Ch) (l : List KnV) (cell : Int) (x : NodeV) (bit : Bool) : Prop :=
  (∃ i, ∃ hi : i < C.length, C[i].2.cell = cell ∧ (∀ j (hj : j < C.length), i < j → C[j].2.cell ≠ cell) ∧ bit = !C[i].2.empty ∧ (bit = true → x = C[i].2.node)) ∨
  ((∀ j (hj : j < C.length), C[j].2.cell ≠ cell) ∧ ((knFind l cell = none ∧ bit = false) ∨ ∃ y, knFind l cell = some y ∧ bit = true ∧ x = y.2.2.2.1))
theorem ch_node {w : World} {s : Nat} {p : Ch} {T : TypeId} (B : Blk w s (chA p) T) : w.rangeAt s 6 (nodeA p.1 p.2.node).toList := fun j v hv => by
  have hj : j < 8 := (List.getElem?_eq_some_iff.1 hv).1
  have e : j = 0 ∨ j = 1 ∨ j = 2 ∨ j = 3 ∨ j = 4 ∨ j = 5 ∨ j = 6 ∨ j = 7 := by omega
  refine B.at (6 + j) ?_
  rcases e with e | e | e | e | e | e | e | e <;> subst e <;> exact hv
theorem KnIs.got {w0 : World} {L : List Kn} {l : List KnV} (H : KnIs w0 L l) (n : Int) : ∃ q y, (knAt L n).getD kz = knA q y ∧ NodeOk w0 [] q y.2.2.2.1 ∧ ((knFind l n = none ∧ (knAt L n).isSome = false) ∨ (knFind l n = some y ∧ (knAt L n).isSome = true)) := by
  rcases H.at n with ⟨h1, h2⟩ | ⟨q, y, h1, h2, h3, _⟩
  · exact ⟨q00, (0, 0, 0, n00, ()), by rw [h1]; rfl, n00_ok _ _, .inl ⟨h2, by rw [h1]; rfl⟩⟩
  · exact ⟨q, y, by rw [h1]; rfl, h3.node, .inr ⟨h2, by rw [h1]; rfl⟩⟩
set_option maxRecDepth 100000 in
set_option maxHeartbeats 1600000 in
theorem eat_any {w0 w : World} {e o : Nat} {L : List Kn} {S : List Sp} {C : List Ch} {t : Nat} {l : List KnV} (E : EdIs w0 w e o L S C t) (K : KnIs w0 L l) (cell : Int) (hc : I64 cell) :
    Calls Try.prog 10 #[.pointer (some ⟨e, 0, none⟩), .int .i64 cell] w fun r w' => ∃ q x bit, r = .returned (.tuple #[.agg (nodeA q x), .bool bit]) ∧ NodeOk w' [] q x ∧ EdIs w0 w' e o L S C t ∧ Fr [o] w w' ∧ AtIs C l cell x bit := by
  obtain ⟨m, a, c, k0, n0, ca, cc, ta, tc, H⟩ := E.ex
  have hb : Below w.heap.size w (w.alloc (.cells nd0 26)) := by (repeat (first | exact Below.refl _ _ | assumption | refine below_alloc2 ?_ (by first | exact Nat.le_refl _ | omega) _ | refine Below.drew ?_ | refine below_drewN ?_ _ | refine below_push2 ?_ ‹_› (by first | exact Nat.le_refl _ | omega) | refine Below.setCell ?_ (by first | (simp; done) | (simp; omega) | omega) _))
  have BR := Blk.new w nd0 26
  have H1 := H.under hb
  have hz := BR.lt
  go_enter Try.func10, Try.ntmps10
  go_upto_region 1 with (fail)
  generalize w.alloc (.cells nd0 26) = w1 at hb BR H1 hz ⊢
  go_wp2_with fail
  refine (nobody_some H1.blk).mono ?_
  rintro r w2 ⟨rfl, rfl⟩
  go_wp2_with fail
  refine (last_any e C cell w2 H1.chrow (by have := H1.cl; omega)).mono ?_
  rintro r w3 ⟨hlast, hb3⟩
  have H3 := H1.under hb3
  have BR3 := BR.below hb3
  have hbb := below_push2 hb hb3 (Nat.le_refl _)
  have hz3 := hb3.size
  clear BR H1
  rcases hlast with ⟨rfl, hno⟩ | ⟨i, hi, rfl, he, hla⟩
  · have hbx : Below w3.heap.size w3 (w3.alloc (.cells chz 97)) := by (repeat (first | exact Below.refl _ _ | assumption | refine below_alloc2 ?_ (by first | exact Nat.le_refl _ | omega) _ | refine Below.drew ?_ | refine below_drewN ?_ _ | refine below_push2 ?_ ‹_› (by first | exact Nat.le_refl _ | omega) | refine Below.setCell ?_ (by first | (simp; done) | (simp; omega) | omega) _))
    have H4 := H3.under hbx
    have BR4 := BR3.below hbx
    have hb4 := below_push2 hbb hbx (Nat.le_refl _)
    go_upto_region 4 with (refine wpList_store_row rfl 97 _ _ rfl _ _ rfl rfl 97 _ (Blk.new w3 _ _).h (by kernel_rfl) (by rfl) (by kernel_rfl) ?_; rw [World.setRow_alloc_new])
    generalize w3.alloc (.cells chz 97) = w4 at hbx H4 BR4 hb4 ⊢
    have e0 := H4.blk.at 0 rfl
    go_wp2_with fail
    refine (at_all H4.V cell ⟨hc.1, hc.2⟩).mono ?_
    rintro r w5 ⟨rfl, V5, F5⟩
    obtain ⟨q, y, hq, hn, hcase⟩ := K.got cell
    rw [hq]
    generalize (knAt L cell).isSome = bit at hcase
    have hge := H.V.lts.1
    have BR5 := F5.blk BR4 (by first | (simp; done) | (simp; omega))
    have F45 : Fr [o] w w5 := (Fr.of_below hb4).trans F5
    have hbk : Below w5.heap.size w5 (w5.alloc (.cells (knA q y) 53)) := by (repeat (first | exact Below.refl _ _ | assumption | refine below_alloc2 ?_ (by first | exact Nat.le_refl _ | omega) _ | refine Below.drew ?_ | refine below_drewN ?_ _ | refine below_push2 ?_ ‹_› (by first | exact Nat.le_refl _ | omega) | refine Below.setCell ?_ (by first | (simp; done) | (simp; omega) | omega) _))
    have BK := Blk.new w5 (knA q y) 53
    have BR6 := BR5.below hbk
    have hz6 := F5.size
    have hz4 := hb4.size
    have F6 : Fr [o] w ((w5.alloc (.cells (knA q y) 53)).setRow w.heap.size (nodeA q y.2.2.2.1)) := (F45.trans (Fr.of_below hbk)).rowNew w.heap.size _ (Nat.le_refl _)
    have hN := hn.keep (Keeps.of_below (S := []) (F6.below H.b (Nat.le_refl _) (by simpa using H.V.lo.1)))
    have hAt : AtIs C l cell y.2.2.2.1 bit := .inr ⟨hno, by
      rcases hcase with ⟨h1, h2⟩ | ⟨h1, h2⟩
      · exact .inl ⟨h1, h2⟩
      · exact .inr ⟨y, h1, h2, rfl⟩⟩
    have H7 := H.view F6 (H.V.row (V5.under hbk) w.heap.size (nodeA q y.2.2.2.1) (Nat.le_refl _))
    go_wp2_with (first
      | (refine wpList_store_row rfl 53 _ _ rfl _ _ rfl rfl 53 _ (Blk.new w5 _ _).h (by kernel_rfl) (by rfl) (by kernel_rfl) ?_; rw [World.setRow_alloc_new])
      | (refine wpList_load_mid rfl 26 _ rfl w5.heap.size 3 rfl (nodeA q y.2.2.2.1).toList _ (kn_node BK) Try.underlying26 rfl (by kernel_rfl) ?_)
      | (refine wpList_store_row rfl 26 _ _ rfl w.heap.size _ rfl rfl 26 _ BR6.h (by kernel_rfl) (by rfl) (by kernel_rfl) ?_))
    refine bodyPost_ret (v := .tuple #[.agg (nodeA q y.2.2.2.1), .bool bit]) (FoP.results_cell_tmp rfl _ _ w.heap.size 26 (nodeA q y.2.2.2.1) (0, 0) _ (.bool bit) rfl rfl (FoP.Blk.row BR6 _).h Try.underlying26 rfl (by kernel_rfl)) rfl ⟨q, y.2.2.2.1, bit, rfl, hN, ⟨m, a, c, _, _, ca, cc, ta, tc, H7⟩, F6, hAt⟩
  · have hne : ((i : Int) == -1) = false := by first | (simp; done) | (simp; omega)
    have hbx : Below w3.heap.size w3 (w3.alloc (.cells (chA C[i]) 97)) := by (repeat (first | exact Below.refl _ _ | assumption | refine below_alloc2 ?_ (by first | exact Nat.le_refl _ | omega) _ | refine Below.drew ?_ | refine below_drewN ?_ _ | refine below_push2 ?_ ‹_› (by first | exact Nat.le_refl _ | omega) | refine Below.setCell ?_ (by first | (simp; done) | (simp; omega) | omega) _))
    have BX := Blk.new w3 (chA C[i]) 97
    have H4 := H3.under hbx
    have BR4 := BR3.below hbx
    have hb4 := below_push2 hbb hbx (Nat.le_refl _)
    go_upto_region 4 with (refine wpList_store_row rfl 97 _ _ rfl _ _ rfl rfl 97 _ (Blk.new w3 _ _).h (by kernel_rfl) (by rfl) (by kernel_rfl) ?_; rw [World.setRow_alloc_new])
    obtain ⟨X, hX⟩ : ∃ x, x = w3.heap.size := ⟨_, rfl⟩
    rw [← hX] at BX ⊢
    replace hX := Lib.hid hX
    generalize w3.alloc (.cells (chA C[i]) 97) = w4 at hbx BX H4 BR4 hb4 ⊢
    have hx4 : w4.cell? ⟨X, 4, none⟩ = some (.bool C[i].2.empty) := BX.at 4 rfl
    cases hem : C[i].2.empty
    · rw [hem] at hx4
      have hAt : AtIs C l cell C[i].2.node true := .inl ⟨i, hi, he, hla, by rw [hem]; rfl, fun _ => rfl⟩
      replace hem := Lib.hid hem
      have hok := H4.node _ (List.getElem_mem hi)
      go_wp2_with (refine wpList_load_mid rfl 26 _ rfl X 6 rfl (nodeA C[i].1 C[i].2.node).toList _ (ch_node BX) Try.underlying26 rfl (by kernel_rfl) ?_)
      refine (nclone_any _ C[i].1 C[i].2.node w4 hok.node hok.small.1 hok.small.2.1 hok.small.2.2).mono ?_
      rintro r w5 ⟨⟨q, rfl, hn⟩, hb5⟩
      have BR5 := BR4.below hb5
      have hbf := below_setRow (below_push2 hb4 hb5 (Nat.le_refl _)) (Nat.le_refl _) (nodeA q C[i].2.node)
      have hz4 := hb4.size
      have hbl := BR4.lt
      have F7 := Fr.row (S := [w.heap.size]) (w := w5) w.heap.size (nodeA q C[i].2.node) (by simp)
      have hN := node_more ((node_more hn (S' := [w.heap.size]) (fun b hb => .inl (by simp at hb ⊢; omega))).keep F7.keeps) (S' := []) (by simp)
      go_wp2_with (refine wpList_store_row rfl 26 _ _ rfl w.heap.size _ rfl rfl 26 _ BR5.h (by kernel_rfl) (by rfl) (by kernel_rfl) ?_)
      exact bodyPost_ret (v := .tuple #[.agg (nodeA q C[i].2.node), .bool true]) (FoP.results_cell_tmp rfl _ _ w.heap.size 26 (nodeA q C[i].2.node) (0, 0) _ (.bool true) rfl rfl (FoP.Blk.row BR5 _).h Try.underlying26 rfl (by kernel_rfl)) rfl ⟨q, C[i].2.node, true, rfl, hN, ⟨m, a, c, _, _, ca, cc, ta, tc, H.under hbf⟩, Fr.of_below hbf, hAt⟩
    · rw [hem] at hx4
      have hAt : AtIs C l cell n00 false := .inl ⟨i, hi, he, hla, by rw [hem]; rfl, fun h => by cases h⟩
      replace hem := Lib.hid hem
      go_wp2_with (refine wpList_store_row rfl 26 _ _ rfl w.heap.size _ rfl rfl 26 _ BR4.h (by kernel_rfl) (by rfl) (by kernel_rfl) ?_)
      have hbf := below_setRow hb4 (Nat.le_refl _) nd0
      exact bodyPost_ret (v := .tuple #[.agg nd0, .bool false]) (FoP.results_cell_tmp rfl _ _ w.heap.size 26 nd0 (0, 0) _ (.bool false) rfl rfl (FoP.Blk.row BR4 _).h Try.underlying26 rfl (by kernel_rfl)) rfl ⟨q00, n00, false, rfl, n00_ok _ _, ⟨m, a, c, _, _, ca, cc, ta, tc, H.under hbf⟩, Fr.of_below hbf, hAt⟩
end Go.Proofs.Ytbemgfpnoeogdaa.EdP
