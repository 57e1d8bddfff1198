/-
  edit: begin: the contract.
-/
import Derived.Test.YtbemgfpnoeogdaaEdB
namespace Go.Proofs.Ytbemgfpnoeogdaa.EdP
open Go.RowKit RefP FoP Dp
set_option linter.unusedVariables false
set_option linter.unusedSimpArgs false
/-- a change that is begun -/
def cBeg (cell from_ word ver : Int) : ChangeV := ⟨cell, from_, word, ver, false, false, n00⟩
def BgIs (C : List Ch) (l : List KnV) (T : List Sp) (cell : Int) (cv : ChangeV) : Prop :=
  C.length < 46 ∧
  ((∃ i, ∃ hi : i < C.length, C[i].2.cell = cell ∧ (∀ j (hj : j < C.length), i < j → C[j].2.cell ≠ cell) ∧ C[i].2.empty = false ∧ cv = cBeg cell i 0 (IntKind.u64.wrap (C[i].2.ver + 1))) ∨
   ((∀ j (hj : j < C.length), C[j].2.cell ≠ cell) ∧ ((∃ s, spFind T cell = some s ∧ cv = cBeg cell (-1) 0 s.2) ∨ (spFind T cell = none ∧ ∃ y, knFind l cell = some y ∧ cv = cBeg cell (-1) y.2.1 y.2.2.1))))
/-- what begin answers -/
def BegAt (w0 : World) (e o m : Nat) (L : List Kn) (a : Option Addr) (c : Nat) (S : List Sp) (C : List Ch) (ca : Option Addr) (cc : Nat) (ta : Option Addr) (tc t : Nat) (l : List KnV) (cell : Int) (w : World) (r : Ending) (w' : World) : Prop :=
  ∃ cv bit k n, r = .returned (.tuple #[.agg (changeA q00 cv), .bool bit]) ∧ Fr [o] w w' ∧ EdAt w0 w' e o m L a c S k n C ca cc ta tc t ∧ cv.node = n00 ∧ (bit = true → BgIs C l (S.take t) cell cv) ∧ (bit = false → ∀ cv, ¬ BgIs C l (S.take t) cell cv)
set_option maxRecDepth 100000 in
set_option maxHeartbeats 3200000 in
theorem begin_any {w0 w : World} {e o m : Nat} {L : List Kn} {a : Option Addr} {c : Nat} {S : List Sp} {k0 n0 : Int} {C : List Ch} {ca : Option Addr} {cc : Nat} {ta : Option Addr} {tc t : Nat} {l : List KnV} (H : EdAt w0 w e o m L a c S k0 n0 C ca cc ta tc t) (K : KnIs w0 L l) (cell : Int) (hc : I64 cell) :
    Calls Try.prog 46 #[.pointer (some ⟨e, 0, none⟩), .int .i64 cell] w (BegAt w0 e o m L a c S C ca cc ta tc t l cell w) := by
  have hb : Below w.heap.size w (w.alloc (.cells chz 97)) := by (repeat (first | exact Below.refl _ _ | assumption | refine below_alloc2 ?_ (by first | exact Nat.le_refl _ | omega) _ | refine Below.drew ?_ | refine below_drewN ?_ _ | refine below_push2 ?_ ‹_› (by first | exact Nat.le_refl _ | omega) | refine Below.setCell ?_ (by first | (simp; done) | (simp; omega) | omega) _))
  have BR := Blk.new w chz 97
  have H1 := H.under hb
  have hz := BR.lt
  go_enter Try.func46, Try.ntmps46
  go_upto_region 1 with (fail)
  generalize w.alloc (.cells chz 97) = w1 at hb BR H1 hz ⊢
  go_wp2_with fail
  refine (nobody_some H1.blk).mono ?_
  rintro r w2 ⟨rfl, rfl⟩
  go_wp2_with fail
  refine (last_any e C cell w2 H1.chrow (by have := H1.cl; omega)).mono ?_
  rintro r w3 ⟨hlast, hb3⟩
  have H3 := H1.under hb3
  have BR3 := BR.below hb3
  have hbb := below_push2 hb hb3 (Nat.le_refl _)
  have hz3 := hb3.size
  have hcl := H.cl
  have hol := H.V.lts.1
  clear BR H1
  rcases hlast with ⟨rfl, hno⟩ | ⟨i, hi, rfl, he, hla⟩
  · have hbx : Below w3.heap.size w3 (w3.alloc (.cells chz 97)) := by (repeat (first | exact Below.refl _ _ | assumption | refine below_alloc2 ?_ (by first | exact Nat.le_refl _ | omega) _ | refine Below.drew ?_ | refine below_drewN ?_ _ | refine below_push2 ?_ ‹_› (by first | exact Nat.le_refl _ | omega) | refine Below.setCell ?_ (by first | (simp; done) | (simp; omega) | omega) _))
    have H4 := H3.under hbx
    have BR4 := BR3.below hbx
    have hb4 := below_push2 hbb hbx (Nat.le_refl _)
    go_upto_region 4 with (refine wpList_store_row rfl 97 _ _ rfl _ _ rfl rfl 97 _ (Blk.new w3 _ _).h (by kernel_rfl) (by rfl) (by kernel_rfl) ?_; rw [World.setRow_alloc_new])
    generalize w3.alloc (.cells chz 97) = w4 at hbx H4 BR4 hb4 ⊢
    have e1 := H4.blk.at 1 rfl
    have e0 := H4.blk.at 0 rfl
    by_cases h46 : C.length < 46
    · have h46' : ¬ (46 ≤ (C.length : Int)) := by omega
      go_wp2_with fail
      have htl : (S.take t).length = t := by rw [List.length_take]; have := H.tl; omega
      have B4' : Blk w4 e #[.pointer (some ⟨o, 0, none⟩), .slice ca C.length cc, .slice ta (S.take t).length tc] 36 := by rw [htl]; exact H4.blk
      refine (esp_any B4' H4.tk (by rw [htl]; have := H.tl; have := H.sl; omega) cell).mono ?_
      rintro r w5 ⟨rfl, hb5⟩
      have H5 := H4.under hb5
      have BR5 := BR4.below hb5
      have hB5 := below_push2 hb4 hb5 (Nat.le_refl _)
      cases hsp : spFind (S.take t) cell with
      | some s =>
        obtain ⟨s0, s1⟩ := s
        have hBg : BgIs C l (S.take t) cell (cBeg cell (-1) 0 s1) := ⟨h46, .inr ⟨hno, .inl ⟨_, hsp, rfl⟩⟩⟩
        simp only [spRet]
        replace hsp := Lib.hid hsp
        have hbs : Below w5.heap.size w5 (w5.alloc (.cells #[.int .i64 s0, .int .u64 s1] 60)) := by (repeat (first | exact Below.refl _ _ | assumption | refine below_alloc2 ?_ (by first | exact Nat.le_refl _ | omega) _ | refine Below.drew ?_ | refine below_drewN ?_ _ | refine below_push2 ?_ ‹_› (by first | exact Nat.le_refl _ | omega) | refine Below.setCell ?_ (by first | (simp; done) | (simp; omega) | omega) _))
        have BS := Blk.new w5 #[.int .i64 s0, .int .u64 s1] 60
        have BR6 := BR5.below hbs
        have hB6 := below_push2 hB5 hbs (Nat.le_refl _)
        go_upto_region 10 with (refine wpList_store_row rfl 60 _ _ rfl _ _ rfl rfl 60 _ (Blk.new w5 _ _).h (by kernel_rfl) (by rfl) (by kernel_rfl) ?_; rw [World.setRow_alloc_new])
        have x1 := BS.at 1 rfl
        have hbf := below_setRow hB6 (Nat.le_refl _) (changeA q00 (cBeg cell (-1) 0 s1))
        go_wp2_with (refine wpList_store_row rfl 97 _ _ rfl w.heap.size _ rfl rfl 97 _ BR6.h (by kernel_rfl) (by rfl) (by kernel_rfl) ?_)
        exact bodyPost_ret (v := .tuple #[.agg (changeA q00 (cBeg cell (-1) 0 s1)), .bool true]) (FoP.results_cell_tmp rfl _ _ w.heap.size 97 (changeA q00 (cBeg cell (-1) 0 s1)) (0, 0) _ (.bool true) rfl rfl (FoP.Blk.row BR6 _).h Try.underlying97 rfl (by kernel_rfl)) rfl ⟨cBeg cell (-1) 0 s1, true, _, _, rfl, Fr.of_below hbf, H.under hbf, rfl, (fun _ => hBg), fun h => by cases h⟩
      | none =>
        simp only [spRet]
        have hbs : Below w5.heap.size w5 (w5.alloc (.cells sz 60)) := by (repeat (first | exact Below.refl _ _ | assumption | refine below_alloc2 ?_ (by first | exact Nat.le_refl _ | omega) _ | refine Below.drew ?_ | refine below_drewN ?_ _ | refine below_push2 ?_ ‹_› (by first | exact Nat.le_refl _ | omega) | refine Below.setCell ?_ (by first | (simp; done) | (simp; omega) | omega) _))
        have BR6 := BR5.below hbs
        have H6 := H5.under hbs
        have hB6 := below_push2 hB5 hbs (Nat.le_refl _)
        go_upto_region 10 with (refine wpList_store_row rfl 60 _ _ rfl _ _ rfl rfl 60 _ (Blk.new w5 _ _).h (by kernel_rfl) (by rfl) (by kernel_rfl) ?_; rw [World.setRow_alloc_new])
        generalize w5.alloc (.cells sz 60) = w6 at hbs BR6 H6 hB6 ⊢
        have e0' := H6.blk.at 0 rfl
        go_wp2_with fail
        refine (at_all H6.V cell ⟨hc.1, hc.2⟩).mono ?_
        rintro r w7 ⟨rfl, V7, F7⟩
        obtain ⟨q, y, hq, hn, hcase⟩ := K.got cell
        rw [hq]
        have hBg : (knAt L cell).isSome = true → BgIs C l (S.take t) cell (cBeg cell (-1) y.2.1 y.2.2.1) := fun h => ⟨h46, .inr ⟨hno, .inr ⟨hsp, y, by
          rcases hcase with ⟨h1, h2⟩ | ⟨h1, h2⟩
          · rw [h2] at h; cases h
          · exact h1, rfl⟩⟩⟩
        have hNo : (knAt L cell).isSome = false → ∀ cv, ¬ BgIs C l (S.take t) cell cv := fun h cv hB => by
          rcases hB.2 with ⟨i, hi, he, _⟩ | ⟨_, ⟨s, hs, _⟩ | ⟨_, y', hy', _⟩⟩
          · exact hno i hi he
          · rw [hsp] at hs; cases hs
          · rcases hcase with ⟨h1, h2⟩ | ⟨h1, h2⟩
            · rw [h1] at hy'; cases hy'
            · rw [h2] at h; cases h
        replace hsp := Lib.hid hsp
        generalize (knAt L cell).isSome = bit at hBg hNo
        have BR7 := F7.blk BR6 (by first | (simp; done) | (simp; omega))
        have hbk : Below w7.heap.size w7 (w7.alloc (.cells (knA q y) 53)) := by (repeat (first | exact Below.refl _ _ | assumption | refine below_alloc2 ?_ (by first | exact Nat.le_refl _ | omega) _ | refine Below.drew ?_ | refine below_drewN ?_ _ | refine below_push2 ?_ ‹_› (by first | exact Nat.le_refl _ | omega) | refine Below.setCell ?_ (by first | (simp; done) | (simp; omega) | omega) _))
        have BK := Blk.new w7 (knA q y) 53
        have BR8 := BR7.below hbk
        have F8 := (((Fr.of_below (S := [o]) hB6).trans F7).trans (Fr.of_below hbk)).rowNew w.heap.size (changeA q00 (cBeg cell (-1) y.2.1 y.2.2.1)) (Nat.le_refl _)
        have H8 := H.view F8 (H.V.row (V7.under hbk) w.heap.size _ (Nat.le_refl _))
        have k1 := BK.at 1 rfl
        have k2 := BK.at 2 rfl
        go_wp2_with (first
          | (refine wpList_store_row rfl 53 _ _ rfl _ _ rfl rfl 53 _ (Blk.new w7 _ _).h (by kernel_rfl) (by rfl) (by kernel_rfl) ?_; rw [World.setRow_alloc_new])
          | (refine wpList_store_row rfl 97 _ _ rfl w.heap.size _ rfl rfl 97 _ BR8.h (by kernel_rfl) (by rfl) (by kernel_rfl) ?_))
        exact bodyPost_ret (v := .tuple #[.agg (changeA q00 (cBeg cell (-1) y.2.1 y.2.2.1)), .bool bit]) (FoP.results_cell_tmp rfl _ _ w.heap.size 97 (changeA q00 (cBeg cell (-1) y.2.1 y.2.2.1)) (0, 0) _ (.bool bit) rfl rfl (FoP.Blk.row BR8 _).h Try.underlying97 rfl (by kernel_rfl)) rfl ⟨cBeg cell (-1) y.2.1 y.2.2.1, bit, _, _, rfl, F8, H8, rfl, hBg, hNo⟩
    · have h46' : 46 ≤ (C.length : Int) := by omega
      go_wp2_with fail
      refine (giveup_any H4.V).mono ?_
      rintro r w5 ⟨rfl, V5, F5⟩
      have F6 := ((Fr.of_below (S := [o]) hb4).trans F5).rowNew w.heap.size chz (Nat.le_refl _)
      have BR5 := F5.blk BR4 (by first | (simp; done) | (simp; omega))
      have H7 := H.view F6 (H.V.row V5 w.heap.size chz (Nat.le_refl _))
      go_wp2_with (refine wpList_store_row rfl 97 _ _ rfl w.heap.size _ rfl rfl 97 _ BR5.h (by kernel_rfl) (by rfl) (by kernel_rfl) ?_)
      exact bodyPost_ret (v := .tuple #[.agg chz, .bool false]) (FoP.results_cell_tmp rfl _ _ w.heap.size 97 chz (0, 0) _ (.bool false) rfl rfl (FoP.Blk.row BR5 _).h Try.underlying97 rfl (by kernel_rfl)) rfl ⟨cBeg 0 0 0 0, false, _, _, rfl, F6, H7, rfl, (fun h => by cases h), fun _ => fun cv hB => h46 hB.1⟩
  · have hne : ((i : Int) == -1) = false := by first | (simp; done) | (simp; omega)
    have hbx : Below w3.heap.size w3 (w3.alloc (.cells (chA C[i]) 97)) := by (repeat (first | exact Below.refl _ _ | assumption | refine below_alloc2 ?_ (by first | exact Nat.le_refl _ | omega) _ | refine Below.drew ?_ | refine below_drewN ?_ _ | refine below_push2 ?_ ‹_› (by first | exact Nat.le_refl _ | omega) | refine Below.setCell ?_ (by first | (simp; done) | (simp; omega) | omega) _))
    have BX := Blk.new w3 (chA C[i]) 97
    have H4 := H3.under hbx
    have BR4 := BR3.below hbx
    have hb4 := below_push2 hbb hbx (Nat.le_refl _)
    go_upto_region 4 with (refine wpList_store_row rfl 97 _ _ rfl _ _ rfl rfl 97 _ (Blk.new w3 _ _).h (by kernel_rfl) (by rfl) (by kernel_rfl) ?_; rw [World.setRow_alloc_new])
    obtain ⟨X, hX⟩ : ∃ x, x = w3.heap.size := ⟨_, rfl⟩
    rw [← hX] at BX ⊢
    replace hX := Lib.hid hX
    generalize w3.alloc (.cells (chA C[i]) 97) = w4 at hbx BX H4 BR4 hb4 ⊢
    have hx4 : w4.cell? ⟨X, 4, none⟩ = some (.bool C[i].2.empty) := BX.at 4 rfl
    have hx3 : w4.cell? ⟨X, 3, none⟩ = some (.int .u64 C[i].2.ver) := BX.at 3 rfl
    have e1 := H4.blk.at 1 rfl
    have e0 := H4.blk.at 0 rfl
    by_cases h46 : C.length < 46
    · have h46' : ¬ (46 ≤ (C.length : Int)) := by omega
      cases hem : C[i].2.empty
      · rw [hem] at hx4
        have hBg : BgIs C l (S.take t) cell (cBeg cell i 0 (IntKind.u64.wrap (C[i].2.ver + 1))) := ⟨h46, .inl ⟨i, hi, he, hla, hem, rfl⟩⟩
        generalize C[i].2.ver = ver at hx3 hBg
        replace hem := Lib.hid hem
        go_wp2_with (refine wpList_store_row rfl 97 _ _ rfl w.heap.size _ rfl rfl 97 _ BR4.h (by kernel_rfl) (by rfl) (by kernel_rfl) ?_)
        have hbf := below_setRow hb4 (Nat.le_refl _) (changeA q00 (cBeg cell i 0 (IntKind.u64.wrap (ver + 1))))
        exact bodyPost_ret (v := .tuple #[.agg (changeA q00 (cBeg cell i 0 (IntKind.u64.wrap (ver + 1)))), .bool true]) (FoP.results_cell_tmp rfl _ _ w.heap.size 97 (changeA q00 (cBeg cell i 0 (IntKind.u64.wrap (ver + 1)))) (0, 0) _ (.bool true) rfl rfl (FoP.Blk.row BR4 _).h Try.underlying97 rfl (by kernel_rfl)) rfl ⟨cBeg cell i 0 (IntKind.u64.wrap (ver + 1)), true, _, _, rfl, Fr.of_below hbf, H.under hbf, rfl, (fun _ => hBg), fun h => by cases h⟩
      · rw [hem] at hx4
        have hNo : ∀ cv, ¬ BgIs C l (S.take t) cell cv := fun cv hB => by
          rcases hB.2 with ⟨i', hi', he', hla', hem', _⟩ | ⟨hno, _⟩
          · have : i' = i := by
              rcases Nat.lt_trichotomy i' i with h | h | h
              · exact absurd he (hla' i hi h)
              · exact h
              · exact absurd he' (hla i' hi' h)
            subst this
            rw [hem] at hem'; cases hem'
          · exact hno i hi he
        replace hem := Lib.hid hem
        go_wp2_with fail
        refine (giveup_any H4.V).mono ?_
        rintro r w5 ⟨rfl, V5, F5⟩
        have F6 := ((Fr.of_below (S := [o]) hb4).trans F5).rowNew w.heap.size chz (Nat.le_refl _)
        have BR5 := F5.blk BR4 (by first | (simp; done) | (simp; omega))
        have H7 := H.view F6 (H.V.row V5 w.heap.size chz (Nat.le_refl _))
        go_wp2_with (refine wpList_store_row rfl 97 _ _ rfl w.heap.size _ rfl rfl 97 _ BR5.h (by kernel_rfl) (by rfl) (by kernel_rfl) ?_)
        exact bodyPost_ret (v := .tuple #[.agg chz, .bool false]) (FoP.results_cell_tmp rfl _ _ w.heap.size 97 chz (0, 0) _ (.bool false) rfl rfl (FoP.Blk.row BR5 _).h Try.underlying97 rfl (by kernel_rfl)) rfl ⟨cBeg 0 0 0 0, false, _, _, rfl, F6, H7, rfl, (fun h => by cases h), fun _ => hNo⟩
    · have h46' : 46 ≤ (C.length : Int) := by omega
      go_wp2_with fail
      refine (giveup_any H4.V).mono ?_
      rintro r w5 ⟨rfl, V5, F5⟩
      have F6 := ((Fr.of_below (S := [o]) hb4).trans F5).rowNew w.heap.size chz (Nat.le_refl _)
      have BR5 := F5.blk BR4 (by first | (simp; done) | (simp; omega))
      have H7 := H.view F6 (H.V.row V5 w.heap.size chz (Nat.le_refl _))
      go_wp2_with (refine wpList_store_row rfl 97 _ _ rfl w.heap.size _ rfl rfl 97 _ BR5.h (by kernel_rfl) (by rfl) (by kernel_rfl) ?_)
      exact bodyPost_ret (v := .tuple #[.agg chz, .bool false]) (FoP.results_cell_tmp rfl _ _ w.heap.size 97 chz (0, 0) _ (.bool false) rfl rfl (FoP.Blk.row BR5 _).h Try.underlying97 rfl (by kernel_rfl)) rfl ⟨cBeg 0 0 0 0, false, _, _, rfl, F6, H7, rfl, (fun h => by cases h), fun _ => fun cv hB => h46 hB.1⟩
end Go.Proofs.Ytbemgfpnoeogdaa.EdP
