/-
  carry: the example of chapter 35 is true.
-/
import Derived.Test.YtpmlbdnhgeeaoaaCarryS
import Derived.Test.YtpmlbdnhgeeaoaaChooseP
import Derived.Deep.WholeRow
namespace Go.Proofs.Ytpmlbdnhgeeaoaa.MemP
open Go.RowKit RefP CellP
set_option linter.unusedVariables false
set_option linter.unusedSimpArgs false
theorem exShut : (shutI 3 0 0 == 18446744073709551615) = false := by decide +kernel
theorem exHaz : decide (hazI 4 1 0 0 < 0) = false := by decide +kernel
theorem exDone : decide (atI 4 1 3 0 < 0) = false := by decide +kernel
set_option maxHeartbeats 1600000 in
theorem cnew_short {o oc g gb gr : Nat} {L : List (Int × Int)} {bs rs : List (List Value)} (w : World) (h : MemAt w o oc g gb gr 4 1 L bs rs) :
    Calls Try.prog 77 #[.pointer (some ⟨o, 0, none⟩), .int .i64 0, .agg #[.int .i64 3, .int .i64 0, .int .u64 0], .int .u64 1] w (CNew w (some ⟨o, 0, none⟩) 0 3 0 0 1 4) := by
  have hb2 : Below w.heap.size w ((w.alloc (.cells #[.int .i64 3, .int .i64 0, .int .u64 0] 138)).alloc (.cells (carT o 0 0 false) 152)) := by (repeat (first | exact Below.refl _ _ | assumption | refine below_alloc2 ?_ (by first | exact Nat.le_refl _ | omega) _ | refine Below.drew ?_ | refine below_drewN ?_ _ | refine below_push2 ?_ ‹_› (by first | exact Nat.le_refl _ | omega) | refine Below.setCell ?_ (by first | (simp; done) | (simp; omega) | omega) _))
  have BG := (Blk.new w #[.int .i64 3, .int .i64 0, .int .u64 0] 138).alloc (.cells (carT o 0 0 false) 152)
  have BT : Blk ((w.alloc (.cells #[.int .i64 3, .int .i64 0, .int .u64 0] 138)).alloc (.cells (carT o 0 0 false) 152)) (w.heap.size + 1) (carT o 0 0 false) 152 := by
    have := Blk.new (w.alloc (.cells #[.int .i64 3, .int .i64 0, .int .u64 0] 138)) (carT o 0 0 false) 152
    simpa using this
  have h2 := h.below hb2
  have q1 := exShut
  have q2 := exHaz
  have q3 := exDone
  generalize hS : shutI 3 0 0 = sv at q1
  go_enter Try.func77, Try.ntmps77
  go_wp2_with fail
  refine (shut_any 3 0 0 _ (by omega) (by omega) (by omega) (by omega) (by omega) (by omega)).mono ?_
  rw [hS]
  rintro e w1 ⟨rfl, hb1⟩
  have hB1 := below_push2 hb2 hb1 (Nat.le_refl _)
  replace BG := BG.below hb1
  replace BT := BT.below hb1
  replace h2 := h2.below hb1
  have g0 : w1.cell? ⟨w.heap.size, 0, none⟩ = some (.int .i64 3) := BG.at 0 rfl
  clear hb2 hb1 hS
  go_wp2_with fail
  refine (haz_any 0 0 _ h2).mono ?_
  rintro e w2 ⟨rfl, hb2⟩
  have hB2 := below_push2 hB1 hb2 (Nat.le_refl _)
  replace BG := BG.below hb2
  replace BT := BT.below hb2
  replace h2 := h2.below hb2
  clear g0 hb2 hB1
  have g1 : w2.cell? ⟨w.heap.size, 1, none⟩ = some (.int .i64 0) := BG.at 1 rfl
  go_wp2_with fail
  refine (done_any 0 _ h2 (by omega) (by omega)).mono ?_
  rintro e w3 ⟨rfl, hb3⟩
  have hB3 := below_push2 hB2 hb3 (Nat.le_refl _)
  replace BG := BG.below hb3
  replace BT := BT.below hb3
  clear g1 hb3 hB2
  have g0 : w3.cell? ⟨w.heap.size, 0, none⟩ = some (.int .i64 3) := BG.at 0 rfl
  have f6 := BT.free 6
  have c6 : w3.cell? ⟨w.heap.size + 1, 6, none⟩ = some (.int .i64 0) := BT.at 6 rfl
  go_wp2_with fail
  go_ret
  exact ⟨rfl, by simpa [carA] using BT.set 6 (.int .i64 4), hB3.setCell (by simp) _⟩
abbrev caL0 : List (Int × Int) := storeL (freshL 4 1 0) (gateI 4 1) (shutI 3 0 0)
abbrev caL1 : List (Int × Int) := casL caL0 (atI 4 1 3 0) 0 1
abbrev caL2 : List (Int × Int) := casL caL1 (gateI 4 1) 1 0
theorem ca1 : loadW caL0 (atI 4 1 3 0) = 0 := by decide +kernel
theorem ca2 : loadV caL0 (atI 4 1 3 0) = 0 := by decide +kernel
theorem ca3 : loadV caL0 (gateI 4 1) = 1 := by decide +kernel
theorem ca4 : casB caL0 (atI 4 1 3 0) 0 = true := by decide +kernel
theorem ca5 : casB caL1 (gateI 4 1) 1 = true := by decide +kernel
theorem ca6 : loadW caL2 (atI 4 1 3 0) = 1 := by decide +kernel
theorem ca7 : loadW caL2 (gateI 4 1) = 0 := by decide +kernel
theorem shut_rng : 0 ≤ shutI 3 0 0 ∧ shutI 3 0 0 ≤ 18446744073709551615 := by decide +kernel
/-- in a round -/
structure CaR (w0 : World) (base o oc g gb gr : Nat) (L : List (Int × Int)) (bs rs : List (List Value)) (t : Nat) (at_ : Int) (en : Bool) (wr : World) : Prop where
  b : Below w0.heap.size w0 wr
  m : MemB wr base o oc g gb gr 4 1 L bs rs
  c : Blk wr t (carT o at_ 0 en) 152
  ge : base ≤ t
  hs : base ≤ wr.heap.size
  h0 : w0.heap.size ≤ base
  lo : w0.heap.size ≤ o ∧ w0.heap.size ≤ oc ∧ w0.heap.size ≤ g ∧ w0.heap.size ≤ gb ∧ w0.heap.size ≤ gr
theorem CaR.under {w0 : World} {base o oc g gb gr : Nat} {L : List (Int × Int)} {bs rs : List (List Value)} {t : Nat} {at_ : Int} {en : Bool} {wr wx : World} (h : CaR w0 base o oc g gb gr L bs rs t at_ en wr) (hb : Below wr.heap.size wr wx) : CaR w0 base o oc g gb gr L bs rs t at_ en wx :=
  ⟨below_push2 h.b hb (Nat.le_refl _), h.m.under hb, h.c.below hb, h.ge, Nat.le_trans h.hs hb.size, h.h0, h.lo⟩
theorem CaR.told {w0 : World} {base o oc g gb gr : Nat} {L : List (Int × Int)} {bs rs : List (List Value)} {t : Nat} {at_ at' : Int} {en en' : Bool} {wr wx : World} (h : CaR w0 base o oc g gb gr L bs rs t at_ en wr) (hC : Blk wx t (carT o at' 0 en') 152) (hF : Fr [t] wr wx) : CaR w0 base o oc g gb gr L bs rs t at' en' wx := by
  have hl := h.m.lo
  have hg := h.ge
  have hh := h.h0
  exact ⟨hF.below h.b (Nat.le_refl _) (by simp; omega), ⟨h.m.m.off hF (by simp; omega), hl⟩, hC, hg, Nat.le_trans h.hs hF.size, hh, h.lo⟩
theorem CaR.did {w0 : World} {base o oc g gb gr : Nat} {L L' : List (Int × Int)} {bs bs' rs : List (List Value)} {t : Nat} {at_ : Int} {en : Bool} {wr wx : World} (h : CaR w0 base o oc g gb gr L bs rs t at_ en wr) (hM : MemAt wx o oc g gb gr 4 1 L' bs' rs) (hF : Fr [g, gb] wr wx) : CaR w0 base o oc g gb gr L' bs' rs t at_ en wx := by
  have hl := h.m.lo
  have hg := h.ge
  have hh := h.lo
  exact ⟨hF.below h.b (Nat.le_refl _) (by simp; omega), ⟨hM, hl⟩, hF.blk h.c (by simp; omega), hg, Nat.le_trans h.hs hF.size, h.h0, h.lo⟩
def CaSt (k : Nat) (n at_ : Int) (en : Bool) (L : List (Int × Int)) : Prop :=
  (k = 0 ∧ n = 0 ∧ at_ = 4 ∧ en = false ∧ L = caL0) ∨ (k = 1 ∧ n = 1 ∧ at_ = 5 ∧ en = false ∧ L = caL0) ∨ (k = 2 ∧ n = 2 ∧ at_ = 6 ∧ en = false ∧ L = caL0) ∨ (k = 3 ∧ n = 3 ∧ at_ = 7 ∧ en = false ∧ L = caL1) ∨ (4 ≤ k ∧ n = 4 ∧ at_ = 8 ∧ en = true ∧ L = caL2)
set_option maxRecDepth 100000 in
set_option maxHeartbeats 6400000 in
theorem carLives_any (w : World) : Calls Try.prog 76 #[] w fun e w' => e = .returned (.bool true) ∧ Below w.heap.size w w' := by
  have hsr := shut_rng
  go_enter Try.func76, Try.ntmps76
  go_wp2_with fail
  refine (mnew_yes 4 1 0 _ (by omega) (by omega) (by omega) (by omega) (by omega) (by omega)).mono ?_
  rintro e w1 ⟨o, oc, g, gb, gr, rfl, hM, hB, ho, hoc, hg, hgb, hgr⟩
  generalize ((List.replicate 4 zb).set 0 eb) = bs0 at hM
  generalize (List.replicate 1 zo) = rs at hM
  have hgl := hM.cells.rows.lt
  have hgbl := hM.blocks.lt
  have hb1 : Below w1.heap.size w1 ((w1.alloc (.cells #[.int .i64 3, .int .i64 0, .int .u64 0] 138)).drew) := ((Below.refl _ w1).alloc (Nat.le_refl _) _).drew
  have BG := (Blk.new w1 #[.int .i64 3, .int .i64 0, .int .u64 0] 138).drew
  replace hM := hM.below hb1
  replace hB := below_push2 hB hb1 (Nat.le_refl _)
  clear hb1
  have g0 := BG.at 0 rfl
  have g1 := BG.at 1 rfl
  have g2 := BG.at 2 rfl
  go_upto_region 3 with (fail)
  go_cut [] (fun wx => ∃ bs, MemAt wx o oc g gb gr 4 1 caL0 bs rs ∧ Below w.heap.size w wx ∧ Blk wx w1.heap.size #[.int .i64 3, .int .i64 0, .int .u64 0] 138)
  case first =>
    go_region_with (first
      | (go_at_call 28; refine (gate_any _ hM).mono ?_; rintro e wx ⟨rfl, hbx⟩; replace hM := hM.below hbx; replace BG := BG.below hbx; replace hB := below_push2 hB hbx (Nat.le_refl _); have g0 := BG.at 0 rfl; have g1 := BG.at 1 rfl; have g2 := BG.at 2 rfl; clear hbx)
      | (go_at_call 87; refine (shut_any 3 0 0 _ (by omega) (by omega) (by omega) (by omega) (by omega) (by omega)).mono ?_; rintro e wx ⟨rfl, hbx⟩; replace hM := hM.below hbx; replace BG := BG.below hbx; replace hB := below_push2 hB hbx (Nat.le_refl _); have g0 := BG.at 0 rfl; have g1 := BG.at 1 rfl; have g2 := BG.at 2 rfl; clear hbx)
      | (go_at_call 22; refine (do_store (gateI 4 1) 0 (shutI 3 0 0) _ _ _ _ _ _ _ _ _ _ _ _ _ _ _ _ _ _ _ _ _ _ _ hM hsr.1 hsr.2).mono ?_; rintro e wy ⟨rfl, hM5, hF5⟩))
    all_goals
      go_wp2_with fail
      go_meet
      exact ⟨_, hM5, hF5.below hB (Nat.le_refl _) (by simp; omega), hF5.blk BG (by simp; omega)⟩
  case rest =>
    obtain ⟨bs, hM5, hB5, BG5⟩ := hcut
    have g0 := BG5.at 0 rfl
    have g1 := BG5.at 1 rfl
    have g2 := BG5.at 2 rfl
    clear hB BG hM
    go_wp2_with fail
    refine (cnew_short _ hM5).mono ?_
    rintro e w6 ⟨rfl, hC, hb6⟩
    have R0 : CaR w wc.heap.size o oc g gb gr caL0 bs rs (wc.heap.size + 1) 4 false w6 :=
      ⟨below_push2 hB5 hb6 (Nat.le_refl _), ⟨hM5.below hb6, ⟨hM5.head.lt, hM5.cells.head.lt, hM5.cells.rows.lt, hM5.blocks.lt, hM5.records.lt⟩⟩, hC, by omega, hb6.size, hB5.size, ⟨ho, hoc, hg, hgb, hgr⟩⟩
    generalize wc.heap.size + 1 = t at R0 ⊢
    generalize wc.heap.size = base at R0
    clear hM5 hB5 BG5 hC hb6 g0 g1 g2 hgl hgbl
    go_wp2_with fail
    go_loopw [4, 25] (fun u4 i wr => ∃ k : Nat, ∃ n at_ en L bs, k ≤ 9 ∧ i = .int .i64 k ∧ u4 = .int .i64 n ∧ CaSt k n at_ en L ∧ CaR w base o oc g gb gr L bs rs t at_ en wr) (fun _ i _ => 9 - (intOf i).toNat)
    case atStart => exact ⟨0, 0, 4, false, caL0, bs, Nat.zero_le _, rfl, rfl, .inl ⟨rfl, rfl, rfl, rfl, rfl⟩, R0⟩
    case round =>
      clear R0
      obtain ⟨k, n, at_, en, L, bs, hk, rfl, rfl, hst, R⟩ := hrel
      by_cases hlt : k < 9
      · rcases hst with ⟨rfl, rfl, rfl, rfl, rfl⟩ | ⟨rfl, rfl, rfl, rfl, rfl⟩ | ⟨rfl, rfl, rfl, rfl, rfl⟩ | ⟨rfl, rfl, rfl, rfl, rfl⟩ | ⟨hk4, rfl, rfl, rfl, rfl⟩
        · go_wp2_with fail
          refine (cNext_4 t _ R.m.m _ _ R.c).mono ?_
          rintro e w2 ⟨rfl, hb2⟩
          have R3 := (R.under hb2).under ((Below.refl _ w2).alloc (Nat.le_refl _) (.cells (accY 1 (atI 4 1 3 0) 0 0) 39))
          have BA := Blk.new w2 (accY 1 (atI 4 1 3 0) 0 0) 39
          generalize hW : w2.alloc (.cells (accY 1 (atI 4 1 3 0) 0 0) 39) = w3 at R3 BA
          replace hW := Lib.hid hW
          clear R hb2
          go_wp2_with (first
            | (refine wpList_store_row rfl 39 _ _ rfl _ _ rfl rfl 39 _ (Blk.new w2 _ _).h (by kernel_rfl) (by rfl) (by kernel_rfl) ?_; rw [World.setRow_alloc_new, hW.out])
            | (refine wpList_load_row rfl 39 _ rfl w2.heap.size rfl 39 _ (0, 0) _ BA.h Try.underlying39 rfl (by kernel_rfl) ?_))
          refine (do_load (atI 4 1 3 0) 0 0 _ _ _ _ _ _ _ _ _ _ _ _ _ _ _ _ _ _ _ _ _ _ _ R3.m.m).mono ?_
          rw [ca1, ca2]
          rintro e w4 ⟨rfl, hb4⟩
          have R4 := R3.under hb4
          clear R3 BA hb4 hW
          go_wp2_with fail
          refine (cTell_4 t _ R4.m.m _ _ _ _ R4.c).mono ?_
          rintro e w5 ⟨rfl, hC5, hF5⟩
          have R5 := R4.told hC5 hF5
          clear R4 hC5 hF5
          go_wp2_with fail
          go_roundw
          case rel => exact ⟨1, _, _, _, _, _, by omega, by go_num, rfl, .inr (.inl ⟨rfl, rfl, rfl, rfl, rfl⟩), R5⟩
          case measure => simp [intOf]
        · go_wp2_with fail
          refine (cNext_5 t _ R.m.m _ _ R.c).mono ?_
          rintro e w2 ⟨rfl, hb2⟩
          have R3 := (R.under hb2).under ((Below.refl _ w2).alloc (Nat.le_refl _) (.cells (accY 1 (gateI 4 1) 0 0) 39))
          have BA := Blk.new w2 (accY 1 (gateI 4 1) 0 0) 39
          generalize hW : w2.alloc (.cells (accY 1 (gateI 4 1) 0 0) 39) = w3 at R3 BA
          replace hW := Lib.hid hW
          clear R hb2
          go_wp2_with (first
            | (refine wpList_store_row rfl 39 _ _ rfl _ _ rfl rfl 39 _ (Blk.new w2 _ _).h (by kernel_rfl) (by rfl) (by kernel_rfl) ?_; rw [World.setRow_alloc_new, hW.out])
            | (refine wpList_load_row rfl 39 _ rfl w2.heap.size rfl 39 _ (0, 0) _ BA.h Try.underlying39 rfl (by kernel_rfl) ?_))
          refine (do_load (gateI 4 1) 0 0 _ _ _ _ _ _ _ _ _ _ _ _ _ _ _ _ _ _ _ _ _ _ _ R3.m.m).mono ?_
          rw [ca3]
          rintro e w4 ⟨rfl, hb4⟩
          have R4 := R3.under hb4
          clear R3 BA hb4 hW
          go_wp2_with fail
          refine (cTell_5 t _ R4.m.m _ _ _ _ R4.c).mono ?_
          rintro e w5 ⟨rfl, hC5, hF5⟩
          have R5 := R4.told hC5 hF5
          clear R4 hC5 hF5
          go_wp2_with fail
          go_roundw
          case rel => exact ⟨2, _, _, _, _, _, by omega, by go_num, rfl, .inr (.inr (.inl ⟨rfl, rfl, rfl, rfl, rfl⟩)), R5⟩
          case measure => simp [intOf]
        · go_wp2_with fail
          refine (cNext_6 t _ R.m.m _ _ R.c).mono ?_
          rintro e w2 ⟨rfl, hb2⟩
          have R3 := (R.under hb2).under ((Below.refl _ w2).alloc (Nat.le_refl _) (.cells (accY 3 (atI 4 1 3 0) 0 1) 39))
          have BA := Blk.new w2 (accY 3 (atI 4 1 3 0) 0 1) 39
          generalize hW : w2.alloc (.cells (accY 3 (atI 4 1 3 0) 0 1) 39) = w3 at R3 BA
          replace hW := Lib.hid hW
          clear R hb2
          go_wp2_with (first
            | (refine wpList_store_row rfl 39 _ _ rfl _ _ rfl rfl 39 _ (Blk.new w2 _ _).h (by kernel_rfl) (by rfl) (by kernel_rfl) ?_; rw [World.setRow_alloc_new, hW.out])
            | (refine wpList_load_row rfl 39 _ rfl w2.heap.size rfl 39 _ (0, 0) _ BA.h Try.underlying39 rfl (by kernel_rfl) ?_))
          refine (do_cas (atI 4 1 3 0) 0 1 _ _ _ _ _ _ _ _ _ _ _ _ _ _ _ _ _ _ _ _ _ _ _ R3.m.m (by omega) (by omega) (by omega) (by omega)).mono ?_
          rw [ca4]
          rintro e w4 ⟨rfl, hM4, hF4⟩
          have R4 := R3.did hM4 hF4
          clear R3 BA hM4 hF4 hW
          go_wp2_with fail
          refine (cTell_6 t _ R4.m.m _ _ _ _ _ R4.c).mono ?_
          rintro e w5 ⟨rfl, hC5, hF5⟩
          have R5 := R4.told hC5 hF5
          clear R4 hC5 hF5
          go_wp2_with fail
          go_roundw
          case rel => exact ⟨3, _, _, _, _, _, by omega, by go_num, rfl, .inr (.inr (.inr (.inl ⟨rfl, rfl, rfl, rfl, rfl⟩))), R5⟩
          case measure => simp [intOf]
        · go_wp2_with fail
          refine (cNext_7 t _ R.m.m _ _ R.c).mono ?_
          rintro e w2 ⟨rfl, hb2⟩
          have R3 := (R.under hb2).under ((Below.refl _ w2).alloc (Nat.le_refl _) (.cells (accY 3 (gateI 4 1) 1 0) 39))
          have BA := Blk.new w2 (accY 3 (gateI 4 1) 1 0) 39
          generalize hW : w2.alloc (.cells (accY 3 (gateI 4 1) 1 0) 39) = w3 at R3 BA
          replace hW := Lib.hid hW
          clear R hb2
          go_wp2_with (first
            | (refine wpList_store_row rfl 39 _ _ rfl _ _ rfl rfl 39 _ (Blk.new w2 _ _).h (by kernel_rfl) (by rfl) (by kernel_rfl) ?_; rw [World.setRow_alloc_new, hW.out])
            | (refine wpList_load_row rfl 39 _ rfl w2.heap.size rfl 39 _ (0, 0) _ BA.h Try.underlying39 rfl (by kernel_rfl) ?_))
          refine (do_cas (gateI 4 1) 1 0 _ _ _ _ _ _ _ _ _ _ _ _ _ _ _ _ _ _ _ _ _ _ _ R3.m.m (by omega) (by omega) (by omega) (by omega)).mono ?_
          rw [ca5]
          rintro e w4 ⟨rfl, hM4, hF4⟩
          have R4 := R3.did hM4 hF4
          clear R3 BA hM4 hF4 hW
          go_wp2_with fail
          refine (cTell_7 t _ R4.m.m _ _ _ _ _ R4.c).mono ?_
          rintro e w5 ⟨rfl, hC5, hF5⟩
          have R5 := R4.told hC5 hF5
          clear R4 hC5 hF5
          go_wp2_with fail
          go_roundw
          case rel => exact ⟨4, _, _, _, _, _, by omega, by go_num, rfl, .inr (.inr (.inr (.inr ⟨by omega, rfl, rfl, rfl, rfl⟩))), R5⟩
          case measure => simp [intOf]
        · have hN : NoCar _ t true := ⟨_, _, _, _, _, _, _, _, _, R.c, .inr ⟨rfl, _, _, _, _, _, _, _, _, _, _, rfl, R.m.m⟩⟩
          go_wp2_with fail
          refine (cNext_no t true _ hN).mono ?_
          rintro e w2 ⟨rfl, hb2⟩
          have R3 := (R.under hb2).under ((Below.refl _ w2).alloc (Nat.le_refl _) (.cells (accY 0 0 0 0) 39))
          generalize hW : w2.alloc (.cells (accY 0 0 0 0) 39) = w3 at R3
          replace hW := Lib.hid hW
          clear R hb2 hN
          go_wp2_with (refine wpList_store_row rfl 39 _ _ rfl _ _ rfl rfl 39 _ (Blk.new w2 _ _).h (by kernel_rfl) (by rfl) (by kernel_rfl) ?_; rw [World.setRow_alloc_new, hW.out])
          go_roundw
          case rel => exact ⟨k + 1, _, _, _, _, _, by omega, by go_num, rfl, .inr (.inr (.inr (.inr ⟨by omega, rfl, rfl, rfl, rfl⟩))), R3⟩
          case measure => simp [intOf]; omega
      · obtain rfl : k = 9 := by omega
        rcases hst with ⟨h, _⟩ | ⟨h, _⟩ | ⟨h, _⟩ | ⟨h, _⟩ | ⟨hk4, rfl, rfl, rfl, rfl⟩
        · omega
        · omega
        · omega
        · omega
        have hB := R.b
        have hM := R.m.m
        have hC := R.c
        clear R
        go_wp2_with fail
        refine (done_any 0 _ hM (by omega) (by omega)).mono ?_
        try rw [ca6]
        rintro e wx ⟨rfl, hbx⟩
        replace hM := hM.below hbx
        replace hC := hC.below hbx
        replace hB := below_push2 hB hbx (Nat.le_refl _)
        clear hbx
        go_wp2_with fail
        refine (mload_any _ _ hM).mono ?_
        try rw [ca6]
        rintro e wx ⟨rfl, hbx⟩
        replace hM := hM.below hbx
        replace hC := hC.below hbx
        replace hB := below_push2 hB hbx (Nat.le_refl _)
        clear hbx
        go_wp2_with fail
        refine (gate_any _ hM).mono ?_
        try rw [ca6]
        rintro e wx ⟨rfl, hbx⟩
        replace hM := hM.below hbx
        replace hC := hC.below hbx
        replace hB := below_push2 hB hbx (Nat.le_refl _)
        clear hbx
        go_wp2_with fail
        refine (mload_any _ _ hM).mono ?_
        try rw [ca7]
        rintro e wx ⟨rfl, hbx⟩
        replace hM := hM.below hbx
        replace hC := hC.below hbx
        replace hB := below_push2 hB hbx (Nat.le_refl _)
        clear hbx
        go_wp2_with fail
        refine (cEnded_any t _ _ _ _ _ _ _ _ _ _ _ _ hC).mono ?_
        rintro e wx ⟨rfl, rfl⟩
        go_wp2_with fail
        go_ret
        exact ⟨rfl, hB⟩
end Go.Proofs.Ytpmlbdnhgeeaoaa.MemP
