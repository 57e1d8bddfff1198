/-
  read: what is known; the example of chapter 30 is true.
-/
import Derived.Test.YtpmlbdnhgeeaoaaReadS
import Derived.Test.YtpmlbdnhgeeaoaaChooseP
import Derived.Deep.WholeRow
namespace Go.Proofs.Ytpmlbdnhgeeaoaa.MemP
open Go.RowKit RefP CellP
set_option linter.unusedVariables false
set_option linter.unusedSimpArgs false
theorem lt11 {j : Nat} (h : j < 11) : j = 0 ∨ j = 1 ∨ j = 2 ∨ j = 3 ∨ j = 4 ∨ j = 5 ∨ j = 6 ∨ j = 7 ∨ j = 8 ∨ j = 9 ∨ j = 10 := by omega
set_option maxRecDepth 100000 in
set_option maxHeartbeats 1600000 in
theorem rdKnown_got {o oc g gb gr A T : Nat} {L : List (Int × Int)} {bs rs : List (List Value)} (t : Nat) (th at_ : Int) (su : Bool) (cell word ver : Int) (b1 b2 b3 : Nat) (w : World) (h : MemAt w o oc g gb gr A T L bs rs) (B : Blk w t (rdA (some ⟨o, 0, none⟩) th at_ 4 su cell word ver (.int .i64 0) (.string ⟨#[]⟩) (.string ⟨#[]⟩) (.bool true) (.int .i64 (-1)) (e0V b1) (e0V b2) (e0V b3)) 95) (t0 : 0 ≤ th) (t1 : th < T) (l0 : 0 ≤ cell) (l1 : cell < A) :
    Calls Try.prog 46 #[.pointer (some ⟨t, 0, none⟩)] w fun e w' => e = .returned (.tuple #[.agg (knA cell word ver (.int .i64 0) (.string ⟨#[]⟩) (.string ⟨#[]⟩) (.bool true) (.int .i64 (-1)) (e0V b1) (e0V b2) (e0V b3)), .bool true]) ∧ Below w.heap.size w w' := by
  have hb0 : Below w.heap.size w (w.alloc (.cells (knA 0 0 0 (.int .i64 0) (.string ⟨#[]⟩) (.string ⟨#[]⟩) (.bool false) (.int .i64 0) (.slice none 0 0) (.slice none 0 0) (.slice none 0 0)) 83)) := by (repeat (first | exact Below.refl _ _ | assumption | refine below_alloc2 ?_ (by first | exact Nat.le_refl _ | omega) _ | refine Below.drew ?_ | refine below_drewN ?_ _ | refine below_push2 ?_ ‹_› (by first | exact Nat.le_refl _ | omega) | refine Below.setCell ?_ (by first | (simp; done) | (simp; omega) | omega) _))
  go_enter Try.func46, Try.ntmps46
  go_wp2_with fail
  refine (rdState_on t th at_ 4 su cell word ver (.int .i64 0) (.string ⟨#[]⟩) (.string ⟨#[]⟩) (.bool true) (.int .i64 (-1)) (e0V b1) (e0V b2) (e0V b3) _ (h.below hb0) (B.below hb0) t0 t1 l0 l1).mono ?_
  rintro e w1 ⟨rfl, hb1⟩
  have BR := (Blk.new w (knA 0 0 0 (.int .i64 0) (.string ⟨#[]⟩) (.string ⟨#[]⟩) (.bool false) (.int .i64 0) (.slice none 0 0) (.slice none 0 0) (.slice none 0 0)) 83).below hb1
  have B1 := (B.below hb0).below hb1
  have hB := below_push2 hb0 hb1 (Nat.le_refl _)
  have hr : w1.rangeAt t 5 (knA cell word ver (.int .i64 0) (.string ⟨#[]⟩) (.string ⟨#[]⟩) (.bool true) (.int .i64 (-1)) (e0V b1) (e0V b2) (e0V b3)).toList := by
    intro j v hj
    have hj11 : j < 11 := by
      by_cases e : j < 11
      · exact e
      · rw [List.getElem?_eq_none (by simp; omega)] at hj; cases hj
    refine B1.at (5 + j) ?_
    rcases lt11 hj11 with e | e | e | e | e | e | e | e | e | e | e <;> subst e <;> simpa [rdA, knA] using hj
  clear hb0 hb1 B1
  go_wp2_with (first
    | (refine wpList_load_mid rfl 83 _ rfl t 5 rfl (knA cell word ver (.int .i64 0) (.string ⟨#[]⟩) (.string ⟨#[]⟩) (.bool true) (.int .i64 (-1)) (e0V b1) (e0V b2) (e0V b3)).toList _ hr Try.underlying83 rfl (by kernel_rfl) ?_)
    | (refine wpList_store_row rfl 83 _ _ rfl w.heap.size _ rfl rfl 83 _ BR.h (by kernel_rfl) (by rfl) (by kernel_rfl) ?_))
  refine bodyPost_ret (v := .tuple #[.agg (knA cell word ver (.int .i64 0) (.string ⟨#[]⟩) (.string ⟨#[]⟩) (.bool true) (.int .i64 (-1)) (e0V b1) (e0V b2) (e0V b3)), .bool true]) (results_cell_tmp rfl _ _ w.heap.size 83 (knA cell word ver (.int .i64 0) (.string ⟨#[]⟩) (.string ⟨#[]⟩) (.bool true) (.int .i64 (-1)) (e0V b1) (e0V b2) (e0V b3)) (0, 0) _ (.bool true) rfl rfl (Blk.row BR (knA cell word ver (.int .i64 0) (.string ⟨#[]⟩) (.string ⟨#[]⟩) (.bool true) (.int .i64 (-1)) (e0V b1) (e0V b2) (e0V b3))).h Try.underlying83 rfl (by kernel_rfl)) rfl ⟨rfl, below_setRow hB (by omega) _⟩
abbrev rdL0 : List (Int × Int) := freshL 4 1 0
abbrev rdL1 : List (Int × Int) := storeL rdL0 (hazI 4 1 0 1) 16385
theorem rd1 : loadW rdL0 (atI 4 1 0 0) = 16385 := by decide +kernel
theorem rd2 : loadV rdL0 (atI 4 1 0 0) = 0 := by decide +kernel
theorem rd3 : opensB 16385 = true := by decide +kernel
theorem rd4 : loadV rdL1 (atI 4 1 0 0) = 0 := by decide +kernel
theorem rd5 : loadW rdL1 (atI 4 1 1 0) = useI 1 1 := by decide +kernel
theorem rd6 (bs : List (List Value)) : storeB rdL0 bs 4 (hazI 4 1 0 1) = bs := by
  unfold storeB clearL
  rw [if_neg (show ¬ (((4 : Nat) : Int) ≤ hazI 4 1 0 1 ∧ hazI 4 1 0 1 < 2 * ((4 : Nat) : Int)) by decide +kernel)]
  split <;> rfl
/-- in a round -/
structure RdC (w0 : World) (base o oc g gb gr : Nat) (L : List (Int × Int)) (bs rs : List (List Value)) (t : Nat) (C : Array Value) (wr : World) : Prop where
  b : Below w0.heap.size w0 wr
  m : MemB wr base o oc g gb gr 4 1 L bs rs
  c : Blk wr t C 95
  ge : base ≤ t
  hs : base ≤ wr.heap.size
  h0 : w0.heap.size ≤ base
  lo : w0.heap.size ≤ o ∧ w0.heap.size ≤ oc ∧ w0.heap.size ≤ g ∧ w0.heap.size ≤ gb ∧ w0.heap.size ≤ gr
theorem RdC.under {w0 : World} {base o oc g gb gr : Nat} {L : List (Int × Int)} {bs rs : List (List Value)} {t : Nat} {C : Array Value} {wr wx : World} (h : RdC w0 base o oc g gb gr L bs rs t C wr) (hb : Below wr.heap.size wr wx) : RdC w0 base o oc g gb gr L bs rs t C wx :=
  ⟨below_push2 h.b hb (Nat.le_refl _), h.m.under hb, h.c.below hb, h.ge, Nat.le_trans h.hs hb.size, h.h0, h.lo⟩
theorem RdC.told {w0 : World} {base o oc g gb gr : Nat} {L : List (Int × Int)} {bs rs : List (List Value)} {t : Nat} {C C' : Array Value} {wr wx : World} (h : RdC w0 base o oc g gb gr L bs rs t C wr) (hC : Blk wx t C' 95) (hF : Fr [t] wr wx) : RdC w0 base o oc g gb gr L bs rs t C' wx := by
  have hl := h.m.lo
  have hg := h.ge
  have hh := h.h0
  exact ⟨hF.below h.b (Nat.le_refl _) (by simp; omega), ⟨h.m.m.off hF (by simp; omega), hl⟩, hC, hg, Nat.le_trans h.hs hF.size, hh, h.lo⟩
theorem RdC.did {w0 : World} {base o oc g gb gr : Nat} {L L' : List (Int × Int)} {bs bs' rs : List (List Value)} {t : Nat} {C : Array Value} {wr wx : World} (h : RdC w0 base o oc g gb gr L bs rs t C wr) (hM : MemAt wx o oc g gb gr 4 1 L' bs' rs) (hF : Fr [g, gb] wr wx) : RdC w0 base o oc g gb gr L' bs' rs t C wx := by
  have hl := h.m.lo
  have hg := h.ge
  have hh := h.lo
  exact ⟨hF.below h.b (Nat.le_refl _) (by simp; omega), ⟨hM, hl⟩, hF.blk h.c (by simp; omega), hg, Nat.le_trans h.hs hF.size, h.h0, h.lo⟩
theorem RdC.dis {w0 : World} {base o oc g gb gr : Nat} {L : List (Int × Int)} {bs rs : List (List Value)} {t : Nat} {C : Array Value} {wr : World} (h : RdC w0 base o oc g gb gr L bs rs t C wr) : ¬ o = t ∧ ¬ oc = t ∧ ¬ g = t ∧ ¬ gb = t ∧ ¬ gr = t := by
  have hl := h.m.lo
  have hg := h.ge
  omega
def RdSt (k : Nat) (o : Nat) (L : List (Int × Int)) (C : Array Value) : Prop :=
  (k = 0 ∧ L = rdL0 ∧ C = rdA (some ⟨o, 0, none⟩) 0 0 0 false 0 0 0 (.int .i64 0) (.string ⟨#[]⟩) (.string ⟨#[]⟩) (.bool false) (.int .i64 0) (.slice none 0 0) (.slice none 0 0) (.slice none 0 0)) ∨
  (k = 1 ∧ L = rdL0 ∧ C = rdA (some ⟨o, 0, none⟩) 0 1 0 false 0 16385 0 (.int .i64 0) (.string ⟨#[]⟩) (.string ⟨#[]⟩) (.bool false) (.int .i64 0) (.slice none 0 0) (.slice none 0 0) (.slice none 0 0)) ∨
  (k = 2 ∧ L = rdL1 ∧ C = rdA (some ⟨o, 0, none⟩) 0 2 0 false 0 16385 0 (.int .i64 0) (.string ⟨#[]⟩) (.string ⟨#[]⟩) (.bool false) (.int .i64 0) (.slice none 0 0) (.slice none 0 0) (.slice none 0 0)) ∨
  (k = 3 ∧ L = rdL1 ∧ C = rdA (some ⟨o, 0, none⟩) 0 3 0 true 0 16385 0 (.int .i64 0) (.string ⟨#[]⟩) (.string ⟨#[]⟩) (.bool false) (.int .i64 0) (.slice none 0 0) (.slice none 0 0) (.slice none 0 0)) ∨
  (k = 4 ∧ L = rdL1 ∧ ∃ b1 b2 b3, C = rdA (some ⟨o, 0, none⟩) 0 4 4 false 0 16385 0 (.int .i64 0) (.string ⟨#[]⟩) (.string ⟨#[]⟩) (.bool true) (.int .i64 (-1)) (e0V b1) (e0V b2) (e0V b3))
set_option maxRecDepth 100000 in
set_option maxHeartbeats 6400000 in
theorem rdLives_any (w : World) : Calls Try.prog 43 #[] w fun e w' => e = .returned (.bool true) ∧ Below w.heap.size w w' := by
  go_enter Try.func43, Try.ntmps43
  go_wp2_with fail
  refine (mnew_yes 4 1 0 _ (by omega) (by omega) (by omega) (by omega) (by omega) (by omega)).mono ?_
  rintro e w1 ⟨o, oc, g, gb, gr, rfl, hM, hB, ho, hoc, hg, hgb, hgr⟩
  have hbs : ((List.replicate 4 zb).set 0 eb).getD 0 [] = eb := rfl
  generalize ((List.replicate 4 zb).set 0 eb) = bs at hM hbs
  generalize (List.replicate 1 zo) = rs at hM
  go_wp2_with fail
  refine (rdNew_any _ 0 0 _).mono ?_
  rintro e w2 ⟨rfl, rfl⟩
  have R0 : RdC w w1.heap.size o oc g gb gr rdL0 bs rs w1.heap.size (rdA (some ⟨o, 0, none⟩) 0 0 0 false 0 0 0 (.int .i64 0) (.string ⟨#[]⟩) (.string ⟨#[]⟩) (.bool false) (.int .i64 0) (.slice none 0 0) (.slice none 0 0) (.slice none 0 0)) (w1.alloc (.cells (rdA (some ⟨o, 0, none⟩) 0 0 0 false 0 0 0 (.int .i64 0) (.string ⟨#[]⟩) (.string ⟨#[]⟩) (.bool false) (.int .i64 0) (.slice none 0 0) (.slice none 0 0) (.slice none 0 0)) 95)) :=
    ⟨below_alloc2 hB (Nat.le_refl _) _, ⟨hM.below ((Below.refl _ w1).alloc (Nat.le_refl _) _), ⟨hM.head.lt, hM.cells.head.lt, hM.cells.rows.lt, hM.blocks.lt, hM.records.lt⟩⟩, Blk.new w1 _ _, Nat.le_refl _, by simp, hB.size, ⟨ho, hoc, hg, hgb, hgr⟩⟩
  generalize w1.alloc (.cells (rdA (some ⟨o, 0, none⟩) 0 0 0 false 0 0 0 (.int .i64 0) (.string ⟨#[]⟩) (.string ⟨#[]⟩) (.bool false) (.int .i64 0) (.slice none 0 0) (.slice none 0 0) (.slice none 0 0)) 95) = w2 at R0 ⊢
  generalize w1.heap.size = t at R0 ⊢
  clear hM hB
  go_wp2_with fail
  go_loopw [10] (fun i wr => ∃ (k : Nat) (L : List (Int × Int)) (C : Array Value), i = .int .i64 k ∧ RdSt k o L C ∧ RdC w t o oc g gb gr L bs rs t C wr) (fun i _ => 4 - (intOf i).toNat)
  case atStart => exact ⟨0, _, _, rfl, .inl ⟨rfl, rfl, rfl⟩, R0⟩
  case round =>
    clear R0
    obtain ⟨k, L, C, rfl, hst, R⟩ := hrel
    have hd := R.dis
    rcases hst with ⟨rfl, rfl, rfl⟩ | ⟨rfl, rfl, rfl⟩ | ⟨rfl, rfl, rfl⟩ | ⟨rfl, rfl, rfl⟩ | ⟨rfl, rfl, b1, b2, b3, rfl⟩
    · go_wp2_with fail
      refine (rdNext_0 t 0 false 0 0 0 (.int .i64 0) (.string ⟨#[]⟩) (.string ⟨#[]⟩) (.bool false) (.int .i64 0) (.slice none 0 0) (.slice none 0 0) (.slice none 0 0) _ R.m.m R.c (by omega) (by omega) (by omega) (by omega)).mono ?_
      rintro e w2 ⟨rfl, hb2⟩
      have R3 := (R.under hb2).under ((Below.refl _ w2).alloc (Nat.le_refl _) (.cells (accY 1 (atI 4 1 0 0) 0 0) 39))
      have BA := Blk.new w2 (accY 1 (atI 4 1 0 0) 0 0) 39
      generalize hW : w2.alloc (.cells (accY 1 (atI 4 1 0 0) 0 0) 39) = w3 at R3 BA
      replace hW := Lib.hid hW
      clear R hb2
      go_wp2_with (first
        | (refine wpList_store_row rfl 39 _ _ rfl _ _ rfl rfl 39 _ (Blk.new w2 _ _).h (by kernel_rfl) (by rfl) (by kernel_rfl) ?_; rw [World.setRow_alloc_new, hW.out])
        | (refine wpList_load_row rfl 39 _ rfl w2.heap.size rfl 39 _ (0, 0) _ BA.h Try.underlying39 rfl (by kernel_rfl) ?_))
      clear BA hW
      refine (do_load (atI 4 1 0 0) 0 0 _ _ _ _ _ _ _ _ _ _ _ _ _ _ _ _ _ _ _ _ _ _ _ R3.m.m).mono ?_
      rw [rd1, rd2]
      rintro e w4 ⟨rfl, hb4⟩
      have R4 := R3.under hb4
      clear R3 hb4
      go_wp2_with fail
      refine (rdTell_0 t 0 false 0 0 0 (.int .i64 0) (.string ⟨#[]⟩) (.string ⟨#[]⟩) (.bool false) (.int .i64 0) (.slice none 0 0) (.slice none 0 0) (.slice none 0 0) _ R4.m.m (by omega) (by omega) (by omega) (by omega) hd R4.c _ _ _ (by omega) (by omega) rd3).mono ?_
      rintro e w5 ⟨rfl, hC5, hF5⟩
      have R5 := R4.told hC5 hF5
      clear R4 hC5 hF5
      go_wp2_with fail
      go_roundw
      case rel => exact ⟨1, _, _, rfl, .inr (.inl ⟨rfl, rfl, rfl⟩), R5⟩
      case measure => simp [intOf]
    · go_wp2_with fail
      refine (rdNext_1 t 0 false 0 16385 0 (.int .i64 0) (.string ⟨#[]⟩) (.string ⟨#[]⟩) (.bool false) (.int .i64 0) (.slice none 0 0) (.slice none 0 0) (.slice none 0 0) _ R.m.m R.c (by omega) (by omega) (by omega) (by omega)).mono ?_
      rintro e w2 ⟨rfl, hb2⟩
      have R3 := (R.under hb2).under ((Below.refl _ w2).alloc (Nat.le_refl _) (.cells (accY 2 (hazI 4 1 0 1) 0 16385) 39))
      have BA := Blk.new w2 (accY 2 (hazI 4 1 0 1) 0 16385) 39
      generalize hW : w2.alloc (.cells (accY 2 (hazI 4 1 0 1) 0 16385) 39) = w3 at R3 BA
      replace hW := Lib.hid hW
      clear R hb2
      go_wp2_with (first
        | (refine wpList_store_row rfl 39 _ _ rfl _ _ rfl rfl 39 _ (Blk.new w2 _ _).h (by kernel_rfl) (by rfl) (by kernel_rfl) ?_; rw [World.setRow_alloc_new, hW.out])
        | (refine wpList_load_row rfl 39 _ rfl w2.heap.size rfl 39 _ (0, 0) _ BA.h Try.underlying39 rfl (by kernel_rfl) ?_))
      clear BA hW
      refine (do_store (hazI 4 1 0 1) 0 16385 _ _ _ _ _ _ _ _ _ _ _ _ _ _ _ _ _ _ _ _ _ _ _ R3.m.m (by omega) (by omega)).mono ?_
      rw [rd6]
      rintro e w4 ⟨rfl, hM4, hF4⟩
      have R4 := R3.did hM4 hF4
      clear R3 hM4 hF4
      go_wp2_with fail
      refine (rdTell_1 t 0 false 0 16385 0 (.int .i64 0) (.string ⟨#[]⟩) (.string ⟨#[]⟩) (.bool false) (.int .i64 0) (.slice none 0 0) (.slice none 0 0) (.slice none 0 0) _ R4.m.m (by omega) (by omega) (by omega) (by omega) hd R4.c _ _ _).mono ?_
      rintro e w5 ⟨rfl, hC5, hF5⟩
      have R5 := R4.told hC5 hF5
      clear R4 hC5 hF5
      go_wp2_with fail
      go_roundw
      case rel => exact ⟨2, _, _, rfl, .inr (.inr (.inl ⟨rfl, rfl, rfl⟩)), R5⟩
      case measure => simp [intOf]
    · go_wp2_with fail
      refine (rdNext_2 t 0 false 0 16385 0 (.int .i64 0) (.string ⟨#[]⟩) (.string ⟨#[]⟩) (.bool false) (.int .i64 0) (.slice none 0 0) (.slice none 0 0) (.slice none 0 0) _ R.m.m R.c (by omega) (by omega) (by omega) (by omega)).mono ?_
      rintro e w2 ⟨rfl, hb2⟩
      have R3 := (R.under hb2).under ((Below.refl _ w2).alloc (Nat.le_refl _) (.cells (accY 1 (atI 4 1 0 0) 0 0) 39))
      have BA := Blk.new w2 (accY 1 (atI 4 1 0 0) 0 0) 39
      generalize hW : w2.alloc (.cells (accY 1 (atI 4 1 0 0) 0 0) 39) = w3 at R3 BA
      replace hW := Lib.hid hW
      clear R hb2
      go_wp2_with (first
        | (refine wpList_store_row rfl 39 _ _ rfl _ _ rfl rfl 39 _ (Blk.new w2 _ _).h (by kernel_rfl) (by rfl) (by kernel_rfl) ?_; rw [World.setRow_alloc_new, hW.out])
        | (refine wpList_load_row rfl 39 _ rfl w2.heap.size rfl 39 _ (0, 0) _ BA.h Try.underlying39 rfl (by kernel_rfl) ?_))
      clear BA hW
      refine (do_load (atI 4 1 0 0) 0 0 _ _ _ _ _ _ _ _ _ _ _ _ _ _ _ _ _ _ _ _ _ _ _ R3.m.m).mono ?_
      rw [rd4]
      rintro e w4 ⟨rfl, hb4⟩
      have R4 := R3.under hb4
      clear R3 hb4
      go_wp2_with fail
      refine (rdTell_2 t 0 false 0 16385 0 (.int .i64 0) (.string ⟨#[]⟩) (.string ⟨#[]⟩) (.bool false) (.int .i64 0) (.slice none 0 0) (.slice none 0 0) (.slice none 0 0) _ R4.m.m (by omega) (by omega) (by omega) (by omega) hd R4.c _ _).mono ?_
      rintro e w5 ⟨rfl, hC5, hF5⟩
      have R5 := R4.told hC5 hF5
      clear R4 hC5 hF5
      go_wp2_with fail
      go_roundw
      case rel => exact ⟨3, _, _, rfl, .inr (.inr (.inr (.inl ⟨rfl, rfl, rfl⟩))), R5⟩
      case measure => simp [intOf]
    · go_wp2_with fail
      refine (rdNext_3 t 0 true 0 16385 0 (.int .i64 0) (.string ⟨#[]⟩) (.string ⟨#[]⟩) (.bool false) (.int .i64 0) (.slice none 0 0) (.slice none 0 0) (.slice none 0 0) _ R.m.m R.c (by omega) (by omega) (by omega) (by omega)).mono ?_
      rintro e w2 ⟨rfl, hb2⟩
      have R3 := (R.under hb2).under ((Below.refl _ w2).alloc (Nat.le_refl _) (.cells (accY 4 0 0 16385) 39))
      have BA := Blk.new w2 (accY 4 0 0 16385) 39
      generalize hW : w2.alloc (.cells (accY 4 0 0 16385) 39) = w3 at R3 BA
      replace hW := Lib.hid hW
      clear R hb2
      go_wp2_with (first
        | (refine wpList_store_row rfl 39 _ _ rfl _ _ rfl rfl 39 _ (Blk.new w2 _ _).h (by kernel_rfl) (by rfl) (by kernel_rfl) ?_; rw [World.setRow_alloc_new, hW.out])
        | (refine wpList_load_row rfl 39 _ rfl w2.heap.size rfl 39 _ (0, 0) _ BA.h Try.underlying39 rfl (by kernel_rfl) ?_))
      clear BA hW
      refine (do_get_first _ R3.m.m rd5 hbs).mono ?_
      rintro e w4 ⟨⟨b1, b2, b3, rfl⟩, hb4⟩
      have R4 := R3.under hb4
      clear R3 hb4
      go_wp2_with fail
      refine (rdTell_3 t 0 true 0 16385 0 (.int .i64 0) (.string ⟨#[]⟩) (.string ⟨#[]⟩) (.bool false) (.int .i64 0) (.slice none 0 0) (.slice none 0 0) (.slice none 0 0) _ R4.m.m (by omega) (by omega) (by omega) (by omega) hd R4.c b1 b2 b3).mono ?_
      rintro e w5 ⟨rfl, hC5, hF5⟩
      have R5 := R4.told hC5 hF5
      clear R4 hC5 hF5
      go_wp2_with fail
      go_roundw
      case rel => exact ⟨4, _, _, rfl, .inr (.inr (.inr (.inr ⟨rfl, rfl, b1, b2, b3, rfl⟩))), R5⟩
      case measure => simp [intOf]
    · go_wp2_with fail
      refine (rdKnown_got t 0 4 false 0 16385 0 b1 b2 b3 _ R.m.m R.c (by omega) (by omega) (by omega) (by omega)).mono ?_
      rintro e w2 ⟨rfl, hb2⟩
      have R3 := (R.under hb2).under ((Below.refl _ w2).alloc (Nat.le_refl _) (.cells (knA 0 16385 0 (.int .i64 0) (.string ⟨#[]⟩) (.string ⟨#[]⟩) (.bool true) (.int .i64 (-1)) (e0V b1) (e0V b2) (e0V b3)) 83))
      have BA := Blk.new w2 (knA 0 16385 0 (.int .i64 0) (.string ⟨#[]⟩) (.string ⟨#[]⟩) (.bool true) (.int .i64 (-1)) (e0V b1) (e0V b2) (e0V b3)) 83
      generalize hW : w2.alloc (.cells (knA 0 16385 0 (.int .i64 0) (.string ⟨#[]⟩) (.string ⟨#[]⟩) (.bool true) (.int .i64 (-1)) (e0V b1) (e0V b2) (e0V b3)) 83) = w3 at R3 BA
      replace hW := Lib.hid hW
      clear R hb2
      go_wp2_with (refine wpList_store_row rfl 83 _ _ rfl _ _ rfl rfl 83 _ (Blk.new w2 _ _).h (by kernel_rfl) (by rfl) (by kernel_rfl) ?_; rw [World.setRow_alloc_new, hW.out])
      clear hW
      refine (rdState_on t 0 4 4 false 0 16385 0 (.int .i64 0) (.string ⟨#[]⟩) (.string ⟨#[]⟩) (.bool true) (.int .i64 (-1)) (e0V b1) (e0V b2) (e0V b3) _ R3.m.m R3.c (by omega) (by omega) (by omega) (by omega)).mono ?_
      rintro e w4 ⟨rfl, hb4⟩
      have BA4 := BA.below hb4
      have k1 := BA4.at 1 rfl
      have k6 := BA4.at 6 rfl
      go_wp2_with fail
      go_ret
      exact ⟨rfl, below_push2 R3.b hb4 (Nat.le_refl _)⟩
end Go.Proofs.Ytpmlbdnhgeeaoaa.MemP
