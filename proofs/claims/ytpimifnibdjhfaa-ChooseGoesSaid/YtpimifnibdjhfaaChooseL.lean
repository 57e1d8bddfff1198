/-
  Choosing: the statements' own write; the example of chapter 33 is true.
-/
import Derived.Test.YtpimifnibdjhfaaChooseS
import Derived.Test.YtpimifnibdjhfaaChooseT
import Derived.Deep.WholeRow
namespace Go.Proofs.Ytpimifnibdjhfaa.MemP
open Go.RowKit RefP CellP GateP
set_option linter.unusedVariables false
set_option linter.unusedSimpArgs false
/-- the region into which it is written -/
def wrR (wh : Int) : Nat := if wh % 3 = 1 then 3 else if wh % 3 = 2 then 4 else 2
set_option maxHeartbeats 1600000 in
theorem write_any {o oc g gb gr A T : Nat} {L : List (Int × Int)} {bs rs : List (List Value)} (wh th word : Int) (w : World) (h : MemAt w o oc g gb gr A T L bs rs) (h0 : 0 ≤ wh ∧ wh ≤ 255) (t0 : 0 ≤ th ∧ th ≤ 255) (x0 : 0 ≤ word) (x1 : word ≤ 18446744073709551615) :
    Calls Try.prog 7 #[.pointer (some ⟨o, 0, none⟩), .agg #[.int .u8 wh, .int .u8 th, .int .u64 word]] w fun e w' => e = .returned (.tuple #[]) ∧ (∃ bs', MemAt w' o oc g gb gr A T (storeL L (atI A T (wrR wh) (th % T)) word) bs' rs) ∧ Fr [g, gb] w w' := by
  have hb0 : Below w.heap.size w (w.alloc (.cells #[.int .u8 wh, .int .u8 th, .int .u64 word] 28)) := by (repeat (first | exact Below.refl _ _ | assumption | refine below_alloc2 ?_ (by first | exact Nat.le_refl _ | omega) _ | refine Below.drew ?_ | refine below_drewN ?_ _ | refine below_push2 ?_ ‹_› (by first | exact Nat.le_refl _ | omega) | refine Below.setCell ?_ (by first | (simp; done) | (simp; omega) | omega) _))
  have BX := Blk.new w #[.int .u8 wh, .int .u8 th, .int .u64 word] 28
  have hT := h.t1
  have hq : ((T : Int) == 0) = false := by simp; omega
  obtain ⟨r, hr⟩ : ∃ r : Int, th % (T : Int) = r := ⟨_, rfl⟩
  rw [hr]
  have hr0 : 0 ≤ r ∧ r < T := by rw [← hr]; exact ⟨Int.emod_nonneg _ (by omega), Int.emod_lt_of_pos _ (by omega)⟩
  have hc : wh % 3 = 0 ∨ wh % 3 = 1 ∨ wh % 3 = 2 := by omega
  rcases hc with e | e | e
  · have hR : wrR wh = 2 := by unfold wrR; rw [if_neg (by omega), if_neg (by omega)]
    rw [hR]
    have q1 : (wh % 3 == 1) = false := by simp; omega
    have q2 : (wh % 3 == 2) = false := by simp; omega
    clear e hR
    go_enter Try.func7, Try.ntmps7
    go_wp2_with fail
    go_quiet (exact Calls.quiet_of_same ((threads_any _ ((h.below hb0).drewN _)).flip))
    replace h := (h.below hb0).drewN nq
    replace hb0 := below_drewN hb0 nq
    replace BX := BX.drewN nq
    go_wp2_with fail
    refine (announce_any r _ h (by omega) (by omega)).mono ?_
    rintro e w2 ⟨rfl, hb2⟩
    replace h := h.below hb2
    replace hb0 := below_push2 hb0 hb2 (Nat.le_refl _)
    replace BX := BX.below hb2
    clear hb2
    have b0 := BX.at 0 rfl
    have b0 := BX.at 0 rfl
    have b2 := BX.at 2 rfl
    clear BX
    go_wp2_with fail
    refine (do_store (atI A T 2 r) 0 word _ _ _ _ _ _ _ _ _ _ _ _ _ _ _ _ _ _ _ _ _ _ _ h x0 x1).mono ?_
    rintro e w4 ⟨rfl, h4, hF4⟩
    go_wp2_with fail
    go_end0
    exact ⟨rfl, ⟨_, h4⟩, (Fr.of_below hb0).trans hF4⟩
  · have hR : wrR wh = 3 := by unfold wrR; rw [if_pos e]
    rw [hR]
    have q1 : (wh % 3 == 1) = true := by simpa using e
    clear e hR
    go_enter Try.func7, Try.ntmps7
    go_wp2_with fail
    go_quiet (exact Calls.quiet_of_same ((threads_any _ ((h.below hb0).drewN _)).flip))
    replace h := (h.below hb0).drewN nq
    replace hb0 := below_drewN hb0 nq
    replace BX := BX.drewN nq
    go_wp2_with fail
    refine (announce_any r _ h (by omega) (by omega)).mono ?_
    rintro e w2 ⟨rfl, hb2⟩
    replace h := h.below hb2
    replace hb0 := below_push2 hb0 hb2 (Nat.le_refl _)
    replace BX := BX.below hb2
    clear hb2
    have b0 := BX.at 0 rfl
    go_wp2_with fail
    refine (done_any r _ h (by omega) (by omega)).mono ?_
    rintro e w3 ⟨rfl, hb2⟩
    replace h := h.below hb2
    replace hb0 := below_push2 hb0 hb2 (Nat.le_refl _)
    replace BX := BX.below hb2
    clear hb2
    have b0 := BX.at 0 rfl
    have b2 := BX.at 2 rfl
    clear BX
    go_wp2_with fail
    refine (do_store (atI A T 3 r) 0 word _ _ _ _ _ _ _ _ _ _ _ _ _ _ _ _ _ _ _ _ _ _ _ h x0 x1).mono ?_
    rintro e w4 ⟨rfl, h4, hF4⟩
    go_wp2_with fail
    go_end0
    exact ⟨rfl, ⟨_, h4⟩, (Fr.of_below hb0).trans hF4⟩
  · have hR : wrR wh = 4 := by unfold wrR; rw [if_neg (by omega), if_pos e]
    rw [hR]
    have q1 : (wh % 3 == 1) = false := by simp; omega
    have q2 : (wh % 3 == 2) = true := by simpa using e
    clear e hR
    go_enter Try.func7, Try.ntmps7
    go_wp2_with fail
    go_quiet (exact Calls.quiet_of_same ((threads_any _ ((h.below hb0).drewN _)).flip))
    replace h := (h.below hb0).drewN nq
    replace hb0 := below_drewN hb0 nq
    replace BX := BX.drewN nq
    go_wp2_with fail
    refine (announce_any r _ h (by omega) (by omega)).mono ?_
    rintro e w2 ⟨rfl, hb2⟩
    replace h := h.below hb2
    replace hb0 := below_push2 hb0 hb2 (Nat.le_refl _)
    replace BX := BX.below hb2
    clear hb2
    have b0 := BX.at 0 rfl
    go_wp2_with fail
    refine (phase_any r _ h (by omega) (by omega)).mono ?_
    rintro e w3 ⟨rfl, hb2⟩
    replace h := h.below hb2
    replace hb0 := below_push2 hb0 hb2 (Nat.le_refl _)
    replace BX := BX.below hb2
    clear hb2
    have b0 := BX.at 0 rfl
    have b2 := BX.at 2 rfl
    clear BX
    go_wp2_with fail
    refine (do_store (atI A T 4 r) 0 word _ _ _ _ _ _ _ _ _ _ _ _ _ _ _ _ _ _ _ _ _ _ _ h x0 x1).mono ?_
    rintro e w4 ⟨rfl, h4, hF4⟩
    go_wp2_with fail
    go_end0
    exact ⟨rfl, ⟨_, h4⟩, (Fr.of_below hb0).trans hF4⟩
/-- in a round -/
structure Rd (w0 : World) (base o oc g gb gr A T : Nat) (L : List (Int × Int)) (bs rs : List (List Value)) (t : Nat) (s : CS) (a : Option Addr) (c : Nat) (wr : World) : Prop where
  b : Below w0.heap.size w0 wr
  m : MemB wr base o oc g gb gr A T L bs rs
  c : ChAt wr base o t s a c
  gd : s.Good L A T
  hs : base ≤ wr.heap.size
  h0 : w0.heap.size ≤ base
theorem Rd.under {w0 : World} {base o oc g gb gr A T : Nat} {L : List (Int × Int)} {bs rs : List (List Value)} {t : Nat} {s : CS} {a : Option Addr} {c : Nat} {wr wx : World} (h : Rd w0 base o oc g gb gr A T L bs rs t s a c wr) (hb : Below wr.heap.size wr wx) : Rd w0 base o oc g gb gr A T L bs rs t s a c wx :=
  ⟨below_push2 h.b hb (Nat.le_refl _), h.m.under hb, h.c.under hb, h.gd, Nat.le_trans h.hs hb.size, h.h0⟩
theorem Rd.told {w0 : World} {base o oc g gb gr A T : Nat} {L : List (Int × Int)} {bs rs : List (List Value)} {t : Nat} {s : CS} {a a' : Option Addr} {c c' : Nat} {wr wx : World} (h : Rd w0 base o oc g gb gr A T L bs rs t s a c wr) (hT : s.th < T) (hC : ChAt wx base o t (s.next L A T) a' c') (hb : Below base wr wx) : Rd w0 base o oc g gb gr A T L bs rs t (s.next L A T) a' c' wx :=
  ⟨h.b.trans (hb.mono h.h0), h.m.below hb h.hs, hC, (h.gd.next hT).1, Nat.le_trans h.hs hb.size, h.h0⟩
theorem Rd.start {w0 w : World} {o oc g gb gr A T : Nat} {L : List (Int × Int)} {bs rs : List (List Value)} (hb : Below w0.heap.size w0 w) (hm : MemAt w o oc g gb gr A T L bs rs) :
    Rd w0 w.heap.size o oc g gb gr A T L bs rs w.heap.size cs0 none 0 (w.alloc (.cells #[.pointer (some ⟨o, 0, none⟩), .int .i64 0, .int .i64 0, .int .u64 0, .int .u64 0, .int .u64 0, .slice none 0 0] 75)) :=
  ⟨below_alloc2 hb (Nat.le_refl _) _, ⟨hm.below ((Below.refl _ w).alloc (Nat.le_refl _) _), ⟨hm.head.lt, hm.cells.head.lt, hm.cells.rows.lt, hm.blocks.lt, hm.records.lt⟩⟩,
    ⟨Blk.new w (taskA o cs0 none 0) 75, OwnR.nil _ _ _ _ _ _, Nat.le_refl _, fun q hq => by simp [Value.ownBlock] at hq, CS.ok0⟩, CS.good0 L A T, by simp, hb.size⟩
theorem costTo_le (L : List (Int × Int)) (A T : Nat) : ∀ k, costTo L A T k ≤ 4 * k := by
  intro k
  induction k with
  | zero => exact Nat.le_refl _
  | succ k ih =>
    show costTo L A T k + _ ≤ _
    split <;> omega
abbrev exL : List (Int × Int) := storeL (freshL 2 2 0) (atI 2 2 2 1) 1
theorem exCost : costTo exL 2 2 2 = 5 := by decide +kernel
theorem exCands : candsTo exL 2 2 2 = [(1, 0)] := by decide +kernel
theorem exAt : atI 2 2 2 1 = 5 := by decide
set_option maxRecDepth 100000 in
set_option maxHeartbeats 3200000 in
theorem chLives_any (w : World) : Calls Try.prog 5 #[] w fun e w' => e = .returned (.bool true) ∧ Below w.heap.size w w' := by
  go_enter Try.func5, Try.ntmps5
  go_wp2_with fail
  refine (mnew_yes 2 2 0 _ (by omega) (by omega) (by omega) (by omega) (by omega) (by omega)).mono ?_
  rintro e w1 ⟨o, oc, g, gb, gr, rfl, hM, hb1, ho, hoc, hg, hgb, hgr⟩
  go_wp2_with fail
  refine (announce_any 1 _ hM (by omega) (by omega)).mono ?_
  rintro e w2 ⟨rfl, hb2⟩
  have hM2 := hM.below hb2
  have hB2 := below_push2 hb1 hb2 (Nat.le_refl _)
  clear hM hb1 hb2
  go_wp2_with fail
  refine (do_store (atI 2 2 2 1) 0 1 _ _ _ _ _ _ _ _ _ _ _ _ _ _ _ _ _ _ _ _ _ _ _ hM2 (by omega) (by omega)).mono ?_
  rintro e w3 ⟨rfl, hM3, hF3⟩
  have hB3 := hF3.below hB2 (Nat.le_refl _) (by simp; omega)
  generalize storeB (freshL 2 2 0) _ _ _ = bs3 at hM3
  clear hM2 hB2 hF3
  go_wp2_with fail
  refine (chNew_any _ _).mono ?_
  rintro e w4 ⟨rfl, rfl⟩
  have R0 := Rd.start hB3 hM3
  generalize w3.alloc _ = w4 at R0
  generalize w3.heap.size = base at R0
  clear hM3 hB3
  go_wp2_with fail
  go_loopw [3, 16] (fun u3 i wr => ∃ k : Nat, ∃ s a c, k ≤ 9 ∧ i = .int .i64 k ∧ u3 = .int .i64 (s.count exL 2 2) ∧ (k ≤ 4 * s.th + s.at_ ∨ s.th = 2) ∧ Rd w base o oc g gb gr 2 2 exL bs3 _ base s a c wr) (fun _ i _ => 9 - (intOf i).toNat)
  case atStart => exact ⟨0, cs0, none, 0, Nat.zero_le _, rfl, rfl, .inl (Nat.zero_le _), R0⟩
  case round =>
    clear R0
    obtain ⟨k, s, a, c, hk, rfl, rfl, hpr, R⟩ := hrel
    have hth := R.gd.th
    have hat := R.gd.at_
    have hT16 : 2 ≤ 16 := by omega
    have hcl := costTo_le exL 2 2 s.th
    have hcn : s.count exL 2 2 = costTo exL 2 2 s.th + s.at_ := rfl
    by_cases hlt : k < 9
    · by_cases hT : s.th < 2
      · obtain ⟨cn, hcn'⟩ : ∃ cn, s.count exL 2 2 = cn := ⟨_, rfl⟩
        rw [hcn'] at hcn
        rw [hcn']
        go_wp2_with fail
        refine (chNext_any _ R.m.m R.c hT).mono ?_
        rintro e w2 ⟨rfl, hb2⟩
        have R3 := (R.under hb2).under ((Below.refl _ w2).alloc (Nat.le_refl _) (.cells (accZ 1 (s.cell 2 2) 0 0) 58))
        have BA := Blk.new w2 (accZ 1 (s.cell 2 2) 0 0) 58
        generalize hW : w2.alloc (.cells (accZ 1 (s.cell 2 2) 0 0) 58) = w3 at R3 BA
        replace hW := Lib.hid hW
        clear R hb2
        go_wp2_with (first
          | (refine wpList_store_row rfl 58 _ _ rfl _ _ rfl rfl 58 _ (Blk.new w2 _ _).h (by kernel_rfl) (by rfl) (by kernel_rfl) ?_; rw [World.setRow_alloc_new, hW.out])
          | (refine wpList_load_row rfl 58 _ rfl w2.heap.size rfl 58 _ (0, 0) _ BA.h Try.underlying58 rfl (by kernel_rfl) ?_))
        refine (do_load (s.cell 2 2) 0 0 _ _ _ _ _ _ _ _ _ _ _ _ _ _ _ _ _ _ _ _ _ _ _ R3.m.m).mono ?_
        rintro e w4 ⟨rfl, hb4⟩
        have R4 := R3.under hb4
        clear R3 BA hb4 hW
        have hr := load_rng R4.m.m.cells.rng (s.cell 2 2)
        go_wp2_with fail
        refine (tell_any _ _ _ _ R4.m.m R4.c hT hT16 hr.1.1 hr.1.2 hr.2.1 hr.2.2 R4.hs).mono ?_
        rintro e w5 ⟨⟨a', c', rfl, hC5⟩, hB5⟩
        have R5 := R4.told hT hC5 hB5
        have hnx := R4.gd.next hT
        clear R4 hC5 hB5 hr
        go_wp2_with fail
        go_roundw
        case rel => exact ⟨k + 1, _, _, _, by omega, by go_num, by rw [hnx.2.1, hcn']; go_num, by have := hnx.2.2; omega, R5⟩
        case measure => simp [intOf]; omega
      · replace hT : 2 ≤ s.th := by omega
        go_wp2_with fail
        refine (chNext_over _ R.m.m R.c hT).mono ?_
        rintro e w2 ⟨rfl, hb2⟩
        have R3 := (R.under hb2).under ((Below.refl _ w2).alloc (Nat.le_refl _) (.cells (accZ 0 0 0 0) 58))
        generalize hW : w2.alloc (.cells (accZ 0 0 0 0) 58) = w3 at R3
        replace hW := Lib.hid hW
        clear R hb2
        go_wp2_with (refine wpList_store_row rfl 58 _ _ rfl _ _ rfl rfl 58 _ (Blk.new w2 _ _).h (by kernel_rfl) (by rfl) (by kernel_rfl) ?_; rw [World.setRow_alloc_new, hW.out])
        go_roundw
        case rel => exact ⟨k + 1, s, a, c, by omega, by go_num, rfl, .inr (by omega), R3⟩
        case measure => simp [intOf]; omega
    · have hth2 : s.th = 2 := by omega
      have hat0 := R.gd.over hth2
      have hcs := R.gd.cs
      have hcn2 : s.count exL 2 2 = 5 := by rw [hcn, hth2, exCost, hat0]
      have e1 : firstT s.L = 1 := by rw [hcs, hth2, exCands]; decide
      have e2 : firstB s.L = true := by rw [hcs, hth2, exCands]; decide
      obtain rfl : k = 9 := by omega
      rw [hcn2]
      go_wp2_with fail
      refine (chThread_over _ R.m.m R.c (by omega)).mono ?_
      rw [e1, e2]
      rintro e wx ⟨rfl, hbx⟩
      go_wp2_with fail
      go_ret
      exact ⟨rfl, below_push2 R.b hbx (Nat.le_refl _)⟩
end Go.Proofs.Ytpimifnibdjhfaa.MemP
