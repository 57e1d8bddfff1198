/-
  ClaimCosts: how many accesses claiming has at most is as the document says; what is none, or of no memory, does nothing. For every number of blocks and of those wanted; no condition.
-/
import Derived.Test.YtpmlbdnhgeeaoaaLift
import Derived.Test.YtpmlbdnhgeeaoaaClaimR
import Derived.Test.YtpmlbdnhgeeaoaaHazWalk
namespace Go.Proofs.Ytpmlbdnhgeeaoaa.claimCosts
open Go.ChangeShapes Go.WideShapes Go.ChangeAt Go.RowKit RefP CellP MemP
set_option linter.unusedVariables false
set_option linter.unusedSimpArgs false
set_option maxRecDepth 100000 in
set_option maxHeartbeats 3200000 in
theorem clLives_any (w : World) : Calls Try.prog 63 #[] w fun e w' => e = .returned (.bool true) ∧ Below w.heap.size w w' := by
  go_enter Try.func63, Try.ntmps63
  go_wp2_with fail
  refine (mnew_yes 4 1 0 _ (by omega) (by omega) (by omega) (by omega) (by omega) (by omega)).mono ?_
  rintro e w1 ⟨o, oc, g, gb, gr, rfl, hM, hB, ho, hoc, hg, hgb, hgr⟩
  go_wp2_with fail
  refine (clNew_any 2 _ hM).mono ?_
  rintro e w2 ⟨rfl, hC, hb2⟩
  have hMB : MemB w2 w1.heap.size o oc g gb gr 4 1 clL0 _ _ := ⟨hM.below hb2, ⟨hM.head.lt, hM.cells.head.lt, hM.cells.rows.lt, hM.blocks.lt, hM.records.lt⟩⟩
  have hB2 := below_push2 hB hb2 (Nat.le_refl _)
  have hsb := hb2.size
  have hs1 := hB.size
  clear hM hB hb2
  go_wp2_with fail
  refine (clRun_ex (B0 := w.heap.size) _ hMB hC hsb ⟨hs1, ho, hoc, hg, hgb, hgr⟩).mono ?_
  rintro e w3 ⟨⟨ao, co, a, c, bs', rfl, hC3, hM3⟩, hb3⟩
  have hB3 := hB2.trans hb3
  clear hMB hC hB2 hb3
  go_wp2_with fail
  refine (clOk_any _ hM3.m hC3 true (by decide)).mono ?_
  rintro e w4 ⟨rfl, hb4⟩
  have hB4 := below_push2 hB3 hb4 (Nat.le_refl _)
  replace hM3 := hM3.under hb4
  replace hC3 := hC3.under hb4
  clear hB3 hb4
  go_wp2_with fail
  refine (clWords_any _ hM3.m hC3 (by simp)).mono ?_
  rintro e w5 ⟨a5, c5, rfl, hO5, hb5⟩
  have hB5 := below_push2 hB4 hb5 (Nat.le_refl _)
  replace hM3 := hM3.under hb5
  replace hC3 := hC3.under hb5
  clear hB4 hb5
  go_wp2_with fail
  refine (dpack_any 1 1 _ (by omega) (by omega) (by omega) (by omega)).mono ?_
  rintro e w6 ⟨rfl, rfl⟩
  go_wp2_with fail
  refine (dpack_any 2 1 _ (by omega) (by omega) (by omega) (by omega)).mono ?_
  rintro e w6 ⟨rfl, rfl⟩
  have hl : Below w5.heap.size w5 (w5.alloc (.cells #[.int .u64 (packI 1 1), .int .u64 (packI 2 1)] 22)) := (Below.refl _ w5).alloc (Nat.le_refl _) _
  have HX : U64s (w5.alloc (.cells #[.int .u64 (packI 1 1), .int .u64 (packI 2 1)] 22)) (some ⟨w5.heap.size, 0, none⟩) clW2 := by
    have hp := clP
    refine ⟨Holds.of_blk' (Blk.new w5 #[.int .u64 (packI 1 1), .int .u64 (packI 2 1)] 22) _ _ (fun i hi => ?_), (hO5.rng), by simp⟩
    have h2 : i = 0 ∨ i = 1 := by simp at hi; omega
    rcases h2 with e | e <;> subst e <;> simp [u64F, at0] <;> first | exact hp.1.symm | exact hp.2.symm
  have HO := (hO5.below hl).words (by simp)
  have hB6 := below_push2 hB5 hl (Nat.le_refl _)
  replace hM3 := hM3.under hl
  replace hC3 := hC3.under hl
  clear hB5 hl hO5
  go_wp2_with fail
  generalize w5.alloc (.cells #[.int .u64 (packI 1 1), .int .u64 (packI 2 1)] 22) = w7 at HX HO hB6 hM3 hC3 ⊢
  refine (HazP.same_any a5 _ c5 2 clW2 _ HO HX).mono ?_
  rintro e w8 ⟨rfl, hb8⟩
  have hB8 := below_push2 hB6 hb8 (Nat.le_refl _)
  replace hM3 := hM3.under hb8
  replace hC3 := hC3.under hb8
  clear hB6 hb8 HX HO
  go_wp2_with fail
  refine (clPlace_any _ hM3.m hC3).mono ?_
  rintro e w9 ⟨rfl, rfl⟩
  go_wp2_with fail
  go_ret
  exact ⟨rfl, hB8⟩
theorem zero_cl (w : World) : NoCl (w.alloc (.cells (clA none (.slice none 0 0) 0 0 0 false 0 0) 133)) (some ⟨w.heap.size, 0, none⟩) := .inr ⟨_, _, _, _, _, _, _, _, rfl, Blk.new w _ _⟩
set_option maxRecDepth 100000 in
set_option maxHeartbeats 6400000 in
theorem walk (a m : Int) (w : World) (a0 : -9223372036854775808 ≤ a ∧ a ≤ 9223372036854775807) (m0 : -9223372036854775808 ≤ m ∧ m ≤ 9223372036854775807) :
    Calls Try.prog 13 #[.int .i64 a, .int .i64 m] w fun e w' => e = .returned (.bool true) ∧ Below w.heap.size w w' := by
  by_cases h1 : 1 ≤ a
  · have q1 : decide (1 ≤ a) = true := by simpa using h1
    by_cases h2 : a ≤ 8192
    · have q2 : decide (a ≤ 8192) = true := by simpa using h2
      by_cases h3 : 1 ≤ m
      · have q3 : decide (1 ≤ m) = true := by simpa using h3
        by_cases h4 : m ≤ 8192
        · have q4 : decide (m ≤ 8192) = true := by simpa using h4
          have hR : Hid (costI a m = 2 * a * m) := if_pos (by omega)
          have hb : 2 * a * m ≤ 2 * 8192 * 8192 := Int.mul_le_mul (by omega) (by omega) (by omega) (by omega)
          have hb0 : 0 ≤ 2 * a * m := Int.mul_nonneg (by omega) (by omega)
          have hw1 : IntKind.i64.wrap (2 * a) = 2 * a := by rw [IntKind.wrap_i64]; omega
          have hw2 : IntKind.i64.wrap (2 * a * m) = 2 * a * m := by
            generalize 2 * a * m = z at hb hb0
            rw [IntKind.wrap_i64]; omega
          clear h1 h2 h3 h4 hb hb0
          go_enter Try.func13, Try.ntmps13
          go_wp2_with fail
          have NP := zero_cl w
          have hB : Below w.heap.size w (w.alloc (.cells (clA none (.slice none 0 0) 0 0 0 false 0 0) 133)) := by (repeat (first | exact Below.refl _ _ | assumption | refine below_alloc2 ?_ (by first | exact Nat.le_refl _ | omega) _ | refine Below.drew ?_ | refine below_drewN ?_ _ | refine below_push2 ?_ ‹_› (by first | exact Nat.le_refl _ | omega) | refine Below.setCell ?_ (by first | (simp; done) | (simp; omega) | omega) _))
          generalize w.alloc (.cells (clA none (.slice none 0 0) 0 0 0 false 0 0) 133) = w1 at NP hB ⊢
          refine (clTell_none none _ (.inl rfl)).mono ?_
          rintro e wx ⟨rfl, hbx⟩
          replace NP := NP.below hbx
          replace hB := below_push2 hB hbx (Nat.le_refl _)
          clear hbx
          go_wp2_with fail
          refine (clTell_none _ _ NP).mono ?_
          rintro e wx ⟨rfl, hbx⟩
          replace NP := NP.below hbx
          replace hB := below_push2 hB hbx (Nat.le_refl _)
          clear hbx
          go_wp2_with fail
          refine (bkTell_none none _ (.inl rfl)).mono ?_
          rintro e wx ⟨rfl, hbx⟩
          replace NP := NP.below hbx
          replace hB := below_push2 hB hbx (Nat.le_refl _)
          clear hbx
          go_wp2_with fail
          refine (clNext_none none _ (.inl rfl)).mono ?_
          rintro e w2 ⟨rfl, hbx⟩
          replace NP := (NP.below hbx).below ((Below.refl _ w2).alloc (Nat.le_refl _) (.cells (accY 0 0 0 0) 39))
          replace hB := below_alloc2 (below_push2 hB hbx (Nat.le_refl _)) (Nat.le_refl _) (.cells (accY 0 0 0 0) 39)
          clear hbx
          generalize hW : w2.alloc (.cells (accY 0 0 0 0) 39) = w3 at NP hB
          replace hW := Lib.hid hW
          go_wp2_with (refine wpList_store_row rfl 39 _ _ rfl _ _ rfl rfl 39 _ (Blk.new w2 _ _).h (by kernel_rfl) (by rfl) (by kernel_rfl) ?_; rw [World.setRow_alloc_new, hW.out])
          clear hW
          refine (clNext_none _ _ NP).mono ?_
          rintro e w4 ⟨rfl, hbx⟩
          replace NP := (NP.below hbx).below ((Below.refl _ w4).alloc (Nat.le_refl _) (.cells (accY 0 0 0 0) 39))
          replace hB := below_alloc2 (below_push2 hB hbx (Nat.le_refl _)) (Nat.le_refl _) (.cells (accY 0 0 0 0) 39)
          clear hbx
          generalize hW : w4.alloc (.cells (accY 0 0 0 0) 39) = w5 at NP hB
          replace hW := Lib.hid hW
          go_wp2_with (refine wpList_store_row rfl 39 _ _ rfl _ _ rfl rfl 39 _ (Blk.new w4 _ _).h (by kernel_rfl) (by rfl) (by kernel_rfl) ?_; rw [World.setRow_alloc_new, hW.out])
          clear hW
          refine (bkNext_none none _ (.inl rfl)).mono ?_
          rintro e w6 ⟨rfl, hbx⟩
          replace NP := (NP.below hbx).below ((Below.refl _ w6).alloc (Nat.le_refl _) (.cells (accY 0 0 0 0) 39))
          replace hB := below_alloc2 (below_push2 hB hbx (Nat.le_refl _)) (Nat.le_refl _) (.cells (accY 0 0 0 0) 39)
          clear hbx
          generalize hW : w6.alloc (.cells (accY 0 0 0 0) 39) = w7 at NP hB
          replace hW := Lib.hid hW
          go_wp2_with (refine wpList_store_row rfl 39 _ _ rfl _ _ rfl rfl 39 _ (Blk.new w6 _ _).h (by kernel_rfl) (by rfl) (by kernel_rfl) ?_; rw [World.setRow_alloc_new, hW.out])
          clear hW
          refine (clNew_nil _).mono ?_
          rintro e w8 ⟨rfl, rfl⟩
          have NQ : NoCl (w7.alloc (.cells (clA none (.slice none 0 0) 1 0 0 true 0 0) 133)) (some ⟨w7.heap.size, 0, none⟩) := .inr ⟨_, _, _, _, _, _, _, _, rfl, Blk.new w7 _ _⟩
          replace NP := NP.below ((Below.refl _ w7).alloc (Nat.le_refl _) (.cells (clA none (.slice none 0 0) 1 0 0 true 0 0) 133))
          replace hB := below_alloc2 hB (Nat.le_refl _) (.cells (clA none (.slice none 0 0) 1 0 0 true 0 0) 133)
          generalize w7.alloc (.cells (clA none (.slice none 0 0) 1 0 0 true 0 0) 133) = w8 at NP NQ hB ⊢
          go_wp2_with fail
          refine (clNext_none _ _ NQ).mono ?_
          rintro e w9 ⟨rfl, hbx⟩
          replace NP := (NP.below hbx).below ((Below.refl _ w9).alloc (Nat.le_refl _) (.cells (accY 0 0 0 0) 39))
          replace hB := below_alloc2 (below_push2 hB hbx (Nat.le_refl _)) (Nat.le_refl _) (.cells (accY 0 0 0 0) 39)
          clear hbx
          generalize hW : w9.alloc (.cells (accY 0 0 0 0) 39) = w10 at NP hB
          replace hW := Lib.hid hW
          go_wp2_with (refine wpList_store_row rfl 39 _ _ rfl _ _ rfl rfl 39 _ (Blk.new w9 _ _).h (by kernel_rfl) (by rfl) (by kernel_rfl) ?_; rw [World.setRow_alloc_new, hW.out])
          clear hW
          clear NQ
          have BQ := Blk.new w10 #[.int .u64 16385] 22
          replace NP := NP.below ((Below.refl _ w10).alloc (Nat.le_refl _) (.cells #[.int .u64 16385] 22))
          replace hB := below_alloc2 hB (Nat.le_refl _) (.cells #[.int .u64 16385] 22)
          generalize w10.alloc (.cells #[.int .u64 16385] 22) = w11 at NP BQ hB ⊢
          refine (return_nil _ _ BQ).mono ?_
          rintro e w12 ⟨rfl, BK, hbx⟩
          have NK : NoBk w12 (some ⟨w11.heap.size, 0, none⟩) := .inr ⟨_, _, rfl, BK⟩
          replace NP := NP.below hbx
          replace hB := below_push2 hB hbx (Nat.le_refl _)
          clear hbx BQ BK
          go_wp2_with fail
          refine (bkNext_none _ _ NK).mono ?_
          rintro e w13 ⟨rfl, hbx⟩
          replace NP := (NP.below hbx).below ((Below.refl _ w13).alloc (Nat.le_refl _) (.cells (accY 0 0 0 0) 39))
          replace hB := below_alloc2 (below_push2 hB hbx (Nat.le_refl _)) (Nat.le_refl _) (.cells (accY 0 0 0 0) 39)
          clear hbx
          generalize hW : w13.alloc (.cells (accY 0 0 0 0) 39) = w14 at NP hB
          replace hW := Lib.hid hW
          go_wp2_with (refine wpList_store_row rfl 39 _ _ rfl _ _ rfl rfl 39 _ (Blk.new w13 _ _).h (by kernel_rfl) (by rfl) (by kernel_rfl) ?_; rw [World.setRow_alloc_new, hW.out])
          clear hW
          clear NK
          refine (clCost_any a m _).mono ?_
          rw [hR.out]
          rintro e wx ⟨rfl, rfl⟩
          go_wp2_with fail
          refine (clOk_none none _ (.inl rfl)).mono ?_
          rintro e wx ⟨rfl, hbx⟩
          replace NP := NP.below hbx
          replace hB := below_push2 hB hbx (Nat.le_refl _)
          clear hbx
          go_wp2_with fail
          refine (clOk_none _ _ NP).mono ?_
          rintro e wx ⟨rfl, hbx⟩
          replace NP := NP.below hbx
          replace hB := below_push2 hB hbx (Nat.le_refl _)
          clear hbx
          go_wp2_with fail
          refine (clWords_none none _ (.inl rfl)).mono ?_
          rintro e wx ⟨rfl, rfl⟩
          go_wp2_with fail
          refine (clWords_none _ _ NP).mono ?_
          rintro e wx ⟨rfl, rfl⟩
          go_wp2_with fail
          refine (clPlace_none none _ (.inl rfl)).mono ?_
          rintro e wx ⟨rfl, rfl⟩
          go_wp2_with fail
          refine (clLives_any _).mono ?_
          rintro e w15 ⟨rfl, hb15⟩
          go_wp2_with fail
          go_ret
          exact ⟨rfl, below_push2 hB hb15 (Nat.le_refl _)⟩
        · have q4 : decide (m ≤ 8192) = false := by simpa using h4
          have hR : Hid (costI a m = 0) := if_neg (by omega)
          clear h1 h2 h3 h4
          go_enter Try.func13, Try.ntmps13
          go_wp2_with fail
          have NP := zero_cl w
          have hB : Below w.heap.size w (w.alloc (.cells (clA none (.slice none 0 0) 0 0 0 false 0 0) 133)) := by (repeat (first | exact Below.refl _ _ | assumption | refine below_alloc2 ?_ (by first | exact Nat.le_refl _ | omega) _ | refine Below.drew ?_ | refine below_drewN ?_ _ | refine below_push2 ?_ ‹_› (by first | exact Nat.le_refl _ | omega) | refine Below.setCell ?_ (by first | (simp; done) | (simp; omega) | omega) _))
          generalize w.alloc (.cells (clA none (.slice none 0 0) 0 0 0 false 0 0) 133) = w1 at NP hB ⊢
          refine (clTell_none none _ (.inl rfl)).mono ?_
          rintro e wx ⟨rfl, hbx⟩
          replace NP := NP.below hbx
          replace hB := below_push2 hB hbx (Nat.le_refl _)
          clear hbx
          go_wp2_with fail
          refine (clTell_none _ _ NP).mono ?_
          rintro e wx ⟨rfl, hbx⟩
          replace NP := NP.below hbx
          replace hB := below_push2 hB hbx (Nat.le_refl _)
          clear hbx
          go_wp2_with fail
          refine (bkTell_none none _ (.inl rfl)).mono ?_
          rintro e wx ⟨rfl, hbx⟩
          replace NP := NP.below hbx
          replace hB := below_push2 hB hbx (Nat.le_refl _)
          clear hbx
          go_wp2_with fail
          refine (clNext_none none _ (.inl rfl)).mono ?_
          rintro e w2 ⟨rfl, hbx⟩
          replace NP := (NP.below hbx).below ((Below.refl _ w2).alloc (Nat.le_refl _) (.cells (accY 0 0 0 0) 39))
          replace hB := below_alloc2 (below_push2 hB hbx (Nat.le_refl _)) (Nat.le_refl _) (.cells (accY 0 0 0 0) 39)
          clear hbx
          generalize hW : w2.alloc (.cells (accY 0 0 0 0) 39) = w3 at NP hB
          replace hW := Lib.hid hW
          go_wp2_with (refine wpList_store_row rfl 39 _ _ rfl _ _ rfl rfl 39 _ (Blk.new w2 _ _).h (by kernel_rfl) (by rfl) (by kernel_rfl) ?_; rw [World.setRow_alloc_new, hW.out])
          clear hW
          refine (clNext_none _ _ NP).mono ?_
          rintro e w4 ⟨rfl, hbx⟩
          replace NP := (NP.below hbx).below ((Below.refl _ w4).alloc (Nat.le_refl _) (.cells (accY 0 0 0 0) 39))
          replace hB := below_alloc2 (below_push2 hB hbx (Nat.le_refl _)) (Nat.le_refl _) (.cells (accY 0 0 0 0) 39)
          clear hbx
          generalize hW : w4.alloc (.cells (accY 0 0 0 0) 39) = w5 at NP hB
          replace hW := Lib.hid hW
          go_wp2_with (refine wpList_store_row rfl 39 _ _ rfl _ _ rfl rfl 39 _ (Blk.new w4 _ _).h (by kernel_rfl) (by rfl) (by kernel_rfl) ?_; rw [World.setRow_alloc_new, hW.out])
          clear hW
          refine (bkNext_none none _ (.inl rfl)).mono ?_
          rintro e w6 ⟨rfl, hbx⟩
          replace NP := (NP.below hbx).below ((Below.refl _ w6).alloc (Nat.le_refl _) (.cells (accY 0 0 0 0) 39))
          replace hB := below_alloc2 (below_push2 hB hbx (Nat.le_refl _)) (Nat.le_refl _) (.cells (accY 0 0 0 0) 39)
          clear hbx
          generalize hW : w6.alloc (.cells (accY 0 0 0 0) 39) = w7 at NP hB
          replace hW := Lib.hid hW
          go_wp2_with (refine wpList_store_row rfl 39 _ _ rfl _ _ rfl rfl 39 _ (Blk.new w6 _ _).h (by kernel_rfl) (by rfl) (by kernel_rfl) ?_; rw [World.setRow_alloc_new, hW.out])
          clear hW
          refine (clNew_nil _).mono ?_
          rintro e w8 ⟨rfl, rfl⟩
          have NQ : NoCl (w7.alloc (.cells (clA none (.slice none 0 0) 1 0 0 true 0 0) 133)) (some ⟨w7.heap.size, 0, none⟩) := .inr ⟨_, _, _, _, _, _, _, _, rfl, Blk.new w7 _ _⟩
          replace NP := NP.below ((Below.refl _ w7).alloc (Nat.le_refl _) (.cells (clA none (.slice none 0 0) 1 0 0 true 0 0) 133))
          replace hB := below_alloc2 hB (Nat.le_refl _) (.cells (clA none (.slice none 0 0) 1 0 0 true 0 0) 133)
          generalize w7.alloc (.cells (clA none (.slice none 0 0) 1 0 0 true 0 0) 133) = w8 at NP NQ hB ⊢
          go_wp2_with fail
          refine (clNext_none _ _ NQ).mono ?_
          rintro e w9 ⟨rfl, hbx⟩
          replace NP := (NP.below hbx).below ((Below.refl _ w9).alloc (Nat.le_refl _) (.cells (accY 0 0 0 0) 39))
          replace hB := below_alloc2 (below_push2 hB hbx (Nat.le_refl _)) (Nat.le_refl _) (.cells (accY 0 0 0 0) 39)
          clear hbx
          generalize hW : w9.alloc (.cells (accY 0 0 0 0) 39) = w10 at NP hB
          replace hW := Lib.hid hW
          go_wp2_with (refine wpList_store_row rfl 39 _ _ rfl _ _ rfl rfl 39 _ (Blk.new w9 _ _).h (by kernel_rfl) (by rfl) (by kernel_rfl) ?_; rw [World.setRow_alloc_new, hW.out])
          clear hW
          clear NQ
          have BQ := Blk.new w10 #[.int .u64 16385] 22
          replace NP := NP.below ((Below.refl _ w10).alloc (Nat.le_refl _) (.cells #[.int .u64 16385] 22))
          replace hB := below_alloc2 hB (Nat.le_refl _) (.cells #[.int .u64 16385] 22)
          generalize w10.alloc (.cells #[.int .u64 16385] 22) = w11 at NP BQ hB ⊢
          refine (return_nil _ _ BQ).mono ?_
          rintro e w12 ⟨rfl, BK, hbx⟩
          have NK : NoBk w12 (some ⟨w11.heap.size, 0, none⟩) := .inr ⟨_, _, rfl, BK⟩
          replace NP := NP.below hbx
          replace hB := below_push2 hB hbx (Nat.le_refl _)
          clear hbx BQ BK
          go_wp2_with fail
          refine (bkNext_none _ _ NK).mono ?_
          rintro e w13 ⟨rfl, hbx⟩
          replace NP := (NP.below hbx).below ((Below.refl _ w13).alloc (Nat.le_refl _) (.cells (accY 0 0 0 0) 39))
          replace hB := below_alloc2 (below_push2 hB hbx (Nat.le_refl _)) (Nat.le_refl _) (.cells (accY 0 0 0 0) 39)
          clear hbx
          generalize hW : w13.alloc (.cells (accY 0 0 0 0) 39) = w14 at NP hB
          replace hW := Lib.hid hW
          go_wp2_with (refine wpList_store_row rfl 39 _ _ rfl _ _ rfl rfl 39 _ (Blk.new w13 _ _).h (by kernel_rfl) (by rfl) (by kernel_rfl) ?_; rw [World.setRow_alloc_new, hW.out])
          clear hW
          clear NK
          refine (clCost_any a m _).mono ?_
          rw [hR.out]
          rintro e wx ⟨rfl, rfl⟩
          go_wp2_with fail
          refine (clOk_none none _ (.inl rfl)).mono ?_
          rintro e wx ⟨rfl, hbx⟩
          replace NP := NP.below hbx
          replace hB := below_push2 hB hbx (Nat.le_refl _)
          clear hbx
          go_wp2_with fail
          refine (clOk_none _ _ NP).mono ?_
          rintro e wx ⟨rfl, hbx⟩
          replace NP := NP.below hbx
          replace hB := below_push2 hB hbx (Nat.le_refl _)
          clear hbx
          go_wp2_with fail
          refine (clWords_none none _ (.inl rfl)).mono ?_
          rintro e wx ⟨rfl, rfl⟩
          go_wp2_with fail
          refine (clWords_none _ _ NP).mono ?_
          rintro e wx ⟨rfl, rfl⟩
          go_wp2_with fail
          refine (clPlace_none none _ (.inl rfl)).mono ?_
          rintro e wx ⟨rfl, rfl⟩
          go_wp2_with fail
          refine (clLives_any _).mono ?_
          rintro e w15 ⟨rfl, hb15⟩
          go_wp2_with fail
          go_ret
          exact ⟨rfl, below_push2 hB hb15 (Nat.le_refl _)⟩
      · have q3 : decide (1 ≤ m) = false := by simpa using h3
        have hR : Hid (costI a m = 0) := if_neg (by omega)
        clear h1 h2 h3
        go_enter Try.func13, Try.ntmps13
        go_wp2_with fail
        have NP := zero_cl w
        have hB : Below w.heap.size w (w.alloc (.cells (clA none (.slice none 0 0) 0 0 0 false 0 0) 133)) := by (repeat (first | exact Below.refl _ _ | assumption | refine below_alloc2 ?_ (by first | exact Nat.le_refl _ | omega) _ | refine Below.drew ?_ | refine below_drewN ?_ _ | refine below_push2 ?_ ‹_› (by first | exact Nat.le_refl _ | omega) | refine Below.setCell ?_ (by first | (simp; done) | (simp; omega) | omega) _))
        generalize w.alloc (.cells (clA none (.slice none 0 0) 0 0 0 false 0 0) 133) = w1 at NP hB ⊢
        refine (clTell_none none _ (.inl rfl)).mono ?_
        rintro e wx ⟨rfl, hbx⟩
        replace NP := NP.below hbx
        replace hB := below_push2 hB hbx (Nat.le_refl _)
        clear hbx
        go_wp2_with fail
        refine (clTell_none _ _ NP).mono ?_
        rintro e wx ⟨rfl, hbx⟩
        replace NP := NP.below hbx
        replace hB := below_push2 hB hbx (Nat.le_refl _)
        clear hbx
        go_wp2_with fail
        refine (bkTell_none none _ (.inl rfl)).mono ?_
        rintro e wx ⟨rfl, hbx⟩
        replace NP := NP.below hbx
        replace hB := below_push2 hB hbx (Nat.le_refl _)
        clear hbx
        go_wp2_with fail
        refine (clNext_none none _ (.inl rfl)).mono ?_
        rintro e w2 ⟨rfl, hbx⟩
        replace NP := (NP.below hbx).below ((Below.refl _ w2).alloc (Nat.le_refl _) (.cells (accY 0 0 0 0) 39))
        replace hB := below_alloc2 (below_push2 hB hbx (Nat.le_refl _)) (Nat.le_refl _) (.cells (accY 0 0 0 0) 39)
        clear hbx
        generalize hW : w2.alloc (.cells (accY 0 0 0 0) 39) = w3 at NP hB
        replace hW := Lib.hid hW
        go_wp2_with (refine wpList_store_row rfl 39 _ _ rfl _ _ rfl rfl 39 _ (Blk.new w2 _ _).h (by kernel_rfl) (by rfl) (by kernel_rfl) ?_; rw [World.setRow_alloc_new, hW.out])
        clear hW
        refine (clNext_none _ _ NP).mono ?_
        rintro e w4 ⟨rfl, hbx⟩
        replace NP := (NP.below hbx).below ((Below.refl _ w4).alloc (Nat.le_refl _) (.cells (accY 0 0 0 0) 39))
        replace hB := below_alloc2 (below_push2 hB hbx (Nat.le_refl _)) (Nat.le_refl _) (.cells (accY 0 0 0 0) 39)
        clear hbx
        generalize hW : w4.alloc (.cells (accY 0 0 0 0) 39) = w5 at NP hB
        replace hW := Lib.hid hW
        go_wp2_with (refine wpList_store_row rfl 39 _ _ rfl _ _ rfl rfl 39 _ (Blk.new w4 _ _).h (by kernel_rfl) (by rfl) (by kernel_rfl) ?_; rw [World.setRow_alloc_new, hW.out])
        clear hW
        refine (bkNext_none none _ (.inl rfl)).mono ?_
        rintro e w6 ⟨rfl, hbx⟩
        replace NP := (NP.below hbx).below ((Below.refl _ w6).alloc (Nat.le_refl _) (.cells (accY 0 0 0 0) 39))
        replace hB := below_alloc2 (below_push2 hB hbx (Nat.le_refl _)) (Nat.le_refl _) (.cells (accY 0 0 0 0) 39)
        clear hbx
        generalize hW : w6.alloc (.cells (accY 0 0 0 0) 39) = w7 at NP hB
        replace hW := Lib.hid hW
        go_wp2_with (refine wpList_store_row rfl 39 _ _ rfl _ _ rfl rfl 39 _ (Blk.new w6 _ _).h (by kernel_rfl) (by rfl) (by kernel_rfl) ?_; rw [World.setRow_alloc_new, hW.out])
        clear hW
        refine (clNew_nil _).mono ?_
        rintro e w8 ⟨rfl, rfl⟩
        have NQ : NoCl (w7.alloc (.cells (clA none (.slice none 0 0) 1 0 0 true 0 0) 133)) (some ⟨w7.heap.size, 0, none⟩) := .inr ⟨_, _, _, _, _, _, _, _, rfl, Blk.new w7 _ _⟩
        replace NP := NP.below ((Below.refl _ w7).alloc (Nat.le_refl _) (.cells (clA none (.slice none 0 0) 1 0 0 true 0 0) 133))
        replace hB := below_alloc2 hB (Nat.le_refl _) (.cells (clA none (.slice none 0 0) 1 0 0 true 0 0) 133)
        generalize w7.alloc (.cells (clA none (.slice none 0 0) 1 0 0 true 0 0) 133) = w8 at NP NQ hB ⊢
        go_wp2_with fail
        refine (clNext_none _ _ NQ).mono ?_
        rintro e w9 ⟨rfl, hbx⟩
        replace NP := (NP.below hbx).below ((Below.refl _ w9).alloc (Nat.le_refl _) (.cells (accY 0 0 0 0) 39))
        replace hB := below_alloc2 (below_push2 hB hbx (Nat.le_refl _)) (Nat.le_refl _) (.cells (accY 0 0 0 0) 39)
        clear hbx
        generalize hW : w9.alloc (.cells (accY 0 0 0 0) 39) = w10 at NP hB
        replace hW := Lib.hid hW
        go_wp2_with (refine wpList_store_row rfl 39 _ _ rfl _ _ rfl rfl 39 _ (Blk.new w9 _ _).h (by kernel_rfl) (by rfl) (by kernel_rfl) ?_; rw [World.setRow_alloc_new, hW.out])
        clear hW
        clear NQ
        have BQ := Blk.new w10 #[.int .u64 16385] 22
        replace NP := NP.below ((Below.refl _ w10).alloc (Nat.le_refl _) (.cells #[.int .u64 16385] 22))
        replace hB := below_alloc2 hB (Nat.le_refl _) (.cells #[.int .u64 16385] 22)
        generalize w10.alloc (.cells #[.int .u64 16385] 22) = w11 at NP BQ hB ⊢
        refine (return_nil _ _ BQ).mono ?_
        rintro e w12 ⟨rfl, BK, hbx⟩
        have NK : NoBk w12 (some ⟨w11.heap.size, 0, none⟩) := .inr ⟨_, _, rfl, BK⟩
        replace NP := NP.below hbx
        replace hB := below_push2 hB hbx (Nat.le_refl _)
        clear hbx BQ BK
        go_wp2_with fail
        refine (bkNext_none _ _ NK).mono ?_
        rintro e w13 ⟨rfl, hbx⟩
        replace NP := (NP.below hbx).below ((Below.refl _ w13).alloc (Nat.le_refl _) (.cells (accY 0 0 0 0) 39))
        replace hB := below_alloc2 (below_push2 hB hbx (Nat.le_refl _)) (Nat.le_refl _) (.cells (accY 0 0 0 0) 39)
        clear hbx
        generalize hW : w13.alloc (.cells (accY 0 0 0 0) 39) = w14 at NP hB
        replace hW := Lib.hid hW
        go_wp2_with (refine wpList_store_row rfl 39 _ _ rfl _ _ rfl rfl 39 _ (Blk.new w13 _ _).h (by kernel_rfl) (by rfl) (by kernel_rfl) ?_; rw [World.setRow_alloc_new, hW.out])
        clear hW
        clear NK
        refine (clCost_any a m _).mono ?_
        rw [hR.out]
        rintro e wx ⟨rfl, rfl⟩
        go_wp2_with fail
        refine (clOk_none none _ (.inl rfl)).mono ?_
        rintro e wx ⟨rfl, hbx⟩
        replace NP := NP.below hbx
        replace hB := below_push2 hB hbx (Nat.le_refl _)
        clear hbx
        go_wp2_with fail
        refine (clOk_none _ _ NP).mono ?_
        rintro e wx ⟨rfl, hbx⟩
        replace NP := NP.below hbx
        replace hB := below_push2 hB hbx (Nat.le_refl _)
        clear hbx
        go_wp2_with fail
        refine (clWords_none none _ (.inl rfl)).mono ?_
        rintro e wx ⟨rfl, rfl⟩
        go_wp2_with fail
        refine (clWords_none _ _ NP).mono ?_
        rintro e wx ⟨rfl, rfl⟩
        go_wp2_with fail
        refine (clPlace_none none _ (.inl rfl)).mono ?_
        rintro e wx ⟨rfl, rfl⟩
        go_wp2_with fail
        refine (clLives_any _).mono ?_
        rintro e w15 ⟨rfl, hb15⟩
        go_wp2_with fail
        go_ret
        exact ⟨rfl, below_push2 hB hb15 (Nat.le_refl _)⟩
    · have q2 : decide (a ≤ 8192) = false := by simpa using h2
      have hR : Hid (costI a m = 0) := if_neg (by omega)
      clear h1 h2
      go_enter Try.func13, Try.ntmps13
      go_wp2_with fail
      have NP := zero_cl w
      have hB : Below w.heap.size w (w.alloc (.cells (clA none (.slice none 0 0) 0 0 0 false 0 0) 133)) := by (repeat (first | exact Below.refl _ _ | assumption | refine below_alloc2 ?_ (by first | exact Nat.le_refl _ | omega) _ | refine Below.drew ?_ | refine below_drewN ?_ _ | refine below_push2 ?_ ‹_› (by first | exact Nat.le_refl _ | omega) | refine Below.setCell ?_ (by first | (simp; done) | (simp; omega) | omega) _))
      generalize w.alloc (.cells (clA none (.slice none 0 0) 0 0 0 false 0 0) 133) = w1 at NP hB ⊢
      refine (clTell_none none _ (.inl rfl)).mono ?_
      rintro e wx ⟨rfl, hbx⟩
      replace NP := NP.below hbx
      replace hB := below_push2 hB hbx (Nat.le_refl _)
      clear hbx
      go_wp2_with fail
      refine (clTell_none _ _ NP).mono ?_
      rintro e wx ⟨rfl, hbx⟩
      replace NP := NP.below hbx
      replace hB := below_push2 hB hbx (Nat.le_refl _)
      clear hbx
      go_wp2_with fail
      refine (bkTell_none none _ (.inl rfl)).mono ?_
      rintro e wx ⟨rfl, hbx⟩
      replace NP := NP.below hbx
      replace hB := below_push2 hB hbx (Nat.le_refl _)
      clear hbx
      go_wp2_with fail
      refine (clNext_none none _ (.inl rfl)).mono ?_
      rintro e w2 ⟨rfl, hbx⟩
      replace NP := (NP.below hbx).below ((Below.refl _ w2).alloc (Nat.le_refl _) (.cells (accY 0 0 0 0) 39))
      replace hB := below_alloc2 (below_push2 hB hbx (Nat.le_refl _)) (Nat.le_refl _) (.cells (accY 0 0 0 0) 39)
      clear hbx
      generalize hW : w2.alloc (.cells (accY 0 0 0 0) 39) = w3 at NP hB
      replace hW := Lib.hid hW
      go_wp2_with (refine wpList_store_row rfl 39 _ _ rfl _ _ rfl rfl 39 _ (Blk.new w2 _ _).h (by kernel_rfl) (by rfl) (by kernel_rfl) ?_; rw [World.setRow_alloc_new, hW.out])
      clear hW
      refine (clNext_none _ _ NP).mono ?_
      rintro e w4 ⟨rfl, hbx⟩
      replace NP := (NP.below hbx).below ((Below.refl _ w4).alloc (Nat.le_refl _) (.cells (accY 0 0 0 0) 39))
      replace hB := below_alloc2 (below_push2 hB hbx (Nat.le_refl _)) (Nat.le_refl _) (.cells (accY 0 0 0 0) 39)
      clear hbx
      generalize hW : w4.alloc (.cells (accY 0 0 0 0) 39) = w5 at NP hB
      replace hW := Lib.hid hW
      go_wp2_with (refine wpList_store_row rfl 39 _ _ rfl _ _ rfl rfl 39 _ (Blk.new w4 _ _).h (by kernel_rfl) (by rfl) (by kernel_rfl) ?_; rw [World.setRow_alloc_new, hW.out])
      clear hW
      refine (bkNext_none none _ (.inl rfl)).mono ?_
      rintro e w6 ⟨rfl, hbx⟩
      replace NP := (NP.below hbx).below ((Below.refl _ w6).alloc (Nat.le_refl _) (.cells (accY 0 0 0 0) 39))
      replace hB := below_alloc2 (below_push2 hB hbx (Nat.le_refl _)) (Nat.le_refl _) (.cells (accY 0 0 0 0) 39)
      clear hbx
      generalize hW : w6.alloc (.cells (accY 0 0 0 0) 39) = w7 at NP hB
      replace hW := Lib.hid hW
      go_wp2_with (refine wpList_store_row rfl 39 _ _ rfl _ _ rfl rfl 39 _ (Blk.new w6 _ _).h (by kernel_rfl) (by rfl) (by kernel_rfl) ?_; rw [World.setRow_alloc_new, hW.out])
      clear hW
      refine (clNew_nil _).mono ?_
      rintro e w8 ⟨rfl, rfl⟩
      have NQ : NoCl (w7.alloc (.cells (clA none (.slice none 0 0) 1 0 0 true 0 0) 133)) (some ⟨w7.heap.size, 0, none⟩) := .inr ⟨_, _, _, _, _, _, _, _, rfl, Blk.new w7 _ _⟩
      replace NP := NP.below ((Below.refl _ w7).alloc (Nat.le_refl _) (.cells (clA none (.slice none 0 0) 1 0 0 true 0 0) 133))
      replace hB := below_alloc2 hB (Nat.le_refl _) (.cells (clA none (.slice none 0 0) 1 0 0 true 0 0) 133)
      generalize w7.alloc (.cells (clA none (.slice none 0 0) 1 0 0 true 0 0) 133) = w8 at NP NQ hB ⊢
      go_wp2_with fail
      refine (clNext_none _ _ NQ).mono ?_
      rintro e w9 ⟨rfl, hbx⟩
      replace NP := (NP.below hbx).below ((Below.refl _ w9).alloc (Nat.le_refl _) (.cells (accY 0 0 0 0) 39))
      replace hB := below_alloc2 (below_push2 hB hbx (Nat.le_refl _)) (Nat.le_refl _) (.cells (accY 0 0 0 0) 39)
      clear hbx
      generalize hW : w9.alloc (.cells (accY 0 0 0 0) 39) = w10 at NP hB
      replace hW := Lib.hid hW
      go_wp2_with (refine wpList_store_row rfl 39 _ _ rfl _ _ rfl rfl 39 _ (Blk.new w9 _ _).h (by kernel_rfl) (by rfl) (by kernel_rfl) ?_; rw [World.setRow_alloc_new, hW.out])
      clear hW
      clear NQ
      have BQ := Blk.new w10 #[.int .u64 16385] 22
      replace NP := NP.below ((Below.refl _ w10).alloc (Nat.le_refl _) (.cells #[.int .u64 16385] 22))
      replace hB := below_alloc2 hB (Nat.le_refl _) (.cells #[.int .u64 16385] 22)
      generalize w10.alloc (.cells #[.int .u64 16385] 22) = w11 at NP BQ hB ⊢
      refine (return_nil _ _ BQ).mono ?_
      rintro e w12 ⟨rfl, BK, hbx⟩
      have NK : NoBk w12 (some ⟨w11.heap.size, 0, none⟩) := .inr ⟨_, _, rfl, BK⟩
      replace NP := NP.below hbx
      replace hB := below_push2 hB hbx (Nat.le_refl _)
      clear hbx BQ BK
      go_wp2_with fail
      refine (bkNext_none _ _ NK).mono ?_
      rintro e w13 ⟨rfl, hbx⟩
      replace NP := (NP.below hbx).below ((Below.refl _ w13).alloc (Nat.le_refl _) (.cells (accY 0 0 0 0) 39))
      replace hB := below_alloc2 (below_push2 hB hbx (Nat.le_refl _)) (Nat.le_refl _) (.cells (accY 0 0 0 0) 39)
      clear hbx
      generalize hW : w13.alloc (.cells (accY 0 0 0 0) 39) = w14 at NP hB
      replace hW := Lib.hid hW
      go_wp2_with (refine wpList_store_row rfl 39 _ _ rfl _ _ rfl rfl 39 _ (Blk.new w13 _ _).h (by kernel_rfl) (by rfl) (by kernel_rfl) ?_; rw [World.setRow_alloc_new, hW.out])
      clear hW
      clear NK
      refine (clCost_any a m _).mono ?_
      rw [hR.out]
      rintro e wx ⟨rfl, rfl⟩
      go_wp2_with fail
      refine (clOk_none none _ (.inl rfl)).mono ?_
      rintro e wx ⟨rfl, hbx⟩
      replace NP := NP.below hbx
      replace hB := below_push2 hB hbx (Nat.le_refl _)
      clear hbx
      go_wp2_with fail
      refine (clOk_none _ _ NP).mono ?_
      rintro e wx ⟨rfl, hbx⟩
      replace NP := NP.below hbx
      replace hB := below_push2 hB hbx (Nat.le_refl _)
      clear hbx
      go_wp2_with fail
      refine (clWords_none none _ (.inl rfl)).mono ?_
      rintro e wx ⟨rfl, rfl⟩
      go_wp2_with fail
      refine (clWords_none _ _ NP).mono ?_
      rintro e wx ⟨rfl, rfl⟩
      go_wp2_with fail
      refine (clPlace_none none _ (.inl rfl)).mono ?_
      rintro e wx ⟨rfl, rfl⟩
      go_wp2_with fail
      refine (clLives_any _).mono ?_
      rintro e w15 ⟨rfl, hb15⟩
      go_wp2_with fail
      go_ret
      exact ⟨rfl, below_push2 hB hb15 (Nat.le_refl _)⟩
  · have q1 : decide (1 ≤ a) = false := by simpa using h1
    have hR : Hid (costI a m = 0) := if_neg (by omega)
    clear h1
    go_enter Try.func13, Try.ntmps13
    go_wp2_with fail
    have NP := zero_cl w
    have hB : Below w.heap.size w (w.alloc (.cells (clA none (.slice none 0 0) 0 0 0 false 0 0) 133)) := by (repeat (first | exact Below.refl _ _ | assumption | refine below_alloc2 ?_ (by first | exact Nat.le_refl _ | omega) _ | refine Below.drew ?_ | refine below_drewN ?_ _ | refine below_push2 ?_ ‹_› (by first | exact Nat.le_refl _ | omega) | refine Below.setCell ?_ (by first | (simp; done) | (simp; omega) | omega) _))
    generalize w.alloc (.cells (clA none (.slice none 0 0) 0 0 0 false 0 0) 133) = w1 at NP hB ⊢
    refine (clTell_none none _ (.inl rfl)).mono ?_
    rintro e wx ⟨rfl, hbx⟩
    replace NP := NP.below hbx
    replace hB := below_push2 hB hbx (Nat.le_refl _)
    clear hbx
    go_wp2_with fail
    refine (clTell_none _ _ NP).mono ?_
    rintro e wx ⟨rfl, hbx⟩
    replace NP := NP.below hbx
    replace hB := below_push2 hB hbx (Nat.le_refl _)
    clear hbx
    go_wp2_with fail
    refine (bkTell_none none _ (.inl rfl)).mono ?_
    rintro e wx ⟨rfl, hbx⟩
    replace NP := NP.below hbx
    replace hB := below_push2 hB hbx (Nat.le_refl _)
    clear hbx
    go_wp2_with fail
    refine (clNext_none none _ (.inl rfl)).mono ?_
    rintro e w2 ⟨rfl, hbx⟩
    replace NP := (NP.below hbx).below ((Below.refl _ w2).alloc (Nat.le_refl _) (.cells (accY 0 0 0 0) 39))
    replace hB := below_alloc2 (below_push2 hB hbx (Nat.le_refl _)) (Nat.le_refl _) (.cells (accY 0 0 0 0) 39)
    clear hbx
    generalize hW : w2.alloc (.cells (accY 0 0 0 0) 39) = w3 at NP hB
    replace hW := Lib.hid hW
    go_wp2_with (refine wpList_store_row rfl 39 _ _ rfl _ _ rfl rfl 39 _ (Blk.new w2 _ _).h (by kernel_rfl) (by rfl) (by kernel_rfl) ?_; rw [World.setRow_alloc_new, hW.out])
    clear hW
    refine (clNext_none _ _ NP).mono ?_
    rintro e w4 ⟨rfl, hbx⟩
    replace NP := (NP.below hbx).below ((Below.refl _ w4).alloc (Nat.le_refl _) (.cells (accY 0 0 0 0) 39))
    replace hB := below_alloc2 (below_push2 hB hbx (Nat.le_refl _)) (Nat.le_refl _) (.cells (accY 0 0 0 0) 39)
    clear hbx
    generalize hW : w4.alloc (.cells (accY 0 0 0 0) 39) = w5 at NP hB
    replace hW := Lib.hid hW
    go_wp2_with (refine wpList_store_row rfl 39 _ _ rfl _ _ rfl rfl 39 _ (Blk.new w4 _ _).h (by kernel_rfl) (by rfl) (by kernel_rfl) ?_; rw [World.setRow_alloc_new, hW.out])
    clear hW
    refine (bkNext_none none _ (.inl rfl)).mono ?_
    rintro e w6 ⟨rfl, hbx⟩
    replace NP := (NP.below hbx).below ((Below.refl _ w6).alloc (Nat.le_refl _) (.cells (accY 0 0 0 0) 39))
    replace hB := below_alloc2 (below_push2 hB hbx (Nat.le_refl _)) (Nat.le_refl _) (.cells (accY 0 0 0 0) 39)
    clear hbx
    generalize hW : w6.alloc (.cells (accY 0 0 0 0) 39) = w7 at NP hB
    replace hW := Lib.hid hW
    go_wp2_with (refine wpList_store_row rfl 39 _ _ rfl _ _ rfl rfl 39 _ (Blk.new w6 _ _).h (by kernel_rfl) (by rfl) (by kernel_rfl) ?_; rw [World.setRow_alloc_new, hW.out])
    clear hW
    refine (clNew_nil _).mono ?_
    rintro e w8 ⟨rfl, rfl⟩
    have NQ : NoCl (w7.alloc (.cells (clA none (.slice none 0 0) 1 0 0 true 0 0) 133)) (some ⟨w7.heap.size, 0, none⟩) := .inr ⟨_, _, _, _, _, _, _, _, rfl, Blk.new w7 _ _⟩
    replace NP := NP.below ((Below.refl _ w7).alloc (Nat.le_refl _) (.cells (clA none (.slice none 0 0) 1 0 0 true 0 0) 133))
    replace hB := below_alloc2 hB (Nat.le_refl _) (.cells (clA none (.slice none 0 0) 1 0 0 true 0 0) 133)
    generalize w7.alloc (.cells (clA none (.slice none 0 0) 1 0 0 true 0 0) 133) = w8 at NP NQ hB ⊢
    go_wp2_with fail
    refine (clNext_none _ _ NQ).mono ?_
    rintro e w9 ⟨rfl, hbx⟩
    replace NP := (NP.below hbx).below ((Below.refl _ w9).alloc (Nat.le_refl _) (.cells (accY 0 0 0 0) 39))
    replace hB := below_alloc2 (below_push2 hB hbx (Nat.le_refl _)) (Nat.le_refl _) (.cells (accY 0 0 0 0) 39)
    clear hbx
    generalize hW : w9.alloc (.cells (accY 0 0 0 0) 39) = w10 at NP hB
    replace hW := Lib.hid hW
    go_wp2_with (refine wpList_store_row rfl 39 _ _ rfl _ _ rfl rfl 39 _ (Blk.new w9 _ _).h (by kernel_rfl) (by rfl) (by kernel_rfl) ?_; rw [World.setRow_alloc_new, hW.out])
    clear hW
    clear NQ
    have BQ := Blk.new w10 #[.int .u64 16385] 22
    replace NP := NP.below ((Below.refl _ w10).alloc (Nat.le_refl _) (.cells #[.int .u64 16385] 22))
    replace hB := below_alloc2 hB (Nat.le_refl _) (.cells #[.int .u64 16385] 22)
    generalize w10.alloc (.cells #[.int .u64 16385] 22) = w11 at NP BQ hB ⊢
    refine (return_nil _ _ BQ).mono ?_
    rintro e w12 ⟨rfl, BK, hbx⟩
    have NK : NoBk w12 (some ⟨w11.heap.size, 0, none⟩) := .inr ⟨_, _, rfl, BK⟩
    replace NP := NP.below hbx
    replace hB := below_push2 hB hbx (Nat.le_refl _)
    clear hbx BQ BK
    go_wp2_with fail
    refine (bkNext_none _ _ NK).mono ?_
    rintro e w13 ⟨rfl, hbx⟩
    replace NP := (NP.below hbx).below ((Below.refl _ w13).alloc (Nat.le_refl _) (.cells (accY 0 0 0 0) 39))
    replace hB := below_alloc2 (below_push2 hB hbx (Nat.le_refl _)) (Nat.le_refl _) (.cells (accY 0 0 0 0) 39)
    clear hbx
    generalize hW : w13.alloc (.cells (accY 0 0 0 0) 39) = w14 at NP hB
    replace hW := Lib.hid hW
    go_wp2_with (refine wpList_store_row rfl 39 _ _ rfl _ _ rfl rfl 39 _ (Blk.new w13 _ _).h (by kernel_rfl) (by rfl) (by kernel_rfl) ?_; rw [World.setRow_alloc_new, hW.out])
    clear hW
    clear NK
    refine (clCost_any a m _).mono ?_
    rw [hR.out]
    rintro e wx ⟨rfl, rfl⟩
    go_wp2_with fail
    refine (clOk_none none _ (.inl rfl)).mono ?_
    rintro e wx ⟨rfl, hbx⟩
    replace NP := NP.below hbx
    replace hB := below_push2 hB hbx (Nat.le_refl _)
    clear hbx
    go_wp2_with fail
    refine (clOk_none _ _ NP).mono ?_
    rintro e wx ⟨rfl, hbx⟩
    replace NP := NP.below hbx
    replace hB := below_push2 hB hbx (Nat.le_refl _)
    clear hbx
    go_wp2_with fail
    refine (clWords_none none _ (.inl rfl)).mono ?_
    rintro e wx ⟨rfl, rfl⟩
    go_wp2_with fail
    refine (clWords_none _ _ NP).mono ?_
    rintro e wx ⟨rfl, rfl⟩
    go_wp2_with fail
    refine (clPlace_none none _ (.inl rfl)).mono ?_
    rintro e wx ⟨rfl, rfl⟩
    go_wp2_with fail
    refine (clLives_any _).mono ?_
    rintro e w15 ⟨rfl, hb15⟩
    go_wp2_with fail
    go_ret
    exact ⟨rfl, below_push2 hB hb15 (Nat.le_refl _)⟩

set_option maxRecDepth 100000 in
theorem contract (H : Type) (enc : TypeId × Value → H) (W : World) (base : Nat) (args : Array Value) (ds : List (DataW H)) (p : List MemPlace)
    (hval : ∀ (j : Nat) t v, Try.f13.params[j]? = some t → args[j]? = some v → Value.okWide Try.prog W .any base t v)
    (hA : DataW.TrodAll enc Try.prog W 0 (fun _ => true) true Try.f13.params.toList args.toList ds p) :
    Calls Try.prog 13 args W fun e W' => e = .returned (.bool true) ∧ Below W.heap.size W W' := by
  rw [Try.params13] at hA hval
  obtain ⟨v0, vs0, d0, ds0, p0, q0, hargs, rfl, rfl, h0, r0⟩ := trodAll_cons hA
  obtain ⟨v1, vs1, d1, ds1, p1, q1, rfl, rfl, rfl, h1, r1⟩ := trodAll_cons r0
  obtain ⟨rfl, rfl, rfl⟩ := trodAll_nil r1
  obtain rfl : args = #[v0, v1] := by cases args; simp_all
  obtain ⟨a0, rfl, w0⟩ := Lift.int_of Try.underlying3 (hval 0 3 v0 rfl rfl) h0
  obtain ⟨a1, rfl, w1⟩ := Lift.int_of Try.underlying3 (hval 1 3 v1 rfl rfl) h1
  exact walk a0 a1 W (Lift.i64_range w0) (Lift.i64_range w1)

/-! THE ROW's STEP -/
set_option maxRecDepth 100000 in
theorem lifted (os : Os) (started : os.Started) (H : Type) (enc : TypeId × Value → H) :
    ReturnsInHanded {} Try.checked os 13 .any (Rows.claimCostsSpec.pre6 enc Try.prog Try.f13 Rows.claimCostsRow.domain false) (Rows.claimCostsSpec.post enc Try.prog Try.f13 false true false false) := by
  refine returnsInHanded_of_change (C := Try.checked) Lift.own started (by kernel_rfl) Try.func13
    (ChangeSpec.witness6 (enc := enc) (C := Try.checked) false ⟨#[], #[.int .i64 0, .int .i64 0], []⟩ 8 (by kernel_rfl) (by kernel_rfl) (by kernel_rfl) (by kernel_rfl)) ?_
  intro W base args ds gs before hval0 hW hcnd _
  have hval : ∀ (j : Nat) t v, Try.f13.params[j]? = some t → args[j]? = some v → Value.okWide Try.prog W .any base t v := hval0
  have hW' := hW
  obtain ⟨p, q, hA0, hV, rfl, hfz, hnd⟩ := hW
  have hA : DataW.TrodAll enc Try.prog W 0 (fun _ => true) true Try.f13.params.toList args.toList ds p := hA0
  have hlen : ds.length = 2 := by
    have hl := Lift.trodAll_len _ _ _ _ hA
    rw [Try.params13] at hl
    simpa using hl
  have hall := fun W' (hb : Below W.heap.size W W') => Lift.trodAll_below Lift.laidOut hb Try.f13.params.toList args.toList ds p (by kernel_rfl) hA
  obtain ⟨rfl, rfl⟩ := trodVars_none hV
  refine (contract H enc W base args ds p hval hA).mono fun e W' ⟨he, bel⟩ => ?_
  subst he
  have hspec : (Rows.claimCostsSpec.fn H (ds ++ [])).results = [.lit (.bool true)] ∧ (Rows.claimCostsSpec.fn H (ds ++ [])).args = ds ∧ (Rows.claimCostsSpec.fn H (ds ++ [])).vars = [] := by
    match ds, hlen with
    | [d1, d2], _ => exact ⟨rfl, rfl, rfl⟩
  exact ⟨_, rfl, _, _, _, [], _, [], hW', by rw [hspec.1]; exact trodAll_mk1 (shut_bool Try.underlying4 _), by rw [hspec.2.1]; exact hall W' bel, by rw [hspec.2.2]; rfl, bel.frame _, fun h => by cases h⟩

theorem over : Rows.claimCostsRow.holds Try.pinned (OpenSpec.ofChange Rows.claimCostsSpec) :=
  OpenClaim.holds_of_wide 13 Try.f13 rfl rfl rfl rfl rfl rfl rfl ⟨rfl, rfl, rfl, rfl, rfl⟩ rfl rfl rfl rfl rfl (by kernel_rfl) Try.func13 (by kernel_rfl)
    (of_decide_eq_true (by kernel_rfl)) (by unfold Func.isWrapper; first | (rw [if_pos (by decide +kernel)]; kernel_rfl) | (rw [if_neg (by decide +kernel)]; exact ⟨rfl, rfl⟩))
    (fun os started H enc _ => lifted os started H enc)

theorem proved : Rows.ClaimCostsSaid := over
#print axioms proved
end Go.Proofs.Ytpmlbdnhgeeaoaa.claimCosts
