/-
  bowerref35.New: contract.
-/
import Derived.Deep.WholeRow
import Derived.Deep.RegionHeld
import Derived.Deep.MidRow
import Derived.Test.YtpempcefgfmniaaRows
import Derived.SizedLaws
import Derived.Test.YtpempcefgfmniaaCarryOncePack7

namespace Go.Proofs.Ytpempcefgfmniaa.MemP
open Go.RowKit RefP CellP Dp
set_option linter.unusedVariables false
set_option linter.unusedSimpArgs false
set_option maxRecDepth 100000 in
set_option maxHeartbeats 3200000 in
theorem dk_new (M : MemV) (d : DH) (p : KP) (w : World) (P : KPok p) :
    Calls Try.prog 35 #[.agg (dmX M d), .int .i64 p.hp, .agg #[.int .i64 p.s, .int .i64 p.th, .int .u64 p.x], .int .u64 p.ver] w fun e w' => e = .returned (.agg (dcX M d p (kNew M.T p) Hd.nil)) ∧ Below w.heap.size w w' := by
  obtain ⟨hp, s, th, x, ver⟩ := p
  obtain ⟨s0, s1⟩ := P.s
  obtain ⟨t0, t1⟩ := P.th
  obtain ⟨x0, x1⟩ := P.x
  simp only at s0 s1 t0 t1 x0 x1 ⊢
  clear P
  obtain ⟨at_, hK⟩ : ∃ a, a = kNewAt M.T ⟨hp, s, th, x, ver⟩ := ⟨_, rfl⟩
  have hk : kNew M.T ⟨hp, s, th, x, ver⟩ = ⟨at_, [], 0, false, false⟩ := by rw [hK]; rfl
  rw [hk]
  clear hk
  simp only [kNewAt] at hK
  cases hg : gateB s th x
  · have hK : Hid (at_ = 8) := by rw [hK, if_neg (by rw [hg]; simp)]; exact rfl
    replace hg := Lib.hid hg
    have hB : Below w.heap.size w (((w.alloc (.cells (dmX M d) 69)).alloc (.cells #[.int .i64 s, .int .i64 th, .int .u64 x] 79)).alloc (.cells dcZ 84)) := by (repeat (first | exact Below.refl _ _ | assumption | refine below_alloc2 ?_ (by first | exact Nat.le_refl _ | omega) _ | refine Below.drew ?_ | refine below_drewN ?_ _ | refine below_push2 ?_ ‹_› (by first | exact Nat.le_refl _ | omega) | refine Below.setCell ?_ (by first | (simp; done) | (simp; omega) | omega) _))
    have BM := ((Blk.new w (dmX M d) 69).alloc (.cells #[.int .i64 s, .int .i64 th, .int .u64 x] 79)).alloc (.cells dcZ 84)
    have BG : Blk (((w.alloc (.cells (dmX M d) 69)).alloc (.cells #[.int .i64 s, .int .i64 th, .int .u64 x] 79)).alloc (.cells dcZ 84)) (w.heap.size + 1) #[.int .i64 s, .int .i64 th, .int .u64 x] 79 := by
      have := (Blk.new (w.alloc (.cells (dmX M d) 69)) #[.int .i64 s, .int .i64 th, .int .u64 x] 79).alloc (.cells dcZ 84)
      simpa using this
    have BR : Blk (((w.alloc (.cells (dmX M d) 69)).alloc (.cells #[.int .i64 s, .int .i64 th, .int .u64 x] 79)).alloc (.cells dcZ 84)) (w.heap.size + 2) dcZ 84 := by
      have := Blk.new ((w.alloc (.cells (dmX M d) 69)).alloc (.cells #[.int .i64 s, .int .i64 th, .int .u64 x] 79)) dcZ 84
      simpa using this
    have hm := may_any s th x
    go_enter Try.func35, Try.ntmps35
    go_upto_region 1 with (fail)
    generalize (((w.alloc (.cells (dmX M d) 69)).alloc (.cells #[.int .i64 s, .int .i64 th, .int .u64 x] 79)).alloc (.cells dcZ 84)) = w1 at hB BM BG BR ⊢
    have hs1 : w.heap.size + 2 < w1.heap.size := BR.lt
    have m0 : w1.cell? ⟨w.heap.size, 0, none⟩ = some (.int .i64 M.A) := BM.at 0 rfl
    have m1 : w1.cell? ⟨w.heap.size, 1, none⟩ = some (.int .i64 M.T) := BM.at 1 rfl
    have m2 : w1.cell? ⟨w.heap.size, 2, none⟩ = some (.slice d.h1.a M.L.length d.h1.c) := BM.at 2 rfl
    have m3 : w1.cell? ⟨w.heap.size, 3, none⟩ = some (.slice d.h2.a M.B.length d.h2.c) := BM.at 3 rfl
    have m4 : w1.cell? ⟨w.heap.size, 4, none⟩ = some (.slice d.h3.a M.R.length d.h3.c) := BM.at 4 rfl
    have g0 : w1.cell? ⟨w.heap.size + 1, 0, none⟩ = some (.int .i64 s) := BG.at 0 rfl
    have g1 : w1.cell? ⟨w.heap.size + 1, 1, none⟩ = some (.int .i64 th) := BG.at 1 rfl
    have g2 : w1.cell? ⟨w.heap.size + 1, 2, none⟩ = some (.int .u64 x) := BG.at 2 rfl
    have hbx : Below w1.heap.size w1 (w1.alloc (.cells (dcY M d ⟨hp, s, th, x, ver⟩ 0 (.slice none 0 0) 0 false false) 84)) := (Below.refl _ w1).alloc (Nat.le_refl _) _
    have BX := Blk.new w1 (dcY M d ⟨hp, s, th, x, ver⟩ 0 (.slice none 0 0) 0 false false) 84
    go_upto_region 2 with (refine wpList_store_row rfl 84 _ _ rfl _ _ rfl rfl 84 _ (Blk.new w1 _ _).h (by kernel_rfl) (by rfl) (by kernel_rfl) ?_; rw [World.setRow_alloc_new])
    replace hB := below_push2 hB hbx (Nat.le_refl _)
    replace BG := BG.below hbx
    replace BM := BM.below hbx
    replace BR := BR.below hbx
    generalize hX : w1.heap.size = X at BX hs1 ⊢
    try rw [hX]
    generalize w1.alloc (.cells (dcY M d ⟨hp, s, th, x, ver⟩ 0 (.slice none 0 0) 0 false false) 84) = w2 at hB BM BG BR BX ⊢
    clear m0 m1 m2 m3 m4 g0 g1 g2 hbx hX
    have g0 : w2.cell? ⟨w.heap.size + 1, 0, none⟩ = some (.int .i64 s) := BG.at 0 rfl
    have g1 : w2.cell? ⟨w.heap.size + 1, 1, none⟩ = some (.int .i64 th) := BG.at 1 rfl
    have g2 : w2.cell? ⟨w.heap.size + 1, 2, none⟩ = some (.int .u64 x) := BG.at 2 rfl
    go_wp2_with fail
    refine (hm _ s0 s1 t0 t1 x0 x1).mono ?_
    rintro e w3 ⟨rfl, hb3⟩
    rw [hg.out]
    replace hB := below_push2 hB hb3 (Nat.le_refl _)
    replace BG := BG.below hb3
    replace BM := BM.below hb3
    replace BR := BR.below hb3
    replace BX := BX.below hb3
    clear g0 g1 g2 hb3 hm
    have m1 : w3.cell? ⟨w.heap.size, 1, none⟩ = some (.int .i64 M.T) := BM.at 1 rfl
    have g0 : w3.cell? ⟨w.heap.size + 1, 0, none⟩ = some (.int .i64 s) := BG.at 0 rfl
    have g1 : w3.cell? ⟨w.heap.size + 1, 1, none⟩ = some (.int .i64 th) := BG.at 1 rfl
    have x10 := BX.at 10 rfl
    have y10 := BX.free 10
    go_upto_region 6 with (fail)
    have BF := BX.set 10 (.int .i64 8)
    have F2 := (Fr.refl [X] w3).setb 10 (.int .i64 8)
    try simp only [List.setIfInBounds_toArray, List.set_cons_succ, List.set_cons_zero] at BF
    have BR2 := F2.blk BR (by simp; omega)
    have hB2 := F2.below hB (Nat.le_refl _) (by simp; omega)
    clear F2 BX BG BM BR hB m1 g0 g1 x10 y10
    go_wp2_with (first
      | (refine wpList_load_row rfl 84 _ rfl X rfl 84 _ (0, 0) _ BF.h Try.underlying84 rfl (by kernel_rfl) ?_)
      | (refine wpList_store_row rfl 84 _ _ rfl (w.heap.size + 2) _ rfl rfl 84 _ BR2.h (by kernel_rfl) (by rfl) (by kernel_rfl) ?_))
    rw [hK.out]
    refine bodyPost_ret (results_cell_row rfl _ _ (w.heap.size + 2) 84 (dcY M d ⟨hp, s, th, x, ver⟩ 8 (.slice none 0 0) 0 false false) (0, 0) _ rfl (Blk.row BR2 (dcY M d ⟨hp, s, th, x, ver⟩ 8 (.slice none 0 0) 0 false false)).h Try.underlying84 rfl (by kernel_rfl)) rfl ⟨rfl, below_setRow hB2 (by omega) _⟩
  · by_cases h2 : s < 2
    · have q2 : decide (s < 2) = true := by simpa using h2
      have hK : Hid (at_ = 8) := by rw [hK, if_neg (by omega)]; exact rfl
      replace hg := Lib.hid hg
      clear h2
      have hB : Below w.heap.size w (((w.alloc (.cells (dmX M d) 69)).alloc (.cells #[.int .i64 s, .int .i64 th, .int .u64 x] 79)).alloc (.cells dcZ 84)) := by (repeat (first | exact Below.refl _ _ | assumption | refine below_alloc2 ?_ (by first | exact Nat.le_refl _ | omega) _ | refine Below.drew ?_ | refine below_drewN ?_ _ | refine below_push2 ?_ ‹_› (by first | exact Nat.le_refl _ | omega) | refine Below.setCell ?_ (by first | (simp; done) | (simp; omega) | omega) _))
      have BM := ((Blk.new w (dmX M d) 69).alloc (.cells #[.int .i64 s, .int .i64 th, .int .u64 x] 79)).alloc (.cells dcZ 84)
      have BG : Blk (((w.alloc (.cells (dmX M d) 69)).alloc (.cells #[.int .i64 s, .int .i64 th, .int .u64 x] 79)).alloc (.cells dcZ 84)) (w.heap.size + 1) #[.int .i64 s, .int .i64 th, .int .u64 x] 79 := by
        have := (Blk.new (w.alloc (.cells (dmX M d) 69)) #[.int .i64 s, .int .i64 th, .int .u64 x] 79).alloc (.cells dcZ 84)
        simpa using this
      have BR : Blk (((w.alloc (.cells (dmX M d) 69)).alloc (.cells #[.int .i64 s, .int .i64 th, .int .u64 x] 79)).alloc (.cells dcZ 84)) (w.heap.size + 2) dcZ 84 := by
        have := Blk.new ((w.alloc (.cells (dmX M d) 69)).alloc (.cells #[.int .i64 s, .int .i64 th, .int .u64 x] 79)) dcZ 84
        simpa using this
      have hm := may_any s th x
      go_enter Try.func35, Try.ntmps35
      go_upto_region 1 with (fail)
      generalize (((w.alloc (.cells (dmX M d) 69)).alloc (.cells #[.int .i64 s, .int .i64 th, .int .u64 x] 79)).alloc (.cells dcZ 84)) = w1 at hB BM BG BR ⊢
      have hs1 : w.heap.size + 2 < w1.heap.size := BR.lt
      have m0 : w1.cell? ⟨w.heap.size, 0, none⟩ = some (.int .i64 M.A) := BM.at 0 rfl
      have m1 : w1.cell? ⟨w.heap.size, 1, none⟩ = some (.int .i64 M.T) := BM.at 1 rfl
      have m2 : w1.cell? ⟨w.heap.size, 2, none⟩ = some (.slice d.h1.a M.L.length d.h1.c) := BM.at 2 rfl
      have m3 : w1.cell? ⟨w.heap.size, 3, none⟩ = some (.slice d.h2.a M.B.length d.h2.c) := BM.at 3 rfl
      have m4 : w1.cell? ⟨w.heap.size, 4, none⟩ = some (.slice d.h3.a M.R.length d.h3.c) := BM.at 4 rfl
      have g0 : w1.cell? ⟨w.heap.size + 1, 0, none⟩ = some (.int .i64 s) := BG.at 0 rfl
      have g1 : w1.cell? ⟨w.heap.size + 1, 1, none⟩ = some (.int .i64 th) := BG.at 1 rfl
      have g2 : w1.cell? ⟨w.heap.size + 1, 2, none⟩ = some (.int .u64 x) := BG.at 2 rfl
      have hbx : Below w1.heap.size w1 (w1.alloc (.cells (dcY M d ⟨hp, s, th, x, ver⟩ 0 (.slice none 0 0) 0 false false) 84)) := (Below.refl _ w1).alloc (Nat.le_refl _) _
      have BX := Blk.new w1 (dcY M d ⟨hp, s, th, x, ver⟩ 0 (.slice none 0 0) 0 false false) 84
      go_upto_region 2 with (refine wpList_store_row rfl 84 _ _ rfl _ _ rfl rfl 84 _ (Blk.new w1 _ _).h (by kernel_rfl) (by rfl) (by kernel_rfl) ?_; rw [World.setRow_alloc_new])
      replace hB := below_push2 hB hbx (Nat.le_refl _)
      replace BG := BG.below hbx
      replace BM := BM.below hbx
      replace BR := BR.below hbx
      generalize hX : w1.heap.size = X at BX hs1 ⊢
      try rw [hX]
      generalize w1.alloc (.cells (dcY M d ⟨hp, s, th, x, ver⟩ 0 (.slice none 0 0) 0 false false) 84) = w2 at hB BM BG BR BX ⊢
      clear m0 m1 m2 m3 m4 g0 g1 g2 hbx hX
      have g0 : w2.cell? ⟨w.heap.size + 1, 0, none⟩ = some (.int .i64 s) := BG.at 0 rfl
      have g1 : w2.cell? ⟨w.heap.size + 1, 1, none⟩ = some (.int .i64 th) := BG.at 1 rfl
      have g2 : w2.cell? ⟨w.heap.size + 1, 2, none⟩ = some (.int .u64 x) := BG.at 2 rfl
      go_wp2_with fail
      refine (hm _ s0 s1 t0 t1 x0 x1).mono ?_
      rintro e w3 ⟨rfl, hb3⟩
      rw [hg.out]
      replace hB := below_push2 hB hb3 (Nat.le_refl _)
      replace BG := BG.below hb3
      replace BM := BM.below hb3
      replace BR := BR.below hb3
      replace BX := BX.below hb3
      clear g0 g1 g2 hb3 hm
      have m1 : w3.cell? ⟨w.heap.size, 1, none⟩ = some (.int .i64 M.T) := BM.at 1 rfl
      have g0 : w3.cell? ⟨w.heap.size + 1, 0, none⟩ = some (.int .i64 s) := BG.at 0 rfl
      have g1 : w3.cell? ⟨w.heap.size + 1, 1, none⟩ = some (.int .i64 th) := BG.at 1 rfl
      have x10 := BX.at 10 rfl
      have y10 := BX.free 10
      go_upto_region 6 with (fail)
      have BF := BX.set 10 (.int .i64 8)
      have F2 := (Fr.refl [X] w3).setb 10 (.int .i64 8)
      try simp only [List.setIfInBounds_toArray, List.set_cons_succ, List.set_cons_zero] at BF
      have BR2 := F2.blk BR (by simp; omega)
      have hB2 := F2.below hB (Nat.le_refl _) (by simp; omega)
      clear F2 BX BG BM BR hB m1 g0 g1 x10 y10
      go_wp2_with (first
        | (refine wpList_load_row rfl 84 _ rfl X rfl 84 _ (0, 0) _ BF.h Try.underlying84 rfl (by kernel_rfl) ?_)
        | (refine wpList_store_row rfl 84 _ _ rfl (w.heap.size + 2) _ rfl rfl 84 _ BR2.h (by kernel_rfl) (by rfl) (by kernel_rfl) ?_))
      rw [hK.out]
      refine bodyPost_ret (results_cell_row rfl _ _ (w.heap.size + 2) 84 (dcY M d ⟨hp, s, th, x, ver⟩ 8 (.slice none 0 0) 0 false false) (0, 0) _ rfl (Blk.row BR2 (dcY M d ⟨hp, s, th, x, ver⟩ 8 (.slice none 0 0) 0 false false)).h Try.underlying84 rfl (by kernel_rfl)) rfl ⟨rfl, below_setRow hB2 (by omega) _⟩
    · have q2 : decide (s < 2) = false := by simpa using h2
      by_cases h3 : hp < 0
      · have q3 : decide (hp < 0) = true := by simpa using h3
        have hK : Hid (at_ = 8) := by rw [hK, if_neg (by omega)]; exact rfl
        replace hg := Lib.hid hg
        clear h2 h3
        have hB : Below w.heap.size w (((w.alloc (.cells (dmX M d) 69)).alloc (.cells #[.int .i64 s, .int .i64 th, .int .u64 x] 79)).alloc (.cells dcZ 84)) := by (repeat (first | exact Below.refl _ _ | assumption | refine below_alloc2 ?_ (by first | exact Nat.le_refl _ | omega) _ | refine Below.drew ?_ | refine below_drewN ?_ _ | refine below_push2 ?_ ‹_› (by first | exact Nat.le_refl _ | omega) | refine Below.setCell ?_ (by first | (simp; done) | (simp; omega) | omega) _))
        have BM := ((Blk.new w (dmX M d) 69).alloc (.cells #[.int .i64 s, .int .i64 th, .int .u64 x] 79)).alloc (.cells dcZ 84)
        have BG : Blk (((w.alloc (.cells (dmX M d) 69)).alloc (.cells #[.int .i64 s, .int .i64 th, .int .u64 x] 79)).alloc (.cells dcZ 84)) (w.heap.size + 1) #[.int .i64 s, .int .i64 th, .int .u64 x] 79 := by
          have := (Blk.new (w.alloc (.cells (dmX M d) 69)) #[.int .i64 s, .int .i64 th, .int .u64 x] 79).alloc (.cells dcZ 84)
          simpa using this
        have BR : Blk (((w.alloc (.cells (dmX M d) 69)).alloc (.cells #[.int .i64 s, .int .i64 th, .int .u64 x] 79)).alloc (.cells dcZ 84)) (w.heap.size + 2) dcZ 84 := by
          have := Blk.new ((w.alloc (.cells (dmX M d) 69)).alloc (.cells #[.int .i64 s, .int .i64 th, .int .u64 x] 79)) dcZ 84
          simpa using this
        have hm := may_any s th x
        go_enter Try.func35, Try.ntmps35
        go_upto_region 1 with (fail)
        generalize (((w.alloc (.cells (dmX M d) 69)).alloc (.cells #[.int .i64 s, .int .i64 th, .int .u64 x] 79)).alloc (.cells dcZ 84)) = w1 at hB BM BG BR ⊢
        have hs1 : w.heap.size + 2 < w1.heap.size := BR.lt
        have m0 : w1.cell? ⟨w.heap.size, 0, none⟩ = some (.int .i64 M.A) := BM.at 0 rfl
        have m1 : w1.cell? ⟨w.heap.size, 1, none⟩ = some (.int .i64 M.T) := BM.at 1 rfl
        have m2 : w1.cell? ⟨w.heap.size, 2, none⟩ = some (.slice d.h1.a M.L.length d.h1.c) := BM.at 2 rfl
        have m3 : w1.cell? ⟨w.heap.size, 3, none⟩ = some (.slice d.h2.a M.B.length d.h2.c) := BM.at 3 rfl
        have m4 : w1.cell? ⟨w.heap.size, 4, none⟩ = some (.slice d.h3.a M.R.length d.h3.c) := BM.at 4 rfl
        have g0 : w1.cell? ⟨w.heap.size + 1, 0, none⟩ = some (.int .i64 s) := BG.at 0 rfl
        have g1 : w1.cell? ⟨w.heap.size + 1, 1, none⟩ = some (.int .i64 th) := BG.at 1 rfl
        have g2 : w1.cell? ⟨w.heap.size + 1, 2, none⟩ = some (.int .u64 x) := BG.at 2 rfl
        have hbx : Below w1.heap.size w1 (w1.alloc (.cells (dcY M d ⟨hp, s, th, x, ver⟩ 0 (.slice none 0 0) 0 false false) 84)) := (Below.refl _ w1).alloc (Nat.le_refl _) _
        have BX := Blk.new w1 (dcY M d ⟨hp, s, th, x, ver⟩ 0 (.slice none 0 0) 0 false false) 84
        go_upto_region 2 with (refine wpList_store_row rfl 84 _ _ rfl _ _ rfl rfl 84 _ (Blk.new w1 _ _).h (by kernel_rfl) (by rfl) (by kernel_rfl) ?_; rw [World.setRow_alloc_new])
        replace hB := below_push2 hB hbx (Nat.le_refl _)
        replace BG := BG.below hbx
        replace BM := BM.below hbx
        replace BR := BR.below hbx
        generalize hX : w1.heap.size = X at BX hs1 ⊢
        try rw [hX]
        generalize w1.alloc (.cells (dcY M d ⟨hp, s, th, x, ver⟩ 0 (.slice none 0 0) 0 false false) 84) = w2 at hB BM BG BR BX ⊢
        clear m0 m1 m2 m3 m4 g0 g1 g2 hbx hX
        have g0 : w2.cell? ⟨w.heap.size + 1, 0, none⟩ = some (.int .i64 s) := BG.at 0 rfl
        have g1 : w2.cell? ⟨w.heap.size + 1, 1, none⟩ = some (.int .i64 th) := BG.at 1 rfl
        have g2 : w2.cell? ⟨w.heap.size + 1, 2, none⟩ = some (.int .u64 x) := BG.at 2 rfl
        go_wp2_with fail
        refine (hm _ s0 s1 t0 t1 x0 x1).mono ?_
        rintro e w3 ⟨rfl, hb3⟩
        rw [hg.out]
        replace hB := below_push2 hB hb3 (Nat.le_refl _)
        replace BG := BG.below hb3
        replace BM := BM.below hb3
        replace BR := BR.below hb3
        replace BX := BX.below hb3
        clear g0 g1 g2 hb3 hm
        have m1 : w3.cell? ⟨w.heap.size, 1, none⟩ = some (.int .i64 M.T) := BM.at 1 rfl
        have g0 : w3.cell? ⟨w.heap.size + 1, 0, none⟩ = some (.int .i64 s) := BG.at 0 rfl
        have g1 : w3.cell? ⟨w.heap.size + 1, 1, none⟩ = some (.int .i64 th) := BG.at 1 rfl
        have x10 := BX.at 10 rfl
        have y10 := BX.free 10
        go_upto_region 6 with (fail)
        have BF := BX.set 10 (.int .i64 8)
        have F2 := (Fr.refl [X] w3).setb 10 (.int .i64 8)
        try simp only [List.setIfInBounds_toArray, List.set_cons_succ, List.set_cons_zero] at BF
        have BR2 := F2.blk BR (by simp; omega)
        have hB2 := F2.below hB (Nat.le_refl _) (by simp; omega)
        clear F2 BX BG BM BR hB m1 g0 g1 x10 y10
        go_wp2_with (first
          | (refine wpList_load_row rfl 84 _ rfl X rfl 84 _ (0, 0) _ BF.h Try.underlying84 rfl (by kernel_rfl) ?_)
          | (refine wpList_store_row rfl 84 _ _ rfl (w.heap.size + 2) _ rfl rfl 84 _ BR2.h (by kernel_rfl) (by rfl) (by kernel_rfl) ?_))
        rw [hK.out]
        refine bodyPost_ret (results_cell_row rfl _ _ (w.heap.size + 2) 84 (dcY M d ⟨hp, s, th, x, ver⟩ 8 (.slice none 0 0) 0 false false) (0, 0) _ rfl (Blk.row BR2 (dcY M d ⟨hp, s, th, x, ver⟩ 8 (.slice none 0 0) 0 false false)).h Try.underlying84 rfl (by kernel_rfl)) rfl ⟨rfl, below_setRow hB2 (by omega) _⟩
      · have q3 : decide (hp < 0) = false := by simpa using h3
        by_cases h4 : hp < (M.T : Int)
        · have q4 : decide ((M.T : Int) ≤ hp) = false := by simpa using h4
          by_cases h5 : th < (M.T : Int)
          · have q5 : decide ((M.T : Int) ≤ th) = false := by simpa using h5
            by_cases h6 : s = 3
            · have q6 : (s == 3) = true := by simpa using h6
              have hK : Hid (at_ = 4) := by rw [hK, if_pos ⟨hg, by omega, by omega, by omega, by omega⟩, if_pos h6]; exact rfl
              replace hg := Lib.hid hg
              clear h2 h3 h6
              have hB : Below w.heap.size w (((w.alloc (.cells (dmX M d) 69)).alloc (.cells #[.int .i64 s, .int .i64 th, .int .u64 x] 79)).alloc (.cells dcZ 84)) := by (repeat (first | exact Below.refl _ _ | assumption | refine below_alloc2 ?_ (by first | exact Nat.le_refl _ | omega) _ | refine Below.drew ?_ | refine below_drewN ?_ _ | refine below_push2 ?_ ‹_› (by first | exact Nat.le_refl _ | omega) | refine Below.setCell ?_ (by first | (simp; done) | (simp; omega) | omega) _))
              have BM := ((Blk.new w (dmX M d) 69).alloc (.cells #[.int .i64 s, .int .i64 th, .int .u64 x] 79)).alloc (.cells dcZ 84)
              have BG : Blk (((w.alloc (.cells (dmX M d) 69)).alloc (.cells #[.int .i64 s, .int .i64 th, .int .u64 x] 79)).alloc (.cells dcZ 84)) (w.heap.size + 1) #[.int .i64 s, .int .i64 th, .int .u64 x] 79 := by
                have := (Blk.new (w.alloc (.cells (dmX M d) 69)) #[.int .i64 s, .int .i64 th, .int .u64 x] 79).alloc (.cells dcZ 84)
                simpa using this
              have BR : Blk (((w.alloc (.cells (dmX M d) 69)).alloc (.cells #[.int .i64 s, .int .i64 th, .int .u64 x] 79)).alloc (.cells dcZ 84)) (w.heap.size + 2) dcZ 84 := by
                have := Blk.new ((w.alloc (.cells (dmX M d) 69)).alloc (.cells #[.int .i64 s, .int .i64 th, .int .u64 x] 79)) dcZ 84
                simpa using this
              have hm := may_any s th x
              go_enter Try.func35, Try.ntmps35
              go_upto_region 1 with (fail)
              generalize (((w.alloc (.cells (dmX M d) 69)).alloc (.cells #[.int .i64 s, .int .i64 th, .int .u64 x] 79)).alloc (.cells dcZ 84)) = w1 at hB BM BG BR ⊢
              have hs1 : w.heap.size + 2 < w1.heap.size := BR.lt
              have m0 : w1.cell? ⟨w.heap.size, 0, none⟩ = some (.int .i64 M.A) := BM.at 0 rfl
              have m1 : w1.cell? ⟨w.heap.size, 1, none⟩ = some (.int .i64 M.T) := BM.at 1 rfl
              have m2 : w1.cell? ⟨w.heap.size, 2, none⟩ = some (.slice d.h1.a M.L.length d.h1.c) := BM.at 2 rfl
              have m3 : w1.cell? ⟨w.heap.size, 3, none⟩ = some (.slice d.h2.a M.B.length d.h2.c) := BM.at 3 rfl
              have m4 : w1.cell? ⟨w.heap.size, 4, none⟩ = some (.slice d.h3.a M.R.length d.h3.c) := BM.at 4 rfl
              have g0 : w1.cell? ⟨w.heap.size + 1, 0, none⟩ = some (.int .i64 s) := BG.at 0 rfl
              have g1 : w1.cell? ⟨w.heap.size + 1, 1, none⟩ = some (.int .i64 th) := BG.at 1 rfl
              have g2 : w1.cell? ⟨w.heap.size + 1, 2, none⟩ = some (.int .u64 x) := BG.at 2 rfl
              have hbx : Below w1.heap.size w1 (w1.alloc (.cells (dcY M d ⟨hp, s, th, x, ver⟩ 0 (.slice none 0 0) 0 false false) 84)) := (Below.refl _ w1).alloc (Nat.le_refl _) _
              have BX := Blk.new w1 (dcY M d ⟨hp, s, th, x, ver⟩ 0 (.slice none 0 0) 0 false false) 84
              go_upto_region 2 with (refine wpList_store_row rfl 84 _ _ rfl _ _ rfl rfl 84 _ (Blk.new w1 _ _).h (by kernel_rfl) (by rfl) (by kernel_rfl) ?_; rw [World.setRow_alloc_new])
              replace hB := below_push2 hB hbx (Nat.le_refl _)
              replace BG := BG.below hbx
              replace BM := BM.below hbx
              replace BR := BR.below hbx
              generalize hX : w1.heap.size = X at BX hs1 ⊢
              try rw [hX]
              generalize w1.alloc (.cells (dcY M d ⟨hp, s, th, x, ver⟩ 0 (.slice none 0 0) 0 false false) 84) = w2 at hB BM BG BR BX ⊢
              clear m0 m1 m2 m3 m4 g0 g1 g2 hbx hX
              have g0 : w2.cell? ⟨w.heap.size + 1, 0, none⟩ = some (.int .i64 s) := BG.at 0 rfl
              have g1 : w2.cell? ⟨w.heap.size + 1, 1, none⟩ = some (.int .i64 th) := BG.at 1 rfl
              have g2 : w2.cell? ⟨w.heap.size + 1, 2, none⟩ = some (.int .u64 x) := BG.at 2 rfl
              go_wp2_with fail
              refine (hm _ s0 s1 t0 t1 x0 x1).mono ?_
              rintro e w3 ⟨rfl, hb3⟩
              rw [hg.out]
              replace hB := below_push2 hB hb3 (Nat.le_refl _)
              replace BG := BG.below hb3
              replace BM := BM.below hb3
              replace BR := BR.below hb3
              replace BX := BX.below hb3
              clear g0 g1 g2 hb3 hm
              have m1 : w3.cell? ⟨w.heap.size, 1, none⟩ = some (.int .i64 M.T) := BM.at 1 rfl
              have g0 : w3.cell? ⟨w.heap.size + 1, 0, none⟩ = some (.int .i64 s) := BG.at 0 rfl
              have g1 : w3.cell? ⟨w.heap.size + 1, 1, none⟩ = some (.int .i64 th) := BG.at 1 rfl
              have x10 := BX.at 10 rfl
              have y10 := BX.free 10
              go_upto_region 6 with (fail)
              have BF := BX.set 10 (.int .i64 4)
              have F2 := (Fr.refl [X] w3).setb 10 (.int .i64 4)
              try simp only [List.setIfInBounds_toArray, List.set_cons_succ, List.set_cons_zero] at BF
              have BR2 := F2.blk BR (by simp; omega)
              have hB2 := F2.below hB (Nat.le_refl _) (by simp; omega)
              clear F2 BX BG BM BR hB m1 g0 g1 x10 y10
              go_wp2_with (first
                | (refine wpList_load_row rfl 84 _ rfl X rfl 84 _ (0, 0) _ BF.h Try.underlying84 rfl (by kernel_rfl) ?_)
                | (refine wpList_store_row rfl 84 _ _ rfl (w.heap.size + 2) _ rfl rfl 84 _ BR2.h (by kernel_rfl) (by rfl) (by kernel_rfl) ?_))
              rw [hK.out]
              refine bodyPost_ret (results_cell_row rfl _ _ (w.heap.size + 2) 84 (dcY M d ⟨hp, s, th, x, ver⟩ 4 (.slice none 0 0) 0 false false) (0, 0) _ rfl (Blk.row BR2 (dcY M d ⟨hp, s, th, x, ver⟩ 4 (.slice none 0 0) 0 false false)).h Try.underlying84 rfl (by kernel_rfl)) rfl ⟨rfl, below_setRow hB2 (by omega) _⟩
            · have q6 : (s == 3) = false := by simpa using h6
              have hK : Hid (at_ = 0) := by rw [hK, if_pos ⟨hg, by omega, by omega, by omega, by omega⟩, if_neg h6]; exact rfl
              replace hg := Lib.hid hg
              clear h2 h3 h6
              have hB : Below w.heap.size w (((w.alloc (.cells (dmX M d) 69)).alloc (.cells #[.int .i64 s, .int .i64 th, .int .u64 x] 79)).alloc (.cells dcZ 84)) := by (repeat (first | exact Below.refl _ _ | assumption | refine below_alloc2 ?_ (by first | exact Nat.le_refl _ | omega) _ | refine Below.drew ?_ | refine below_drewN ?_ _ | refine below_push2 ?_ ‹_› (by first | exact Nat.le_refl _ | omega) | refine Below.setCell ?_ (by first | (simp; done) | (simp; omega) | omega) _))
              have BM := ((Blk.new w (dmX M d) 69).alloc (.cells #[.int .i64 s, .int .i64 th, .int .u64 x] 79)).alloc (.cells dcZ 84)
              have BG : Blk (((w.alloc (.cells (dmX M d) 69)).alloc (.cells #[.int .i64 s, .int .i64 th, .int .u64 x] 79)).alloc (.cells dcZ 84)) (w.heap.size + 1) #[.int .i64 s, .int .i64 th, .int .u64 x] 79 := by
                have := (Blk.new (w.alloc (.cells (dmX M d) 69)) #[.int .i64 s, .int .i64 th, .int .u64 x] 79).alloc (.cells dcZ 84)
                simpa using this
              have BR : Blk (((w.alloc (.cells (dmX M d) 69)).alloc (.cells #[.int .i64 s, .int .i64 th, .int .u64 x] 79)).alloc (.cells dcZ 84)) (w.heap.size + 2) dcZ 84 := by
                have := Blk.new ((w.alloc (.cells (dmX M d) 69)).alloc (.cells #[.int .i64 s, .int .i64 th, .int .u64 x] 79)) dcZ 84
                simpa using this
              have hm := may_any s th x
              go_enter Try.func35, Try.ntmps35
              go_upto_region 1 with (fail)
              generalize (((w.alloc (.cells (dmX M d) 69)).alloc (.cells #[.int .i64 s, .int .i64 th, .int .u64 x] 79)).alloc (.cells dcZ 84)) = w1 at hB BM BG BR ⊢
              have hs1 : w.heap.size + 2 < w1.heap.size := BR.lt
              have m0 : w1.cell? ⟨w.heap.size, 0, none⟩ = some (.int .i64 M.A) := BM.at 0 rfl
              have m1 : w1.cell? ⟨w.heap.size, 1, none⟩ = some (.int .i64 M.T) := BM.at 1 rfl
              have m2 : w1.cell? ⟨w.heap.size, 2, none⟩ = some (.slice d.h1.a M.L.length d.h1.c) := BM.at 2 rfl
              have m3 : w1.cell? ⟨w.heap.size, 3, none⟩ = some (.slice d.h2.a M.B.length d.h2.c) := BM.at 3 rfl
              have m4 : w1.cell? ⟨w.heap.size, 4, none⟩ = some (.slice d.h3.a M.R.length d.h3.c) := BM.at 4 rfl
              have g0 : w1.cell? ⟨w.heap.size + 1, 0, none⟩ = some (.int .i64 s) := BG.at 0 rfl
              have g1 : w1.cell? ⟨w.heap.size + 1, 1, none⟩ = some (.int .i64 th) := BG.at 1 rfl
              have g2 : w1.cell? ⟨w.heap.size + 1, 2, none⟩ = some (.int .u64 x) := BG.at 2 rfl
              have hbx : Below w1.heap.size w1 (w1.alloc (.cells (dcY M d ⟨hp, s, th, x, ver⟩ 0 (.slice none 0 0) 0 false false) 84)) := (Below.refl _ w1).alloc (Nat.le_refl _) _
              have BX := Blk.new w1 (dcY M d ⟨hp, s, th, x, ver⟩ 0 (.slice none 0 0) 0 false false) 84
              go_upto_region 2 with (refine wpList_store_row rfl 84 _ _ rfl _ _ rfl rfl 84 _ (Blk.new w1 _ _).h (by kernel_rfl) (by rfl) (by kernel_rfl) ?_; rw [World.setRow_alloc_new])
              replace hB := below_push2 hB hbx (Nat.le_refl _)
              replace BG := BG.below hbx
              replace BM := BM.below hbx
              replace BR := BR.below hbx
              generalize hX : w1.heap.size = X at BX hs1 ⊢
              try rw [hX]
              generalize w1.alloc (.cells (dcY M d ⟨hp, s, th, x, ver⟩ 0 (.slice none 0 0) 0 false false) 84) = w2 at hB BM BG BR BX ⊢
              clear m0 m1 m2 m3 m4 g0 g1 g2 hbx hX
              have g0 : w2.cell? ⟨w.heap.size + 1, 0, none⟩ = some (.int .i64 s) := BG.at 0 rfl
              have g1 : w2.cell? ⟨w.heap.size + 1, 1, none⟩ = some (.int .i64 th) := BG.at 1 rfl
              have g2 : w2.cell? ⟨w.heap.size + 1, 2, none⟩ = some (.int .u64 x) := BG.at 2 rfl
              go_wp2_with fail
              refine (hm _ s0 s1 t0 t1 x0 x1).mono ?_
              rintro e w3 ⟨rfl, hb3⟩
              rw [hg.out]
              replace hB := below_push2 hB hb3 (Nat.le_refl _)
              replace BG := BG.below hb3
              replace BM := BM.below hb3
              replace BR := BR.below hb3
              replace BX := BX.below hb3
              clear g0 g1 g2 hb3 hm
              have m1 : w3.cell? ⟨w.heap.size, 1, none⟩ = some (.int .i64 M.T) := BM.at 1 rfl
              have g0 : w3.cell? ⟨w.heap.size + 1, 0, none⟩ = some (.int .i64 s) := BG.at 0 rfl
              have g1 : w3.cell? ⟨w.heap.size + 1, 1, none⟩ = some (.int .i64 th) := BG.at 1 rfl
              have x10 := BX.at 10 rfl
              have y10 := BX.free 10
              go_upto_region 6 with (fail)
              have BF := BX
              have F2 := Fr.refl [X] w3
              try simp only [List.setIfInBounds_toArray, List.set_cons_succ, List.set_cons_zero] at BF
              have BR2 := F2.blk BR (by simp; omega)
              have hB2 := F2.below hB (Nat.le_refl _) (by simp; omega)
              clear F2 BX BG BM BR hB m1 g0 g1 x10 y10
              go_wp2_with (first
                | (refine wpList_load_row rfl 84 _ rfl X rfl 84 _ (0, 0) _ BF.h Try.underlying84 rfl (by kernel_rfl) ?_)
                | (refine wpList_store_row rfl 84 _ _ rfl (w.heap.size + 2) _ rfl rfl 84 _ BR2.h (by kernel_rfl) (by rfl) (by kernel_rfl) ?_))
              rw [hK.out]
              refine bodyPost_ret (results_cell_row rfl _ _ (w.heap.size + 2) 84 (dcY M d ⟨hp, s, th, x, ver⟩ 0 (.slice none 0 0) 0 false false) (0, 0) _ rfl (Blk.row BR2 (dcY M d ⟨hp, s, th, x, ver⟩ 0 (.slice none 0 0) 0 false false)).h Try.underlying84 rfl (by kernel_rfl)) rfl ⟨rfl, below_setRow hB2 (by omega) _⟩
          · have q5 : decide ((M.T : Int) ≤ th) = true := by simpa using h5
            have hK : Hid (at_ = 8) := by rw [hK, if_neg (by omega)]; exact rfl
            replace hg := Lib.hid hg
            clear h2 h3
            have hB : Below w.heap.size w (((w.alloc (.cells (dmX M d) 69)).alloc (.cells #[.int .i64 s, .int .i64 th, .int .u64 x] 79)).alloc (.cells dcZ 84)) := by (repeat (first | exact Below.refl _ _ | assumption | refine below_alloc2 ?_ (by first | exact Nat.le_refl _ | omega) _ | refine Below.drew ?_ | refine below_drewN ?_ _ | refine below_push2 ?_ ‹_› (by first | exact Nat.le_refl _ | omega) | refine Below.setCell ?_ (by first | (simp; done) | (simp; omega) | omega) _))
            have BM := ((Blk.new w (dmX M d) 69).alloc (.cells #[.int .i64 s, .int .i64 th, .int .u64 x] 79)).alloc (.cells dcZ 84)
            have BG : Blk (((w.alloc (.cells (dmX M d) 69)).alloc (.cells #[.int .i64 s, .int .i64 th, .int .u64 x] 79)).alloc (.cells dcZ 84)) (w.heap.size + 1) #[.int .i64 s, .int .i64 th, .int .u64 x] 79 := by
              have := (Blk.new (w.alloc (.cells (dmX M d) 69)) #[.int .i64 s, .int .i64 th, .int .u64 x] 79).alloc (.cells dcZ 84)
              simpa using this
            have BR : Blk (((w.alloc (.cells (dmX M d) 69)).alloc (.cells #[.int .i64 s, .int .i64 th, .int .u64 x] 79)).alloc (.cells dcZ 84)) (w.heap.size + 2) dcZ 84 := by
              have := Blk.new ((w.alloc (.cells (dmX M d) 69)).alloc (.cells #[.int .i64 s, .int .i64 th, .int .u64 x] 79)) dcZ 84
              simpa using this
            have hm := may_any s th x
            go_enter Try.func35, Try.ntmps35
            go_upto_region 1 with (fail)
            generalize (((w.alloc (.cells (dmX M d) 69)).alloc (.cells #[.int .i64 s, .int .i64 th, .int .u64 x] 79)).alloc (.cells dcZ 84)) = w1 at hB BM BG BR ⊢
            have hs1 : w.heap.size + 2 < w1.heap.size := BR.lt
            have m0 : w1.cell? ⟨w.heap.size, 0, none⟩ = some (.int .i64 M.A) := BM.at 0 rfl
            have m1 : w1.cell? ⟨w.heap.size, 1, none⟩ = some (.int .i64 M.T) := BM.at 1 rfl
            have m2 : w1.cell? ⟨w.heap.size, 2, none⟩ = some (.slice d.h1.a M.L.length d.h1.c) := BM.at 2 rfl
            have m3 : w1.cell? ⟨w.heap.size, 3, none⟩ = some (.slice d.h2.a M.B.length d.h2.c) := BM.at 3 rfl
            have m4 : w1.cell? ⟨w.heap.size, 4, none⟩ = some (.slice d.h3.a M.R.length d.h3.c) := BM.at 4 rfl
            have g0 : w1.cell? ⟨w.heap.size + 1, 0, none⟩ = some (.int .i64 s) := BG.at 0 rfl
            have g1 : w1.cell? ⟨w.heap.size + 1, 1, none⟩ = some (.int .i64 th) := BG.at 1 rfl
            have g2 : w1.cell? ⟨w.heap.size + 1, 2, none⟩ = some (.int .u64 x) := BG.at 2 rfl
            have hbx : Below w1.heap.size w1 (w1.alloc (.cells (dcY M d ⟨hp, s, th, x, ver⟩ 0 (.slice none 0 0) 0 false false) 84)) := (Below.refl _ w1).alloc (Nat.le_refl _) _
            have BX := Blk.new w1 (dcY M d ⟨hp, s, th, x, ver⟩ 0 (.slice none 0 0) 0 false false) 84
            go_upto_region 2 with (refine wpList_store_row rfl 84 _ _ rfl _ _ rfl rfl 84 _ (Blk.new w1 _ _).h (by kernel_rfl) (by rfl) (by kernel_rfl) ?_; rw [World.setRow_alloc_new])
            replace hB := below_push2 hB hbx (Nat.le_refl _)
            replace BG := BG.below hbx
            replace BM := BM.below hbx
            replace BR := BR.below hbx
            generalize hX : w1.heap.size = X at BX hs1 ⊢
            try rw [hX]
            generalize w1.alloc (.cells (dcY M d ⟨hp, s, th, x, ver⟩ 0 (.slice none 0 0) 0 false false) 84) = w2 at hB BM BG BR BX ⊢
            clear m0 m1 m2 m3 m4 g0 g1 g2 hbx hX
            have g0 : w2.cell? ⟨w.heap.size + 1, 0, none⟩ = some (.int .i64 s) := BG.at 0 rfl
            have g1 : w2.cell? ⟨w.heap.size + 1, 1, none⟩ = some (.int .i64 th) := BG.at 1 rfl
            have g2 : w2.cell? ⟨w.heap.size + 1, 2, none⟩ = some (.int .u64 x) := BG.at 2 rfl
            go_wp2_with fail
            refine (hm _ s0 s1 t0 t1 x0 x1).mono ?_
            rintro e w3 ⟨rfl, hb3⟩
            rw [hg.out]
            replace hB := below_push2 hB hb3 (Nat.le_refl _)
            replace BG := BG.below hb3
            replace BM := BM.below hb3
            replace BR := BR.below hb3
            replace BX := BX.below hb3
            clear g0 g1 g2 hb3 hm
            have m1 : w3.cell? ⟨w.heap.size, 1, none⟩ = some (.int .i64 M.T) := BM.at 1 rfl
            have g0 : w3.cell? ⟨w.heap.size + 1, 0, none⟩ = some (.int .i64 s) := BG.at 0 rfl
            have g1 : w3.cell? ⟨w.heap.size + 1, 1, none⟩ = some (.int .i64 th) := BG.at 1 rfl
            have x10 := BX.at 10 rfl
            have y10 := BX.free 10
            go_upto_region 6 with (fail)
            have BF := BX.set 10 (.int .i64 8)
            have F2 := (Fr.refl [X] w3).setb 10 (.int .i64 8)
            try simp only [List.setIfInBounds_toArray, List.set_cons_succ, List.set_cons_zero] at BF
            have BR2 := F2.blk BR (by simp; omega)
            have hB2 := F2.below hB (Nat.le_refl _) (by simp; omega)
            clear F2 BX BG BM BR hB m1 g0 g1 x10 y10
            go_wp2_with (first
              | (refine wpList_load_row rfl 84 _ rfl X rfl 84 _ (0, 0) _ BF.h Try.underlying84 rfl (by kernel_rfl) ?_)
              | (refine wpList_store_row rfl 84 _ _ rfl (w.heap.size + 2) _ rfl rfl 84 _ BR2.h (by kernel_rfl) (by rfl) (by kernel_rfl) ?_))
            rw [hK.out]
            refine bodyPost_ret (results_cell_row rfl _ _ (w.heap.size + 2) 84 (dcY M d ⟨hp, s, th, x, ver⟩ 8 (.slice none 0 0) 0 false false) (0, 0) _ rfl (Blk.row BR2 (dcY M d ⟨hp, s, th, x, ver⟩ 8 (.slice none 0 0) 0 false false)).h Try.underlying84 rfl (by kernel_rfl)) rfl ⟨rfl, below_setRow hB2 (by omega) _⟩
        · have q4 : decide ((M.T : Int) ≤ hp) = true := by simpa using h4
          have hK : Hid (at_ = 8) := by rw [hK, if_neg (by omega)]; exact rfl
          replace hg := Lib.hid hg
          clear h2 h3
          have hB : Below w.heap.size w (((w.alloc (.cells (dmX M d) 69)).alloc (.cells #[.int .i64 s, .int .i64 th, .int .u64 x] 79)).alloc (.cells dcZ 84)) := by (repeat (first | exact Below.refl _ _ | assumption | refine below_alloc2 ?_ (by first | exact Nat.le_refl _ | omega) _ | refine Below.drew ?_ | refine below_drewN ?_ _ | refine below_push2 ?_ ‹_› (by first | exact Nat.le_refl _ | omega) | refine Below.setCell ?_ (by first | (simp; done) | (simp; omega) | omega) _))
          have BM := ((Blk.new w (dmX M d) 69).alloc (.cells #[.int .i64 s, .int .i64 th, .int .u64 x] 79)).alloc (.cells dcZ 84)
          have BG : Blk (((w.alloc (.cells (dmX M d) 69)).alloc (.cells #[.int .i64 s, .int .i64 th, .int .u64 x] 79)).alloc (.cells dcZ 84)) (w.heap.size + 1) #[.int .i64 s, .int .i64 th, .int .u64 x] 79 := by
            have := (Blk.new (w.alloc (.cells (dmX M d) 69)) #[.int .i64 s, .int .i64 th, .int .u64 x] 79).alloc (.cells dcZ 84)
            simpa using this
          have BR : Blk (((w.alloc (.cells (dmX M d) 69)).alloc (.cells #[.int .i64 s, .int .i64 th, .int .u64 x] 79)).alloc (.cells dcZ 84)) (w.heap.size + 2) dcZ 84 := by
            have := Blk.new ((w.alloc (.cells (dmX M d) 69)).alloc (.cells #[.int .i64 s, .int .i64 th, .int .u64 x] 79)) dcZ 84
            simpa using this
          have hm := may_any s th x
          go_enter Try.func35, Try.ntmps35
          go_upto_region 1 with (fail)
          generalize (((w.alloc (.cells (dmX M d) 69)).alloc (.cells #[.int .i64 s, .int .i64 th, .int .u64 x] 79)).alloc (.cells dcZ 84)) = w1 at hB BM BG BR ⊢
          have hs1 : w.heap.size + 2 < w1.heap.size := BR.lt
          have m0 : w1.cell? ⟨w.heap.size, 0, none⟩ = some (.int .i64 M.A) := BM.at 0 rfl
          have m1 : w1.cell? ⟨w.heap.size, 1, none⟩ = some (.int .i64 M.T) := BM.at 1 rfl
          have m2 : w1.cell? ⟨w.heap.size, 2, none⟩ = some (.slice d.h1.a M.L.length d.h1.c) := BM.at 2 rfl
          have m3 : w1.cell? ⟨w.heap.size, 3, none⟩ = some (.slice d.h2.a M.B.length d.h2.c) := BM.at 3 rfl
          have m4 : w1.cell? ⟨w.heap.size, 4, none⟩ = some (.slice d.h3.a M.R.length d.h3.c) := BM.at 4 rfl
          have g0 : w1.cell? ⟨w.heap.size + 1, 0, none⟩ = some (.int .i64 s) := BG.at 0 rfl
          have g1 : w1.cell? ⟨w.heap.size + 1, 1, none⟩ = some (.int .i64 th) := BG.at 1 rfl
          have g2 : w1.cell? ⟨w.heap.size + 1, 2, none⟩ = some (.int .u64 x) := BG.at 2 rfl
          have hbx : Below w1.heap.size w1 (w1.alloc (.cells (dcY M d ⟨hp, s, th, x, ver⟩ 0 (.slice none 0 0) 0 false false) 84)) := (Below.refl _ w1).alloc (Nat.le_refl _) _
          have BX := Blk.new w1 (dcY M d ⟨hp, s, th, x, ver⟩ 0 (.slice none 0 0) 0 false false) 84
          go_upto_region 2 with (refine wpList_store_row rfl 84 _ _ rfl _ _ rfl rfl 84 _ (Blk.new w1 _ _).h (by kernel_rfl) (by rfl) (by kernel_rfl) ?_; rw [World.setRow_alloc_new])
          replace hB := below_push2 hB hbx (Nat.le_refl _)
          replace BG := BG.below hbx
          replace BM := BM.below hbx
          replace BR := BR.below hbx
          generalize hX : w1.heap.size = X at BX hs1 ⊢
          try rw [hX]
          generalize w1.alloc (.cells (dcY M d ⟨hp, s, th, x, ver⟩ 0 (.slice none 0 0) 0 false false) 84) = w2 at hB BM BG BR BX ⊢
          clear m0 m1 m2 m3 m4 g0 g1 g2 hbx hX
          have g0 : w2.cell? ⟨w.heap.size + 1, 0, none⟩ = some (.int .i64 s) := BG.at 0 rfl
          have g1 : w2.cell? ⟨w.heap.size + 1, 1, none⟩ = some (.int .i64 th) := BG.at 1 rfl
          have g2 : w2.cell? ⟨w.heap.size + 1, 2, none⟩ = some (.int .u64 x) := BG.at 2 rfl
          go_wp2_with fail
          refine (hm _ s0 s1 t0 t1 x0 x1).mono ?_
          rintro e w3 ⟨rfl, hb3⟩
          rw [hg.out]
          replace hB := below_push2 hB hb3 (Nat.le_refl _)
          replace BG := BG.below hb3
          replace BM := BM.below hb3
          replace BR := BR.below hb3
          replace BX := BX.below hb3
          clear g0 g1 g2 hb3 hm
          have m1 : w3.cell? ⟨w.heap.size, 1, none⟩ = some (.int .i64 M.T) := BM.at 1 rfl
          have g0 : w3.cell? ⟨w.heap.size + 1, 0, none⟩ = some (.int .i64 s) := BG.at 0 rfl
          have g1 : w3.cell? ⟨w.heap.size + 1, 1, none⟩ = some (.int .i64 th) := BG.at 1 rfl
          have x10 := BX.at 10 rfl
          have y10 := BX.free 10
          go_upto_region 6 with (fail)
          have BF := BX.set 10 (.int .i64 8)
          have F2 := (Fr.refl [X] w3).setb 10 (.int .i64 8)
          try simp only [List.setIfInBounds_toArray, List.set_cons_succ, List.set_cons_zero] at BF
          have BR2 := F2.blk BR (by simp; omega)
          have hB2 := F2.below hB (Nat.le_refl _) (by simp; omega)
          clear F2 BX BG BM BR hB m1 g0 g1 x10 y10
          go_wp2_with (first
            | (refine wpList_load_row rfl 84 _ rfl X rfl 84 _ (0, 0) _ BF.h Try.underlying84 rfl (by kernel_rfl) ?_)
            | (refine wpList_store_row rfl 84 _ _ rfl (w.heap.size + 2) _ rfl rfl 84 _ BR2.h (by kernel_rfl) (by rfl) (by kernel_rfl) ?_))
          rw [hK.out]
          refine bodyPost_ret (results_cell_row rfl _ _ (w.heap.size + 2) 84 (dcY M d ⟨hp, s, th, x, ver⟩ 8 (.slice none 0 0) 0 false false) (0, 0) _ rfl (Blk.row BR2 (dcY M d ⟨hp, s, th, x, ver⟩ 8 (.slice none 0 0) 0 false false)).h Try.underlying84 rfl (by kernel_rfl)) rfl ⟨rfl, below_setRow hB2 (by omega) _⟩
/-- the document's memory, as New makes it -/
theorem dm_as {A T : Nat} (a1 : Option Addr) (n1 c1 : Nat) (a2 : Option Addr) (n2 c2 : Nat) (a3 : Option Addr) (n3 c3 : Nat) : ∃ (M : MemV) (d : DH), M.A = A ∧ M.T = T ∧ dmemA A T a1 n1 c1 a2 n2 c2 a3 n3 c3 = dmX M d :=
  ⟨⟨A, T, List.replicate n1 (0, 0), List.replicate n2 blockZ, List.replicate n3 opZ⟩, ⟨⟨a1, c1⟩, ⟨a2, c2⟩, ⟨a3, c3⟩⟩, rfl, rfl, by simp [dmemA, dmX]⟩
end Go.Proofs.Ytpempcefgfmniaa.MemP

/-
  carry: the example of chapter 35 is true.
-/
namespace Go.Proofs.Ytpempcefgfmniaa.MemP
open Go.RowKit RefP CellP
set_option linter.unusedVariables false
set_option linter.unusedSimpArgs false
theorem exShut : (shutI 3 0 0 == 18446744073709551615) = false := by decide +kernel
theorem exHaz : decide (hazI 4 1 0 0 < 0) = false := by decide +kernel
theorem exDone : decide (atI 4 1 3 0 < 0) = false := by decide +kernel
set_option maxHeartbeats 1600000 in
theorem cnew_short {o oc g gb gr : Nat} {L : List (Int × Int)} {bs rs : List (List Value)} (w : World) (h : MemAt w o oc g gb gr 4 1 L bs rs) :
    Calls Try.prog 34 #[.pointer (some ⟨o, 0, none⟩), .int .i64 0, .agg #[.int .i64 3, .int .i64 0, .int .u64 0], .int .u64 1] w (CNew w (some ⟨o, 0, none⟩) 0 3 0 0 1 4) := by
  have hb2 : Below w.heap.size w ((w.alloc (.cells #[.int .i64 3, .int .i64 0, .int .u64 0] 82)).alloc (.cells (carT o 0 0 false) 100)) := by (repeat (first | exact Below.refl _ _ | assumption | refine below_alloc2 ?_ (by first | exact Nat.le_refl _ | omega) _ | refine Below.drew ?_ | refine below_drewN ?_ _ | refine below_push2 ?_ ‹_› (by first | exact Nat.le_refl _ | omega) | refine Below.setCell ?_ (by first | (simp; done) | (simp; omega) | omega) _))
  have BG := (Blk.new w #[.int .i64 3, .int .i64 0, .int .u64 0] 82).alloc (.cells (carT o 0 0 false) 100)
  have BT : Blk ((w.alloc (.cells #[.int .i64 3, .int .i64 0, .int .u64 0] 82)).alloc (.cells (carT o 0 0 false) 100)) (w.heap.size + 1) (carT o 0 0 false) 100 := by
    have := Blk.new (w.alloc (.cells #[.int .i64 3, .int .i64 0, .int .u64 0] 82)) (carT o 0 0 false) 100
    simpa using this
  have h2 := h.below hb2
  have q1 := exShut
  have q2 := exHaz
  have q3 := exDone
  generalize hS : shutI 3 0 0 = sv at q1
  go_enter Try.func34, Try.ntmps34
  go_wp2_with fail
  refine (shut_any 3 0 0 _ (by omega) (by omega) (by omega) (by omega) (by omega) (by omega)).mono ?_
  rw [hS]
  rintro e w1 ⟨rfl, hb1⟩
  have hB1 := below_push2 hb2 hb1 (Nat.le_refl _)
  replace BG := BG.below hb1
  replace BT := BT.below hb1
  replace h2 := h2.below hb1
  have g0 : w1.cell? ⟨w.heap.size, 0, none⟩ = some (.int .i64 3) := BG.at 0 rfl
  clear hb2 hb1 hS
  go_wp2_with fail
  refine (haz_any 0 0 _ h2).mono ?_
  rintro e w2 ⟨rfl, hb2⟩
  have hB2 := below_push2 hB1 hb2 (Nat.le_refl _)
  replace BG := BG.below hb2
  replace BT := BT.below hb2
  replace h2 := h2.below hb2
  clear g0 hb2 hB1
  have g1 : w2.cell? ⟨w.heap.size, 1, none⟩ = some (.int .i64 0) := BG.at 1 rfl
  go_wp2_with fail
  refine (done_any 0 _ h2 (by omega) (by omega)).mono ?_
  rintro e w3 ⟨rfl, hb3⟩
  have hB3 := below_push2 hB2 hb3 (Nat.le_refl _)
  replace BG := BG.below hb3
  replace BT := BT.below hb3
  clear g1 hb3 hB2
  have g0 : w3.cell? ⟨w.heap.size, 0, none⟩ = some (.int .i64 3) := BG.at 0 rfl
  have f6 := BT.free 6
  have c6 : w3.cell? ⟨w.heap.size + 1, 6, none⟩ = some (.int .i64 0) := BT.at 6 rfl
  go_wp2_with fail
  go_ret
  exact ⟨rfl, by simpa [carA] using BT.set 6 (.int .i64 4), hB3.setCell (by simp) _⟩
abbrev caL0 : List (Int × Int) := storeL (freshL 4 1 0) (gateI 4 1) (shutI 3 0 0)
abbrev caL1 : List (Int × Int) := casL caL0 (atI 4 1 3 0) 0 1
abbrev caL2 : List (Int × Int) := casL caL1 (gateI 4 1) 1 0
theorem ca1 : loadW caL0 (atI 4 1 3 0) = 0 := by decide +kernel
theorem ca2 : loadV caL0 (atI 4 1 3 0) = 0 := by decide +kernel
theorem ca3 : loadV caL0 (gateI 4 1) = 1 := by decide +kernel
theorem ca4 : casB caL0 (atI 4 1 3 0) 0 = true := by decide +kernel
theorem ca5 : casB caL1 (gateI 4 1) 1 = true := by decide +kernel
theorem ca6 : loadW caL2 (atI 4 1 3 0) = 1 := by decide +kernel
theorem ca7 : loadW caL2 (gateI 4 1) = 0 := by decide +kernel
theorem shut_rng : 0 ≤ shutI 3 0 0 ∧ shutI 3 0 0 ≤ 18446744073709551615 := by decide +kernel
/-- in a round -/
structure CaR (w0 : World) (base o oc g gb gr : Nat) (L : List (Int × Int)) (bs rs : List (List Value)) (t : Nat) (at_ : Int) (en : Bool) (wr : World) : Prop where
  b : Below w0.heap.size w0 wr
  m : MemB wr base o oc g gb gr 4 1 L bs rs
  c : Blk wr t (carT o at_ 0 en) 100
  ge : base ≤ t
  hs : base ≤ wr.heap.size
  h0 : w0.heap.size ≤ base
  lo : w0.heap.size ≤ o ∧ w0.heap.size ≤ oc ∧ w0.heap.size ≤ g ∧ w0.heap.size ≤ gb ∧ w0.heap.size ≤ gr
theorem CaR.under {w0 : World} {base o oc g gb gr : Nat} {L : List (Int × Int)} {bs rs : List (List Value)} {t : Nat} {at_ : Int} {en : Bool} {wr wx : World} (h : CaR w0 base o oc g gb gr L bs rs t at_ en wr) (hb : Below wr.heap.size wr wx) : CaR w0 base o oc g gb gr L bs rs t at_ en wx :=
  ⟨below_push2 h.b hb (Nat.le_refl _), h.m.under hb, h.c.below hb, h.ge, Nat.le_trans h.hs hb.size, h.h0, h.lo⟩
theorem CaR.told {w0 : World} {base o oc g gb gr : Nat} {L : List (Int × Int)} {bs rs : List (List Value)} {t : Nat} {at_ at' : Int} {en en' : Bool} {wr wx : World} (h : CaR w0 base o oc g gb gr L bs rs t at_ en wr) (hC : Blk wx t (carT o at' 0 en') 100) (hF : Fr [t] wr wx) : CaR w0 base o oc g gb gr L bs rs t at' en' wx := by
  have hl := h.m.lo
  have hg := h.ge
  have hh := h.h0
  exact ⟨hF.below h.b (Nat.le_refl _) (by simp; omega), ⟨h.m.m.off hF (by simp; omega), hl⟩, hC, hg, Nat.le_trans h.hs hF.size, hh, h.lo⟩
theorem CaR.did {w0 : World} {base o oc g gb gr : Nat} {L L' : List (Int × Int)} {bs bs' rs : List (List Value)} {t : Nat} {at_ : Int} {en : Bool} {wr wx : World} (h : CaR w0 base o oc g gb gr L bs rs t at_ en wr) (hM : MemAt wx o oc g gb gr 4 1 L' bs' rs) (hF : Fr [g, gb] wr wx) : CaR w0 base o oc g gb gr L' bs' rs t at_ en wx := by
  have hl := h.m.lo
  have hg := h.ge
  have hh := h.lo
  exact ⟨hF.below h.b (Nat.le_refl _) (by simp; omega), ⟨hM, hl⟩, hF.blk h.c (by simp; omega), hg, Nat.le_trans h.hs hF.size, h.h0, h.lo⟩
def CaSt (k : Nat) (n at_ : Int) (en : Bool) (L : List (Int × Int)) : Prop :=
  (k = 0 ∧ n = 0 ∧ at_ = 4 ∧ en = false ∧ L = caL0) ∨ (k = 1 ∧ n = 1 ∧ at_ = 5 ∧ en = false ∧ L = caL0) ∨ (k = 2 ∧ n = 2 ∧ at_ = 6 ∧ en = false ∧ L = caL0) ∨ (k = 3 ∧ n = 3 ∧ at_ = 7 ∧ en = false ∧ L = caL1) ∨ (4 ≤ k ∧ n = 4 ∧ at_ = 8 ∧ en = true ∧ L = caL2)
set_option maxRecDepth 100000 in
set_option maxHeartbeats 6400000 in
theorem carLives_any (w : World) : Calls Try.prog 33 #[] w fun e w' => e = .returned (.bool true) ∧ Below w.heap.size w w' := by
  have hsr := shut_rng
  go_enter Try.func33, Try.ntmps33
  go_wp2_with fail
  refine (mnew_yes 4 1 0 _ (by omega) (by omega) (by omega) (by omega) (by omega) (by omega)).mono ?_
  rintro e w1 ⟨o, oc, g, gb, gr, rfl, hM, hB, ho, hoc, hg, hgb, hgr⟩
  generalize ((List.replicate 4 zb).set 0 eb) = bs0 at hM
  generalize (List.replicate 1 zo) = rs at hM
  have hgl := hM.cells.rows.lt
  have hgbl := hM.blocks.lt
  have hb1 : Below w1.heap.size w1 ((w1.alloc (.cells #[.int .i64 3, .int .i64 0, .int .u64 0] 82)).drew) := ((Below.refl _ w1).alloc (Nat.le_refl _) _).drew
  have BG := (Blk.new w1 #[.int .i64 3, .int .i64 0, .int .u64 0] 82).drew
  replace hM := hM.below hb1
  replace hB := below_push2 hB hb1 (Nat.le_refl _)
  clear hb1
  have g0 := BG.at 0 rfl
  have g1 := BG.at 1 rfl
  have g2 := BG.at 2 rfl
  go_upto_region 3 with (fail)
  go_cut [] (fun wx => ∃ bs, MemAt wx o oc g gb gr 4 1 caL0 bs rs ∧ Below w.heap.size w wx ∧ Blk wx w1.heap.size #[.int .i64 3, .int .i64 0, .int .u64 0] 82)
  case first =>
    go_region_with (first
      | (go_at_call 18; refine (gate_any _ hM).mono ?_; rintro e wx ⟨rfl, hbx⟩; replace hM := hM.below hbx; replace BG := BG.below hbx; replace hB := below_push2 hB hbx (Nat.le_refl _); have g0 := BG.at 0 rfl; have g1 := BG.at 1 rfl; have g2 := BG.at 2 rfl; clear hbx)
      | (go_at_call 44; refine (shut_any 3 0 0 _ (by omega) (by omega) (by omega) (by omega) (by omega) (by omega)).mono ?_; rintro e wx ⟨rfl, hbx⟩; replace hM := hM.below hbx; replace BG := BG.below hbx; replace hB := below_push2 hB hbx (Nat.le_refl _); have g0 := BG.at 0 rfl; have g1 := BG.at 1 rfl; have g2 := BG.at 2 rfl; clear hbx)
      | (go_at_call 12; refine (do_store (gateI 4 1) 0 (shutI 3 0 0) _ _ _ _ _ _ _ _ _ _ _ _ _ _ _ _ _ _ _ _ _ _ _ hM hsr.1 hsr.2).mono ?_; rintro e wy ⟨rfl, hM5, hF5⟩))
    all_goals
      go_wp2_with fail
      go_meet
      exact ⟨_, hM5, hF5.below hB (Nat.le_refl _) (by simp; omega), hF5.blk BG (by simp; omega)⟩
  case rest =>
    obtain ⟨bs, hM5, hB5, BG5⟩ := hcut
    have g0 := BG5.at 0 rfl
    have g1 := BG5.at 1 rfl
    have g2 := BG5.at 2 rfl
    clear hB BG hM
    go_wp2_with fail
    refine (cnew_short _ hM5).mono ?_
    rintro e w6 ⟨rfl, hC, hb6⟩
    have R0 : CaR w wc.heap.size o oc g gb gr caL0 bs rs (wc.heap.size + 1) 4 false w6 :=
      ⟨below_push2 hB5 hb6 (Nat.le_refl _), ⟨hM5.below hb6, ⟨hM5.head.lt, hM5.cells.head.lt, hM5.cells.rows.lt, hM5.blocks.lt, hM5.records.lt⟩⟩, hC, by omega, hb6.size, hB5.size, ⟨ho, hoc, hg, hgb, hgr⟩⟩
    generalize wc.heap.size + 1 = t at R0 ⊢
    generalize wc.heap.size = base at R0
    clear hM5 hB5 BG5 hC hb6 g0 g1 g2 hgl hgbl
    go_wp2_with fail
    go_loopw [4, 25] (fun u4 i wr => ∃ k : Nat, ∃ n at_ en L bs, k ≤ 9 ∧ i = .int .i64 k ∧ u4 = .int .i64 n ∧ CaSt k n at_ en L ∧ CaR w base o oc g gb gr L bs rs t at_ en wr) (fun _ i _ => 9 - (intOf i).toNat)
    case atStart => exact ⟨0, 0, 4, false, caL0, bs, Nat.zero_le _, rfl, rfl, .inl ⟨rfl, rfl, rfl, rfl, rfl⟩, R0⟩
    case round =>
      clear R0
      obtain ⟨k, n, at_, en, L, bs, hk, rfl, rfl, hst, R⟩ := hrel
      by_cases hlt : k < 9
      · rcases hst with ⟨rfl, rfl, rfl, rfl, rfl⟩ | ⟨rfl, rfl, rfl, rfl, rfl⟩ | ⟨rfl, rfl, rfl, rfl, rfl⟩ | ⟨rfl, rfl, rfl, rfl, rfl⟩ | ⟨hk4, rfl, rfl, rfl, rfl⟩
        · go_wp2_with fail
          refine (cNext_4 t _ R.m.m _ _ R.c).mono ?_
          rintro e w2 ⟨rfl, hb2⟩
          have R3 := (R.under hb2).under ((Below.refl _ w2).alloc (Nat.le_refl _) (.cells (accY 1 (atI 4 1 3 0) 0 0) 39))
          have BA := Blk.new w2 (accY 1 (atI 4 1 3 0) 0 0) 39
          generalize hW : w2.alloc (.cells (accY 1 (atI 4 1 3 0) 0 0) 39) = w3 at R3 BA
          replace hW := Lib.hid hW
          clear R hb2
          go_wp2_with (first
            | (refine wpList_store_row rfl 39 _ _ rfl _ _ rfl rfl 39 _ (Blk.new w2 _ _).h (by kernel_rfl) (by rfl) (by kernel_rfl) ?_; rw [World.setRow_alloc_new, hW.out])
            | (refine wpList_load_row rfl 39 _ rfl w2.heap.size rfl 39 _ (0, 0) _ BA.h Try.underlying39 rfl (by kernel_rfl) ?_))
          refine (do_load (atI 4 1 3 0) 0 0 _ _ _ _ _ _ _ _ _ _ _ _ _ _ _ _ _ _ _ _ _ _ _ R3.m.m).mono ?_
          rw [ca1, ca2]
          rintro e w4 ⟨rfl, hb4⟩
          have R4 := R3.under hb4
          clear R3 BA hb4 hW
          go_wp2_with fail
          refine (cTell_4 t _ R4.m.m _ _ _ _ R4.c).mono ?_
          rintro e w5 ⟨rfl, hC5, hF5⟩
          have R5 := R4.told hC5 hF5
          clear R4 hC5 hF5
          go_wp2_with fail
          go_roundw
          case rel => exact ⟨1, _, _, _, _, _, by omega, by go_num, rfl, .inr (.inl ⟨rfl, rfl, rfl, rfl, rfl⟩), R5⟩
          case measure => simp [intOf]
        · go_wp2_with fail
          refine (cNext_5 t _ R.m.m _ _ R.c).mono ?_
          rintro e w2 ⟨rfl, hb2⟩
          have R3 := (R.under hb2).under ((Below.refl _ w2).alloc (Nat.le_refl _) (.cells (accY 1 (gateI 4 1) 0 0) 39))
          have BA := Blk.new w2 (accY 1 (gateI 4 1) 0 0) 39
          generalize hW : w2.alloc (.cells (accY 1 (gateI 4 1) 0 0) 39) = w3 at R3 BA
          replace hW := Lib.hid hW
          clear R hb2
          go_wp2_with (first
            | (refine wpList_store_row rfl 39 _ _ rfl _ _ rfl rfl 39 _ (Blk.new w2 _ _).h (by kernel_rfl) (by rfl) (by kernel_rfl) ?_; rw [World.setRow_alloc_new, hW.out])
            | (refine wpList_load_row rfl 39 _ rfl w2.heap.size rfl 39 _ (0, 0) _ BA.h Try.underlying39 rfl (by kernel_rfl) ?_))
          refine (do_load (gateI 4 1) 0 0 _ _ _ _ _ _ _ _ _ _ _ _ _ _ _ _ _ _ _ _ _ _ _ R3.m.m).mono ?_
          rw [ca3]
          rintro e w4 ⟨rfl, hb4⟩
          have R4 := R3.under hb4
          clear R3 BA hb4 hW
          go_wp2_with fail
          refine (cTell_5 t _ R4.m.m _ _ _ _ R4.c).mono ?_
          rintro e w5 ⟨rfl, hC5, hF5⟩
          have R5 := R4.told hC5 hF5
          clear R4 hC5 hF5
          go_wp2_with fail
          go_roundw
          case rel => exact ⟨2, _, _, _, _, _, by omega, by go_num, rfl, .inr (.inr (.inl ⟨rfl, rfl, rfl, rfl, rfl⟩)), R5⟩
          case measure => simp [intOf]
        · go_wp2_with fail
          refine (cNext_6 t _ R.m.m _ _ R.c).mono ?_
          rintro e w2 ⟨rfl, hb2⟩
          have R3 := (R.under hb2).under ((Below.refl _ w2).alloc (Nat.le_refl _) (.cells (accY 3 (atI 4 1 3 0) 0 1) 39))
          have BA := Blk.new w2 (accY 3 (atI 4 1 3 0) 0 1) 39
          generalize hW : w2.alloc (.cells (accY 3 (atI 4 1 3 0) 0 1) 39) = w3 at R3 BA
          replace hW := Lib.hid hW
          clear R hb2
          go_wp2_with (first
            | (refine wpList_store_row rfl 39 _ _ rfl _ _ rfl rfl 39 _ (Blk.new w2 _ _).h (by kernel_rfl) (by rfl) (by kernel_rfl) ?_; rw [World.setRow_alloc_new, hW.out])
            | (refine wpList_load_row rfl 39 _ rfl w2.heap.size rfl 39 _ (0, 0) _ BA.h Try.underlying39 rfl (by kernel_rfl) ?_))
          refine (do_cas (atI 4 1 3 0) 0 1 _ _ _ _ _ _ _ _ _ _ _ _ _ _ _ _ _ _ _ _ _ _ _ R3.m.m (by omega) (by omega) (by omega) (by omega)).mono ?_
          rw [ca4]
          rintro e w4 ⟨rfl, hM4, hF4⟩
          have R4 := R3.did hM4 hF4
          clear R3 BA hM4 hF4 hW
          go_wp2_with fail
          refine (cTell_6 t _ R4.m.m _ _ _ _ _ R4.c).mono ?_
          rintro e w5 ⟨rfl, hC5, hF5⟩
          have R5 := R4.told hC5 hF5
          clear R4 hC5 hF5
          go_wp2_with fail
          go_roundw
          case rel => exact ⟨3, _, _, _, _, _, by omega, by go_num, rfl, .inr (.inr (.inr (.inl ⟨rfl, rfl, rfl, rfl, rfl⟩))), R5⟩
          case measure => simp [intOf]
        · go_wp2_with fail
          refine (cNext_7 t _ R.m.m _ _ R.c).mono ?_
          rintro e w2 ⟨rfl, hb2⟩
          have R3 := (R.under hb2).under ((Below.refl _ w2).alloc (Nat.le_refl _) (.cells (accY 3 (gateI 4 1) 1 0) 39))
          have BA := Blk.new w2 (accY 3 (gateI 4 1) 1 0) 39
          generalize hW : w2.alloc (.cells (accY 3 (gateI 4 1) 1 0) 39) = w3 at R3 BA
          replace hW := Lib.hid hW
          clear R hb2
          go_wp2_with (first
            | (refine wpList_store_row rfl 39 _ _ rfl _ _ rfl rfl 39 _ (Blk.new w2 _ _).h (by kernel_rfl) (by rfl) (by kernel_rfl) ?_; rw [World.setRow_alloc_new, hW.out])
            | (refine wpList_load_row rfl 39 _ rfl w2.heap.size rfl 39 _ (0, 0) _ BA.h Try.underlying39 rfl (by kernel_rfl) ?_))
          refine (do_cas (gateI 4 1) 1 0 _ _ _ _ _ _ _ _ _ _ _ _ _ _ _ _ _ _ _ _ _ _ _ R3.m.m (by omega) (by omega) (by omega) (by omega)).mono ?_
          rw [ca5]
          rintro e w4 ⟨rfl, hM4, hF4⟩
          have R4 := R3.did hM4 hF4
          clear R3 BA hM4 hF4 hW
          go_wp2_with fail
          refine (cTell_7 t _ R4.m.m _ _ _ _ _ R4.c).mono ?_
          rintro e w5 ⟨rfl, hC5, hF5⟩
          have R5 := R4.told hC5 hF5
          clear R4 hC5 hF5
          go_wp2_with fail
          go_roundw
          case rel => exact ⟨4, _, _, _, _, _, by omega, by go_num, rfl, .inr (.inr (.inr (.inr ⟨by omega, rfl, rfl, rfl, rfl⟩))), R5⟩
          case measure => simp [intOf]
        · have hN : NoCar _ t true := ⟨_, _, _, _, _, _, _, _, _, R.c, .inr ⟨rfl, _, _, _, _, _, _, _, _, _, _, rfl, R.m.m⟩⟩
          go_wp2_with fail
          refine (cNext_no t true _ hN).mono ?_
          rintro e w2 ⟨rfl, hb2⟩
          have R3 := (R.under hb2).under ((Below.refl _ w2).alloc (Nat.le_refl _) (.cells (accY 0 0 0 0) 39))
          generalize hW : w2.alloc (.cells (accY 0 0 0 0) 39) = w3 at R3
          replace hW := Lib.hid hW
          clear R hb2 hN
          go_wp2_with (refine wpList_store_row rfl 39 _ _ rfl _ _ rfl rfl 39 _ (Blk.new w2 _ _).h (by kernel_rfl) (by rfl) (by kernel_rfl) ?_; rw [World.setRow_alloc_new, hW.out])
          go_roundw
          case rel => exact ⟨k + 1, _, _, _, _, _, by omega, by go_num, rfl, .inr (.inr (.inr (.inr ⟨by omega, rfl, rfl, rfl, rfl⟩))), R3⟩
          case measure => simp [intOf]; omega
      · obtain rfl : k = 9 := by omega
        rcases hst with ⟨h, _⟩ | ⟨h, _⟩ | ⟨h, _⟩ | ⟨h, _⟩ | ⟨hk4, rfl, rfl, rfl, rfl⟩
        · omega
        · omega
        · omega
        · omega
        have hB := R.b
        have hM := R.m.m
        have hC := R.c
        clear R
        go_wp2_with fail
        refine (done_any 0 _ hM (by omega) (by omega)).mono ?_
        try rw [ca6]
        rintro e wx ⟨rfl, hbx⟩
        replace hM := hM.below hbx
        replace hC := hC.below hbx
        replace hB := below_push2 hB hbx (Nat.le_refl _)
        clear hbx
        go_wp2_with fail
        refine (mload_any _ _ hM).mono ?_
        try rw [ca6]
        rintro e wx ⟨rfl, hbx⟩
        replace hM := hM.below hbx
        replace hC := hC.below hbx
        replace hB := below_push2 hB hbx (Nat.le_refl _)
        clear hbx
        go_wp2_with fail
        refine (gate_any _ hM).mono ?_
        try rw [ca6]
        rintro e wx ⟨rfl, hbx⟩
        replace hM := hM.below hbx
        replace hC := hC.below hbx
        replace hB := below_push2 hB hbx (Nat.le_refl _)
        clear hbx
        go_wp2_with fail
        refine (mload_any _ _ hM).mono ?_
        try rw [ca7]
        rintro e wx ⟨rfl, hbx⟩
        replace hM := hM.below hbx
        replace hC := hC.below hbx
        replace hB := below_push2 hB hbx (Nat.le_refl _)
        clear hbx
        go_wp2_with fail
        refine (cEnded_any t _ _ _ _ _ _ _ _ _ _ _ _ hC).mono ?_
        rintro e wx ⟨rfl, rfl⟩
        go_wp2_with fail
        go_ret
        exact ⟨rfl, hB⟩
end Go.Proofs.Ytpempcefgfmniaa.MemP

/-
  read: New, none, Next: contracts.
-/
namespace Go.Proofs.Ytpempcefgfmniaa.MemP
open Go.RowKit RefP CellP
set_option linter.unusedVariables false
set_option linter.unusedSimpArgs false
theorem quiet_of_x {P : Program} {f : Nat} {args : Array Value} {w0 : World} {n : Nat} {v : Value} (h : Calls P f args (w0.drewN n) fun e w' => e = .returned v ∧ ∃ k, w' = (w0.drewN n).drewN k) : Calls P f args (w0.drewN n) fun e w'' => e = .returned v ∧ ∃ m, w'' = w0.drewN m :=
  h.mono fun e w'' h => by
    obtain ⟨he, k, hk⟩ := h
    exact ⟨he, n + k, by rw [hk, World.drewN_drewN]⟩
set_option maxHeartbeats 1600000 in
theorem at_nilx (r i : Int) (w : World) : Calls Try.prog 52 #[.pointer none, .int .i64 r, .int .i64 i] w fun e w' => e = .returned (.int .i64 (-1)) ∧ ∃ n, w' = w.drewN n := by
  go_enter Try.func52, Try.ntmps52
  go_wp2_with fail
  go_quiet (exact Calls.quiet_of_same ((none_nil _).flip))
  go_wp2_with fail
  go_ret
  exact ⟨rfl, _, rfl⟩
set_option maxHeartbeats 800000 in
theorem node_nilx (i : Int) (w : World) : Calls Try.prog 22 #[.pointer none, .int .i64 i] w fun e w' => e = .returned (.int .i64 (-1)) ∧ ∃ n, w' = w.drewN n := by
  go_enter Try.func22, Try.ntmps22
  go_wp2_with fail
  refine (at_nilx _ i _).mono ?_
  rintro e w1 ⟨rfl, n, rfl⟩
  go_wp2_with fail
  go_ret
  exact ⟨rfl, _, rfl⟩
set_option maxHeartbeats 1600000 in
theorem haz_x {o oc g gb gr A T : Nat} {L : List (Int × Int)} {bs rs : List (List Value)} (t : Int) (w : World) (h : MemAt w o oc g gb gr A T L bs rs) (t0 : 0 ≤ t) (t1 : t < T) :
    Calls Try.prog 19 #[.pointer (some ⟨o, 0, none⟩), .int .i64 t, .int .i64 1] w fun e w' => e = .returned (.int .i64 (hazI A T t 1)) ∧ ∃ n, w' = w.drewN n := by
  have hT := h.t1
  have q3 : decide (t < 0) = false := by simp; omega
  have q4 : decide ((T : Int) ≤ t) = false := by simp; omega
  have hy := Lib.hid (hazI_yes (A := A) (show 0 ≤ (1 : Int) ∧ (1 : Int) < 2 ∧ 0 ≤ t ∧ t < (T : Int) by omega))
  have hw1 : IntKind.i64.wrap (t * 2) = t * 2 := by rw [IntKind.wrap_i64]; omega
  have hw2 : IntKind.i64.wrap (t * 2 + 1) = t * 2 + 1 := by rw [IntKind.wrap_i64]; omega
  go_enter Try.func19, Try.ntmps19
  go_wp2_with fail
  refine (threads_any _ h).mono ?_
  rintro e w1 ⟨rfl, rfl⟩
  go_wp2_with fail
  refine (atx_5 (t * 2 + 1) _ h (by omega) (by omega)).mono ?_
  rw [hy.out]
  rintro e w1 ⟨rfl, n, rfl⟩
  go_wp2_with fail
  go_ret
  exact ⟨rfl, _, rfl⟩
abbrev rdA (m : Option Addr) (th at_ st : Int) (su : Bool) (cell word ver : Int) (n0 n1 n2 n3 n4 n5 n6 n7 : Value) : Array Value := #[.pointer m, .int .i64 th, .int .i64 at_, .int .i64 st, .bool su, .int .i64 cell, .int .u64 word, .int .u64 ver, n0, n1, n2, n3, n4, n5, n6, n7]
theorem atI0_pos {A T : Nat} {i : Int} (h0 : 0 ≤ i) (h1 : i < A) : decide (atI A T 0 i < 0) = false := by
  rw [atI_yes h0 (by simp [sizeI]; omega)]
  simp [fromI]; omega
theorem hazI_pos {A T : Nat} {t : Int} (h0 : 0 ≤ t) (h1 : t < T) : decide (hazI A T t 1 < 0) = false := by
  rw [← hazI_yes (A := A) (show 0 ≤ (1 : Int) ∧ (1 : Int) < 2 ∧ 0 ≤ t ∧ t < (T : Int) by omega), atI_yes (by omega) (by simp [sizeI]; omega)]
  simp [fromI]; omega
end Go.Proofs.Ytpempcefgfmniaa.MemP

/-
  read: Tell, State, Known, Sure: contracts.
-/
namespace Go.Proofs.Ytpempcefgfmniaa.MemP
open Go.RowKit RefP CellP
set_option linter.unusedVariables false
set_option linter.unusedSimpArgs false
/-- what is known: a cell, a word, a version, a node -/
abbrev knA (cell word ver : Int) (n0 n1 n2 n3 n4 n5 n6 n7 : Value) : Array Value := #[.int .i64 cell, .int .u64 word, .int .u64 ver, n0, n1, n2, n3, n4, n5, n6, n7]
end Go.Proofs.Ytpempcefgfmniaa.MemP

/-
  The first block is got by an access: contract.
-/
namespace Go.Proofs.Ytpempcefgfmniaa.MemP
open Go.RowKit RefP CellP
set_option linter.unusedVariables false
set_option linter.unusedSimpArgs false
abbrev repB (k v d : Value) : Array Value := #[.bool true, .int .u64 0, .int .u64 0, .int .i64 1, .int .i64 0, .string ⟨#[]⟩, .string ⟨#[]⟩, .bool true, .int .i64 (-1), k, v, d, .int .i64 0, .int .i64 0, .string ⟨#[]⟩, .int .u64 0, nlV, nlV, nlV, nlV, .int .i64 0, .string ⟨#[]⟩, .string ⟨#[]⟩, .int .u64 0, .int .i64 0]
abbrev repF (k v d : Value) : Array Value := #[.bool false, .int .u64 0, .int .u64 0, .int .i64 1, .int .i64 0, .string ⟨#[]⟩, .string ⟨#[]⟩, .bool true, .int .i64 (-1), k, v, d, .int .i64 0, .int .i64 0, .string ⟨#[]⟩, .int .u64 0, nlV, nlV, nlV, nlV, .int .i64 0, .string ⟨#[]⟩, .string ⟨#[]⟩, .int .u64 0, .int .i64 0]
theorem setsA_rep (k v d : Value) : setsA #[.bool false, .int .u64 0, .int .u64 0, .int .i64 0, .int .i64 0, .string ⟨#[]⟩, .string ⟨#[]⟩, .bool false, .int .i64 0, .slice none 0 0, .slice none 0 0, .slice none 0 0, .int .i64 0, .int .i64 0, .string ⟨#[]⟩, .int .u64 0, .slice none 0 0, .slice none 0 0, .slice none 0 0, .slice none 0 0, .int .i64 0, .string ⟨#[]⟩, .string ⟨#[]⟩, .int .u64 0, .int .i64 0] 3 (bkA k v d).toList = repF k v d := by
  simp [setsA, bkA, repF]
set_option maxRecDepth 100000 in
set_option maxHeartbeats 3200000 in
theorem do_get_first {o oc g gb gr A T : Nat} {L : List (Int × Int)} {bs rs : List (List Value)} (w : World) (h : MemAt w o oc g gb gr A T L bs rs) (hu : loadW L (atI A T 1 0) = useI 1 1) (h0 : bs.getD 0 [] = eb) :
    Calls Try.prog 12 #[.pointer (some ⟨o, 0, none⟩), .agg (accY 4 0 0 16385)] w fun e w' => (∃ b1 b2 b3, e = .returned (.agg (repB (e0V b1) (e0V b2) (e0V b3)))) ∧ Below w.heap.size w w' := by
  have hb2 : Below w.heap.size w ((w.alloc (.cells (accY 4 0 0 16385) 39)).alloc (.cells #[.bool false, .int .u64 0, .int .u64 0, .int .i64 0, .int .i64 0, .string ⟨#[]⟩, .string ⟨#[]⟩, .bool false, .int .i64 0, .slice none 0 0, .slice none 0 0, .slice none 0 0, .int .i64 0, .int .i64 0, .string ⟨#[]⟩, .int .u64 0, .slice none 0 0, .slice none 0 0, .slice none 0 0, .slice none 0 0, .int .i64 0, .string ⟨#[]⟩, .string ⟨#[]⟩, .int .u64 0, .int .i64 0] 50)) := by (repeat (first | exact Below.refl _ _ | assumption | refine below_alloc2 ?_ (by first | exact Nat.le_refl _ | omega) _ | refine Below.drew ?_ | refine below_drewN ?_ _ | refine below_push2 ?_ ‹_› (by first | exact Nat.le_refl _ | omega) | refine Below.setCell ?_ (by first | (simp; done) | (simp; omega) | omega) _))
  have BX := (Blk.new w (accY 4 0 0 16385) 39).alloc (.cells #[.bool false, .int .u64 0, .int .u64 0, .int .i64 0, .int .i64 0, .string ⟨#[]⟩, .string ⟨#[]⟩, .bool false, .int .i64 0, .slice none 0 0, .slice none 0 0, .slice none 0 0, .int .i64 0, .int .i64 0, .string ⟨#[]⟩, .int .u64 0, .slice none 0 0, .slice none 0 0, .slice none 0 0, .slice none 0 0, .int .i64 0, .string ⟨#[]⟩, .string ⟨#[]⟩, .int .u64 0, .int .i64 0] 50)
  have BR : Blk ((w.alloc (.cells (accY 4 0 0 16385) 39)).alloc (.cells #[.bool false, .int .u64 0, .int .u64 0, .int .i64 0, .int .i64 0, .string ⟨#[]⟩, .string ⟨#[]⟩, .bool false, .int .i64 0, .slice none 0 0, .slice none 0 0, .slice none 0 0, .int .i64 0, .int .i64 0, .string ⟨#[]⟩, .int .u64 0, .slice none 0 0, .slice none 0 0, .slice none 0 0, .slice none 0 0, .int .i64 0, .string ⟨#[]⟩, .string ⟨#[]⟩, .int .u64 0, .int .i64 0] 50)) (w.heap.size + 1) #[.bool false, .int .u64 0, .int .u64 0, .int .i64 0, .int .i64 0, .string ⟨#[]⟩, .string ⟨#[]⟩, .bool false, .int .i64 0, .slice none 0 0, .slice none 0 0, .slice none 0 0, .int .i64 0, .int .i64 0, .string ⟨#[]⟩, .int .u64 0, .slice none 0 0, .slice none 0 0, .slice none 0 0, .slice none 0 0, .int .i64 0, .string ⟨#[]⟩, .string ⟨#[]⟩, .int .u64 0, .int .i64 0] 50 := by
    have := Blk.new (w.alloc (.cells (accY 4 0 0 16385) 39)) #[.bool false, .int .u64 0, .int .u64 0, .int .i64 0, .int .i64 0, .string ⟨#[]⟩, .string ⟨#[]⟩, .bool false, .int .i64 0, .slice none 0 0, .slice none 0 0, .slice none 0 0, .int .i64 0, .int .i64 0, .string ⟨#[]⟩, .int .u64 0, .slice none 0 0, .slice none 0 0, .slice none 0 0, .slice none 0 0, .int .i64 0, .string ⟨#[]⟩, .string ⟨#[]⟩, .int .u64 0, .int .i64 0] 50
    simpa using this
  have h2 := h.below hb2
  go_enter Try.func12, Try.ntmps12
  go_wp2_with fail
  generalize ((w.alloc (.cells (accY 4 0 0 16385) 39)).alloc (.cells #[.bool false, .int .u64 0, .int .u64 0, .int .i64 0, .int .i64 0, .string ⟨#[]⟩, .string ⟨#[]⟩, .bool false, .int .i64 0, .slice none 0 0, .slice none 0 0, .slice none 0 0, .int .i64 0, .int .i64 0, .string ⟨#[]⟩, .int .u64 0, .slice none 0 0, .slice none 0 0, .slice none 0 0, .slice none 0 0, .int .i64 0, .string ⟨#[]⟩, .string ⟨#[]⟩, .int .u64 0, .int .i64 0] 50)) = wq at hb2 h2 BX BR ⊢
  refine (none_any _ h2).mono ?_
  rintro e w1 ⟨rfl, rfl⟩
  have b0 := BX.at 0 rfl
  have b3 := BX.at 3 rfl
  go_wp2_with fail
  refine (block_first _ h2 hu h0).mono ?_
  rintro e w3 ⟨⟨b1, b2, b3, rfl⟩, hb3⟩
  have hB3 := below_push2 hb2 hb3 (Nat.le_refl _)
  have BR3 := BR.below hb3
  clear h2 BX BR b0 hb2 hb3
  have hth := there_blk (o := 3) (n := 17) BR3 (by decide)
  have BF := blk_sets (bkA (e0V b1) (e0V b2) (e0V b3)).toList 3 _ _ BR3
  rw [setsA_rep] at BF
  have hBF := below_sets (b := w.heap.size + 1) (by omega) (bkA (e0V b1) (e0V b2) (e0V b3)).toList 3 _ hB3
  generalize hX : w3.setCells (w.heap.size + 1) 3 (bkA (e0V b1) (e0V b2) (e0V b3)).toList = wx at BF hBF
  replace hX := Lib.hid hX
  have f0 := BF.free 0
  have c0 := BF.at 0 rfl
  have BG := BF.set 0 (.bool true)
  simp only [List.setIfInBounds_toArray, List.set_cons_zero] at BG
  go_wp2_with (first
    | (refine wpList_store_mid rfl 35 _ _ rfl (w.heap.size + 1) 3 (bkA (e0V b1) (e0V b2) (e0V b3)) rfl rfl hth (by kernel_rfl) (by kernel_rfl) ?_; rw [hX.out])
    | (refine wpList_load_row rfl 50 _ rfl (w.heap.size + 1) rfl 50 _ (0, 0) _ BG.h Try.underlying50 rfl (by kernel_rfl) ?_)
    | (refine wpList_store_row rfl 50 _ _ rfl (w.heap.size + 1) _ rfl rfl 50 _ BG.h (by kernel_rfl) (by rfl) (by kernel_rfl) ?_))
  refine bodyPost_ret (results_cell_row rfl _ _ (w.heap.size + 1) 50 (repB (e0V b1) (e0V b2) (e0V b3)) (0, 0) _ rfl (Blk.row BG (repB (e0V b1) (e0V b2) (e0V b3))).h Try.underlying50 rfl (by kernel_rfl)) rfl ⟨⟨b1, b2, b3, rfl⟩, below_setRow (hBF.setCell (by show w.heap.size ≤ w.heap.size + 1; omega) _) (by omega) _⟩
end Go.Proofs.Ytpempcefgfmniaa.MemP

/-
  read: Tell in each state; the first block is got: contracts.
-/
namespace Go.Proofs.Ytpempcefgfmniaa.MemP
open Go.RowKit RefP CellP
set_option linter.unusedVariables false
set_option linter.unusedSimpArgs false
end Go.Proofs.Ytpempcefgfmniaa.MemP

/-
  read: what is known; the example of chapter 30 is true.
-/
namespace Go.Proofs.Ytpempcefgfmniaa.MemP
open Go.RowKit RefP CellP
set_option linter.unusedVariables false
set_option linter.unusedSimpArgs false
theorem lt11 {j : Nat} (h : j < 11) : j = 0 ∨ j = 1 ∨ j = 2 ∨ j = 3 ∨ j = 4 ∨ j = 5 ∨ j = 6 ∨ j = 7 ∨ j = 8 ∨ j = 9 ∨ j = 10 := by omega
abbrev rdL0 : List (Int × Int) := freshL 4 1 0
abbrev rdL1 : List (Int × Int) := storeL rdL0 (hazI 4 1 0 1) 16385
theorem rd1 : loadW rdL0 (atI 4 1 0 0) = 16385 := by decide +kernel
theorem rd2 : loadV rdL0 (atI 4 1 0 0) = 0 := by decide +kernel
theorem rd3 : opensB 16385 = true := by decide +kernel
theorem rd4 : loadV rdL1 (atI 4 1 0 0) = 0 := by decide +kernel
theorem rd5 : loadW rdL1 (atI 4 1 1 0) = useI 1 1 := by decide +kernel
theorem rd6 (bs : List (List Value)) : storeB rdL0 bs 4 (hazI 4 1 0 1) = bs := by
  unfold storeB clearL
  rw [if_neg (show ¬ (((4 : Nat) : Int) ≤ hazI 4 1 0 1 ∧ hazI 4 1 0 1 < 2 * ((4 : Nat) : Int)) by decide +kernel)]
  split <;> rfl
def RdSt (k : Nat) (o : Nat) (L : List (Int × Int)) (C : Array Value) : Prop :=
  (k = 0 ∧ L = rdL0 ∧ C = rdA (some ⟨o, 0, none⟩) 0 0 0 false 0 0 0 (.int .i64 0) (.string ⟨#[]⟩) (.string ⟨#[]⟩) (.bool false) (.int .i64 0) (.slice none 0 0) (.slice none 0 0) (.slice none 0 0)) ∨
  (k = 1 ∧ L = rdL0 ∧ C = rdA (some ⟨o, 0, none⟩) 0 1 0 false 0 16385 0 (.int .i64 0) (.string ⟨#[]⟩) (.string ⟨#[]⟩) (.bool false) (.int .i64 0) (.slice none 0 0) (.slice none 0 0) (.slice none 0 0)) ∨
  (k = 2 ∧ L = rdL1 ∧ C = rdA (some ⟨o, 0, none⟩) 0 2 0 false 0 16385 0 (.int .i64 0) (.string ⟨#[]⟩) (.string ⟨#[]⟩) (.bool false) (.int .i64 0) (.slice none 0 0) (.slice none 0 0) (.slice none 0 0)) ∨
  (k = 3 ∧ L = rdL1 ∧ C = rdA (some ⟨o, 0, none⟩) 0 3 0 true 0 16385 0 (.int .i64 0) (.string ⟨#[]⟩) (.string ⟨#[]⟩) (.bool false) (.int .i64 0) (.slice none 0 0) (.slice none 0 0) (.slice none 0 0)) ∨
  (k = 4 ∧ L = rdL1 ∧ ∃ b1 b2 b3, C = rdA (some ⟨o, 0, none⟩) 0 4 4 false 0 16385 0 (.int .i64 0) (.string ⟨#[]⟩) (.string ⟨#[]⟩) (.bool true) (.int .i64 (-1)) (e0V b1) (e0V b2) (e0V b3))
end Go.Proofs.Ytpempcefgfmniaa.MemP

/-
  read: Next, Tell, Known in any state, with any reply: contracts.
-/
namespace Go.Proofs.Ytpempcefgfmniaa.MemP
open Go.RowKit RefP CellP Dp
set_option linter.unusedVariables false
set_option linter.unusedSimpArgs false
end Go.Proofs.Ytpempcefgfmniaa.MemP

/-
  The types of package api, opened: what a law's arguments of these types are.
-/
namespace Go.Proofs.Ytpempcefgfmniaa.Dp
open Go.RowKit RefP
set_option linter.unusedVariables false
set_option linter.unusedSimpArgs false
structure Ox (P : Program) (t : TypeId) {α : Type} (C : Cod α) : Prop where
  out : ∀ (H : Type) (enc : TypeId × Value → H) (w : World) (base : Nat) (sp : Nat → Bool) (held : Bool) (fuel : Nat) (cs : List Value) (y : DataW H × List MemPlace), DataW.trod enc P w base sp held fuel t cs = some y → ∃ x, C.rep w [] cs x
structure OxAt (P : Program) (fs : List Field) (off : Nat) {α : Type} (C : Cod α) : Prop where
  out : ∀ (H : Type) (enc : TypeId × Value → H) (w : World) (base : Nat) (sp : Nat → Bool) (held : Bool) (fuel : Nat) (cs : List Value), cs.length = off + C.k →
    (∀ f ∈ fs, ∃ y, DataW.trod enc P w base sp held fuel f.type ((cs.drop f.offset).take (P.cellsOf f.type)) = some y) → ∃ x, C.rep w [] (cs.drop off) x
theorem ox_int {P : Program} {t : TypeId} {k : IntKind} (ht : P.underlying t = some (.int k)) : Ox P t (intC k) := ⟨fun H enc w base sp held fuel cs y h => opens_int ht enc w base sp held fuel cs y h⟩
theorem ox_bool {P : Program} {t : TypeId} (ht : P.underlying t = some .bool) : Ox P t boolC := ⟨fun H enc w base sp held fuel cs y h => opens_bool ht enc w base sp held fuel cs y h⟩
theorem ox_str {P : Program} {t : TypeId} (ht : P.underlying t = some .string) : Ox P t strC := ⟨fun H enc w base sp held fuel cs y h => opens_str ht enc w base sp held fuel cs y h⟩
theorem ox_nil {P : Program} {off : Nat} : OxAt P [] off unitC := ⟨fun H enc w base sp held fuel cs hl h => opens_nil enc w base sp held fuel cs hl h⟩
theorem ox_cons {P : Program} {f : Field} {fs : List Field} {off : Nat} {α β : Type} {A : Cod α} {B : Cod β} (ho : f.offset = off) (hk : P.cellsOf f.type = A.k) (hA : Ox P f.type A) (hB : OxAt P fs (off + A.k) B) : OxAt P (f :: fs) off (pairC A B) := by
  refine ⟨fun H enc w base sp held fuel cs hl h => ?_⟩
  obtain ⟨y, hy⟩ := h f (by simp)
  rw [ho, hk] at hy
  obtain ⟨x, hx⟩ := hA.out H enc w base sp held fuel _ y hy
  obtain ⟨z, hz⟩ := hB.out H enc w base sp held fuel cs (by rw [hl]; show off + (A.k + B.k) = _; omega) (fun g hg => h g (by simp [hg]))
  refine ⟨(x, z), _, _, ?_, hx, hz⟩
  rw [← List.drop_drop, List.take_append_drop]
theorem ox_struct {P : Program} {t : TypeId} {fs : Array Field} {α : Type} {C : Cod α} (ht : P.underlying t = some (.struct fs)) (hk : P.cellsOf t = C.k) (h : OxAt P fs.toList 0 C) : Ox P t C := by
  refine ⟨fun H enc w base sp held fuel cs y hy => ?_⟩
  obtain ⟨xs, n, _, _, hl, hxs, hf⟩ := DataW.trod_struct ht hy
  obtain ⟨x, hx⟩ := h.out H enc w base sp held n cs (by omega) (fun f hfm => by
    obtain ⟨i, hi, rfl⟩ := List.getElem_of_mem hfm
    have hi' : i < fs.size := by simpa using hi
    have := hf i fs[i] (by simp [hi'])
    rw [List.getElem?_eq_getElem (by omega)] at this
    exact ⟨_, this⟩)
  exact ⟨x, by simpa using hx⟩
theorem ox_iso {P : Program} {t : TypeId} {α β : Type} {C : Cod α} (f : β → α) (g : α → β) (hg : ∀ x, f (g x) = x) (h : Ox P t C) : Ox P t (isoC C f) := by
  refine ⟨fun H enc w base sp held fuel cs y hy => ?_⟩
  obtain ⟨x, hx⟩ := h.out H enc w base sp held fuel cs y hy
  exact ⟨g x, by show C.rep w [] cs (f (g x)); rw [hg]; exact hx⟩
theorem ox_opens {P : Program} {t : TypeId} {α : Type} {C : Cod α} (h : Ox P t C) : Opens P t C := by
  intro H enc w base sp held fuel cs y hy
  exact h.out H enc w base sp held fuel cs y hy
theorem ox_row {P : Program} {t e : TypeId} {α : Type} {E : Cod α} (ht : P.underlying t = some (.slice e)) (hk : P.cellsOf e = E.k) (hpos : 0 < E.k) (h : Ox P e E) : Ox P t (rowC E) := by
  refine ⟨fun H enc w base sp held fuel cs y hy => ?_⟩
  have := @opens_row P t e α E ht hk hpos (by intro H enc w base sp held fuel cs y hy; exact h.out H enc w base sp held fuel cs y hy) H enc w base sp held fuel cs y hy
  exact this
theorem op_str : Ox Try.prog 9 strC := ox_str Try.underlying9
theorem op_u64 : Ox Try.prog 22 u64C := ox_int Try.underlying22
theorem op_i64 : Ox Try.prog 3 i64C := ox_int Try.underlying3
theorem op_bool : Ox Try.prog 4 boolC := ox_bool Try.underlying4
theorem op_strs : Ox Try.prog 23 (rowC strC) := ox_row Try.underlying23 (by kernel_rfl) (by decide) op_str
theorem op_u64s : Ox Try.prog 24 (rowC u64C) := ox_row Try.underlying24 (by kernel_rfl) (by decide) op_u64
theorem op_i64s : Ox Try.prog 25 (rowC i64C) := ox_row Try.underlying25 (by kernel_rfl) (by decide) op_i64
theorem op_pair : Ox Try.prog 64 pairT := ox_iso _ (fun p => ⟨p.1, p.2.1⟩) (fun _ => rfl) (ox_struct Try.underlying64 (by kernel_rfl)
  (ox_cons rfl (by kernel_rfl) op_str (ox_cons rfl (by kernel_rfl) op_u64 ox_nil)))
theorem op_pairs : Ox Try.prog 28 (rowC pairT) := ox_row Try.underlying28 (by kernel_rfl) (by decide) op_pair
theorem op_step : Ox Try.prog 94 stepT := ox_iso _ (fun p => ⟨p.1, p.2.1, p.2.2.1, p.2.2.2.1, p.2.2.2.2.1⟩) (fun _ => rfl) (ox_struct Try.underlying94 (by kernel_rfl)
  (ox_cons rfl (by kernel_rfl) op_i64 (ox_cons rfl (by kernel_rfl) op_u64 (ox_cons rfl (by kernel_rfl) op_u64 (ox_cons rfl (by kernel_rfl) op_u64 (ox_cons rfl (by kernel_rfl) op_bool ox_nil))))))
theorem op_steps : Ox Try.prog 31 (rowC stepT) := ox_row Try.underlying31 (by kernel_rfl) (by decide) op_step
theorem op_node : Ox Try.prog 27 nodeT := ox_iso _ (fun p => ⟨p.1, p.2.1, p.2.2.1, p.2.2.2.1, p.2.2.2.2.1, p.2.2.2.2.2.1, p.2.2.2.2.2.2.1, p.2.2.2.2.2.2.2.1⟩) (fun _ => rfl) (ox_struct Try.underlying27 (by kernel_rfl)
  (ox_cons rfl (by kernel_rfl) op_i64 (ox_cons rfl (by kernel_rfl) op_str (ox_cons rfl (by kernel_rfl) op_str (ox_cons rfl (by kernel_rfl) op_bool (ox_cons rfl (by kernel_rfl) op_i64 (ox_cons rfl (by kernel_rfl) op_strs (ox_cons rfl (by kernel_rfl) op_u64s (ox_cons rfl (by kernel_rfl) op_i64s ox_nil)))))))))
theorem op_ans : Ox Try.prog 30 ansT := ox_iso _ (fun p => ⟨p.1, p.2.1, p.2.2.1, p.2.2.2.1⟩) (fun _ => rfl) (ox_struct Try.underlying30 (by kernel_rfl)
  (ox_cons rfl (by kernel_rfl) op_i64 (ox_cons rfl (by kernel_rfl) op_str (ox_cons rfl (by kernel_rfl) op_u64 (ox_cons rfl (by kernel_rfl) op_pairs ox_nil)))))
theorem op_plan : Ox Try.prog 33 planT := ox_iso _ (fun p => ⟨p.1, p.2.1, p.2.2.1, p.2.2.2.1⟩) (fun _ => rfl) (ox_struct Try.underlying33 (by kernel_rfl)
  (ox_cons rfl (by kernel_rfl) op_i64 (ox_cons rfl (by kernel_rfl) op_ans (ox_cons rfl (by kernel_rfl) op_steps (ox_cons rfl (by kernel_rfl) op_u64s ox_nil)))))
theorem op_block : Ox Try.prog 35 blockT := ox_iso _ (fun p => ⟨p.1, p.2.1, p.2.2.1, p.2.2.2.1⟩) (fun _ => rfl) (ox_struct Try.underlying35 (by kernel_rfl)
  (ox_cons rfl (by kernel_rfl) op_i64 (ox_cons rfl (by kernel_rfl) op_node (ox_cons rfl (by kernel_rfl) op_plan (ox_cons rfl (by kernel_rfl) op_pairs ox_nil)))))
theorem op_op : Ox Try.prog 37 opT := ox_iso _ (fun p => ⟨p.1, p.2.1, p.2.2.1, p.2.2.2.1, p.2.2.2.2.1⟩) (fun _ => rfl) (ox_struct Try.underlying37 (by kernel_rfl)
  (ox_cons rfl (by kernel_rfl) op_i64 (ox_cons rfl (by kernel_rfl) op_str (ox_cons rfl (by kernel_rfl) op_str (ox_cons rfl (by kernel_rfl) op_u64 (ox_cons rfl (by kernel_rfl) op_i64 ox_nil))))))
theorem op_acc : Ox Try.prog 39 accT := ox_iso _ (fun p => ⟨p.1, p.2.1, p.2.2.1, p.2.2.2.1, p.2.2.2.2.1, p.2.2.2.2.2.1⟩) (fun _ => rfl) (ox_struct Try.underlying39 (by kernel_rfl)
  (ox_cons rfl (by kernel_rfl) op_i64 (ox_cons rfl (by kernel_rfl) op_i64 (ox_cons rfl (by kernel_rfl) op_u64 (ox_cons rfl (by kernel_rfl) op_u64 (ox_cons rfl (by kernel_rfl) op_block (ox_cons rfl (by kernel_rfl) op_op ox_nil)))))))
theorem op_accs : Ox Try.prog 41 (rowC accT) := ox_row Try.underlying41 (by kernel_rfl) (by decide) op_acc
end Go.Proofs.Ytpempcefgfmniaa.Dp

/-
  The types of package api, opened, with the form's bound on how large a slice that came in is.
-/
namespace Go.Proofs.Ytpempcefgfmniaa.Dp
open Go.ChangeShapes Go.WideShapes Go.ChangeAt Go.RowKit Go.Joins Go.Deep RefP
set_option linter.unusedVariables false
set_option linter.unusedSimpArgs false
structure Oz (P : Program) (t : TypeId) {α : Type} (C : Cod α) (Sm : α → Prop) : Prop where
  out : ∀ (H : Type) (enc : TypeId × Value → H) (w : World) (base : Nat) (sp : Nat → Bool) (held : Bool) (fuel : Nat) (cs : List Value) (y : DataW H × List MemPlace), DataW.trod enc P w base sp held fuel t cs = some y → (∀ n ∈ y.1.weights P t, n ≤ reachBytes) → ∃ x, C.rep w [] cs x ∧ Sm x
structure OzAt (P : Program) (fs : List Field) (off : Nat) {α : Type} (C : Cod α) (Sm : α → Prop) : Prop where
  out : ∀ (H : Type) (enc : TypeId × Value → H) (w : World) (base : Nat) (sp : Nat → Bool) (held : Bool) (fuel : Nat) (cs : List Value), cs.length = off + C.k →
    (∀ f ∈ fs, ∃ y, DataW.trod enc P w base sp held fuel f.type ((cs.drop f.offset).take (P.cellsOf f.type)) = some y ∧ ∀ n ∈ y.1.weights P f.type, n ≤ reachBytes) → ∃ x, C.rep w [] (cs.drop off) x ∧ Sm x
theorem oz_leaf {P : Program} {t : TypeId} {α : Type} {C : Cod α} (h : Ox P t C) : Oz P t C (fun _ => True) := ⟨fun H enc w base sp held fuel cs y hy _ => by
  obtain ⟨x, hx⟩ := h.out H enc w base sp held fuel cs y hy
  exact ⟨x, hx, trivial⟩⟩
theorem oz_nil {P : Program} {off : Nat} : OzAt P [] off unitC (fun _ => True) := ⟨fun H enc w base sp held fuel cs hl h => by
  obtain ⟨x, hx⟩ := (ox_nil (P := P) (off := off)).out H enc w base sp held fuel cs hl (fun f hf => by cases hf)
  exact ⟨x, hx, trivial⟩⟩
theorem oz_cons {P : Program} {f : Field} {fs : List Field} {off : Nat} {α β : Type} {A : Cod α} {B : Cod β} {SA : α → Prop} {SB : β → Prop} (ho : f.offset = off) (hk : P.cellsOf f.type = A.k) (hA : Oz P f.type A SA) (hB : OzAt P fs (off + A.k) B SB) : OzAt P (f :: fs) off (pairC A B) (fun x => SA x.1 ∧ SB x.2) := by
  refine ⟨fun H enc w base sp held fuel cs hl h => ?_⟩
  obtain ⟨y, hy, hz⟩ := h f (by simp)
  rw [ho, hk] at hy
  obtain ⟨x, hx, sx⟩ := hA.out H enc w base sp held fuel _ y hy hz
  obtain ⟨z, hz, sz⟩ := hB.out H enc w base sp held fuel cs (by rw [hl]; show off + (A.k + B.k) = _; omega) (fun g hg => h g (by simp [hg]))
  refine ⟨(x, z), ⟨_, _, ?_, hx, hz⟩, sx, sz⟩
  rw [← List.drop_drop, List.take_append_drop]
theorem oz_struct {P : Program} {t : TypeId} {fs : Array Field} {α : Type} {C : Cod α} {Sm : α → Prop} (ht : P.underlying t = some (.struct fs)) (hk : P.cellsOf t = C.k) (h : OzAt P fs.toList 0 C Sm) : Oz P t C Sm := by
  refine ⟨fun H enc w base sp held fuel cs y hy hz => ?_⟩
  obtain ⟨xs, n, _, rfl, hl, hxs, hf⟩ := DataW.trod_struct ht hy
  obtain ⟨x, hx, sx⟩ := h.out H enc w base sp held n cs (by omega) (fun f hfm => by
    obtain ⟨i, hi, rfl⟩ := List.getElem_of_mem hfm
    have hi' : i < fs.size := by simpa using hi
    have h1 := hf i fs[i] (by simp [hi'])
    rw [List.getElem?_eq_getElem (by omega)] at h1
    refine ⟨_, by simpa using h1, fun m hm => hz m ?_⟩
    simp only [DataW.weights, ht]
    exact DataW.weights_mem_each (j := i) (t := fs[i].type) (d := (xs[i]'(by omega)).1) (by simp [hi']) (by simp [show i < xs.length by omega]) m (by simpa using hm))
  exact ⟨x, by simpa using hx, sx⟩
theorem oz_iso {P : Program} {t : TypeId} {α β : Type} {C : Cod α} {Sm : α → Prop} (f : β → α) (g : α → β) (hg : ∀ x, f (g x) = x) (h : Oz P t C Sm) : Oz P t (isoC C f) (fun x => Sm (f x)) := by
  refine ⟨fun H enc w base sp held fuel cs y hy hz => ?_⟩
  obtain ⟨x, hx, sx⟩ := h.out H enc w base sp held fuel cs y hy hz
  exact ⟨g x, by show C.rep w [] cs (f (g x)); rw [hg]; exact hx, by rw [hg]; exact sx⟩
theorem weights_all_mem {H : Type} {P : Program} {e : TypeId} : ∀ {l : List (DataW H)} {d : DataW H}, d ∈ l → ∀ n ∈ d.weights P e, n ∈ DataW.weightsAll P e l
  | d0 :: l, d, hd, n, hn => by
    simp only [DataW.weightsAll, List.mem_append]
    rcases List.mem_cons.1 hd with rfl | hd
    · exact .inl hn
    · exact .inr (weights_all_mem hd n hn)
  | [], _, hd, _, _ => by cases hd
theorem oz_row {P : Program} {t e : TypeId} {α : Type} {E : Cod α} {SE : α → Prop} (B : Nat) (ht : P.underlying t = some (.slice e)) (hk : P.cellsOf e = E.k) (hB : P.bytesOf e = B) (hpos : 0 < E.k) (h : Oz P e E SE) : Oz P t (rowC E) (fun xs => xs.length * B ≤ reachBytes ∧ ∀ x ∈ xs, SE x) := by
  refine ⟨fun H enc w base sp held fuel cs y hy hz => ?_⟩
  rcases Go.Deep.open_slice ht hy with ⟨rfl, _⟩ | ⟨a, len, cap, m, n, D, Pl, rfl, hb, hl, hm, hmm, rfl, hi⟩
  · exact ⟨[], ⟨none, 0, rfl, Nat.le_refl _, Nat.zero_le _, RowRep.nil _ _ _ _⟩, by simp, by simp⟩
  · simp only [DataW.weights, ht, hB, List.length_map, List.length_range] at hz
    have hzl : len * B ≤ reachBytes := by
      have h1 := hz _ (List.mem_cons_self ..)
      exact Nat.le_trans (Nat.mul_le_mul_right _ (Nat.le_add_right _ _)) h1
    have hE : ∀ i, i < len → ∃ x, SE x ∧ ∃ cs', E.rep w [] cs' x ∧ ∀ j v, cs'[j]? = some v → w.cell? (a.add (i * E.k + j)) = some v := by
      intro i hil
      obtain ⟨cs', hc, ht'⟩ := hi i (by rw [hmm]; split <;> omega)
      obtain ⟨x, hx, sx⟩ := h.out H enc w base sp held n cs' _ ht' (fun q hq => hz q (List.mem_cons_of_mem _ (List.mem_append_left _ (weights_all_mem (d := D i) (by simp; exact ⟨i, hil, rfl⟩) q hq))))
      rw [hk] at hc
      obtain ⟨_, hcl, hat⟩ := World.cells?_some hc
      refine ⟨x, sx, cs', hx, fun j v hj => ?_⟩
      have hj' : j < E.k := by
        rw [← hcl]
        exact (List.getElem?_eq_some_iff.1 hj).1
      rw [← Go.Deep.add_add, hat j hj', hj]
    obtain ⟨xs, hxl, hxs⟩ := list_of_get len _ hE
    refine ⟨xs, ⟨some a, cap, by rw [hxl], by rw [hxl]; exact hl, hm, fun h0 => ?_⟩, by rw [hxl]; exact hzl, fun x hx => ?_⟩
    · obtain ⟨_, cs0, hr0, hc0⟩ := hxs 0 (xs[0]'h0) (List.getElem?_eq_getElem h0)
      have hk0 := E.len hr0
      have hc00 := hc0 0 (cs0[0]'(by omega)) (List.getElem?_eq_getElem (by omega))
      obtain ⟨b, off, spot⟩ := a
      have hspot : spot = none := by simpa [Addr.add] using World.cell?_spot hc00
      subst hspot
      have hadd : ∀ i, (⟨b, off, none⟩ : Addr).add i = ⟨b, off + i, none⟩ := by
        intro i
        unfold Addr.add
        by_cases h : i = 0 <;> simp [h]
      rw [hadd] at hc00
      refine ⟨b, off, rfl, block_lt_of_cell hc00, by simp, fun i x hx => ?_⟩
      obtain ⟨_, cs', hr, hc⟩ := hxs i x hx
      refine ⟨cs', hr, fun j v hj => ?_⟩
      have := hc j v hj
      rw [hadd, ← Nat.add_assoc] at this
      exact this
    · obtain ⟨i, hi, rfl⟩ := List.getElem_of_mem hx
      exact (hxs i _ (List.getElem?_eq_getElem hi)).1
abbrev TT {α : Type} (_ : α) : Prop := True
theorem oz_i64 : Oz Try.prog 3 i64C TT := oz_leaf op_i64
theorem oz_u64 : Oz Try.prog 22 u64C TT := oz_leaf op_u64
theorem oz_str : Oz Try.prog 9 strC TT := oz_leaf op_str
theorem oz_bool : Oz Try.prog 4 boolC TT := oz_leaf op_bool
abbrev SmR {α : Type} (B : Nat) (xs : List α) : Prop := xs.length * B ≤ reachBytes ∧ ∀ x ∈ xs, TT x
theorem oz_pairs : Oz Try.prog 28 (rowC pairT) (SmR 24) := oz_row 24 Try.underlying28 (by kernel_rfl) (by kernel_rfl) (by decide) (oz_leaf op_pair)
theorem oz_steps : Oz Try.prog 31 (rowC stepT) (SmR 40) := oz_row 40 Try.underlying31 (by kernel_rfl) (by kernel_rfl) (by decide) (oz_leaf op_step)
theorem oz_words : Oz Try.prog 24 (rowC u64C) (SmR 8) := oz_row 8 Try.underlying24 (by kernel_rfl) (by kernel_rfl) (by decide) oz_u64
theorem oz_weak {P : Program} {t : TypeId} {α : Type} {C : Cod α} {Sm Sm' : α → Prop} (h : Oz P t C Sm) (k : ∀ x, Sm x → Sm' x) : Oz P t C Sm' := ⟨fun H enc w base sp held fuel cs y hy hz => by
  obtain ⟨x, hx, sx⟩ := h.out H enc w base sp held fuel cs y hy hz
  exact ⟨x, hx, k x sx⟩⟩
theorem oz_ans : Oz Try.prog 30 ansT (fun x => x.pairs.length * 24 ≤ reachBytes) := oz_weak (oz_iso _ (fun p => ⟨p.1, p.2.1, p.2.2.1, p.2.2.2.1⟩) (fun _ => rfl) (oz_struct Try.underlying30 (by kernel_rfl)
  (oz_cons rfl (by kernel_rfl) oz_i64 (oz_cons rfl (by kernel_rfl) oz_str (oz_cons rfl (by kernel_rfl) oz_u64 (oz_cons rfl (by kernel_rfl) oz_pairs oz_nil)))))) (fun x h => h.2.2.2.1.1)
theorem oz_plan : Oz Try.prog 33 planT (fun x => x.ans.pairs.length * 24 ≤ reachBytes) := oz_weak (oz_iso _ (fun p => ⟨p.1, p.2.1, p.2.2.1, p.2.2.2.1⟩) (fun _ => rfl) (oz_struct Try.underlying33 (by kernel_rfl)
  (oz_cons rfl (by kernel_rfl) oz_i64 (oz_cons rfl (by kernel_rfl) oz_ans (oz_cons rfl (by kernel_rfl) oz_steps (oz_cons rfl (by kernel_rfl) oz_words oz_nil)))))) (fun x h => h.2.1)
/-- few pairs, as the form bounds them -/
structure SmB (x : BlockV) : Prop where
  ans : x.plan.ans.pairs.length * 24 ≤ reachBytes
  pairs : x.pairs.length * 24 ≤ reachBytes
theorem oz_block : Oz Try.prog 35 blockT SmB := oz_weak (oz_iso _ (fun p => ⟨p.1, p.2.1, p.2.2.1, p.2.2.2.1⟩) (fun _ => rfl) (oz_struct Try.underlying35 (by kernel_rfl)
  (oz_cons rfl (by kernel_rfl) oz_i64 (oz_cons rfl (by kernel_rfl) (oz_leaf op_node) (oz_cons rfl (by kernel_rfl) oz_plan (oz_cons rfl (by kernel_rfl) oz_pairs oz_nil)))))) (fun x h => ⟨h.2.2.1, h.2.2.2.1.1⟩)
theorem oz_op : Oz Try.prog 37 opT (fun _ => True) := oz_leaf op_op
theorem oz_acc : Oz Try.prog 39 accT (fun x => SmB x.block) := oz_weak (oz_iso _ (fun p => ⟨p.1, p.2.1, p.2.2.1, p.2.2.2.1, p.2.2.2.2.1, p.2.2.2.2.2.1⟩) (fun _ => rfl) (oz_struct Try.underlying39 (by kernel_rfl)
  (oz_cons rfl (by kernel_rfl) oz_i64 (oz_cons rfl (by kernel_rfl) oz_i64 (oz_cons rfl (by kernel_rfl) oz_u64 (oz_cons rfl (by kernel_rfl) oz_u64 (oz_cons rfl (by kernel_rfl) oz_block (oz_cons rfl (by kernel_rfl) oz_op oz_nil)))))))) (fun x h => h.2.2.2.2.1)
theorem oz_accs : Oz Try.prog 41 (rowC accT) (fun xs => ∀ x ∈ xs, SmB x.block) := oz_weak (oz_row _ Try.underlying41 (by kernel_rfl) rfl (by decide) oz_acc) (fun x h => h.2)
theorem sized_arg {H : Type} {P : Program} {ts vs : List TypeId} {ds gs : List (DataW H)} (hz : (DataW.weightsEach P (ts ++ vs) (ds ++ gs)).all (· ≤ reachBytes) = true) {j : Nat} {t : TypeId} {d : DataW H} (ht : ts[j]? = some t) (hd : ds[j]? = some d) : ∀ n ∈ d.weights P t, n ≤ reachBytes := fun n hn => by
  have h1 := (List.getElem?_eq_some_iff.1 ht).1
  have h2 := (List.getElem?_eq_some_iff.1 hd).1
  have := List.all_eq_true.1 hz n (DataW.weights_mem_each (j := j) (t := t) (d := d) (by rw [List.getElem?_append_left h1]; exact ht) (by rw [List.getElem?_append_left h2]; exact hd) n hn)
  simpa using this
/-- an argument that is a struct, by value, or a slice -/
theorem oz_agg {P : Program} {t : TypeId} {α : Type} {C : Cod α} {Sm : α → Prop} (h : Oz P t C Sm) {H : Type} {enc : TypeId × Value → H} {W : World} {base base' : Nat} {sp : Nat → Bool} {held : Bool} {v : Value} {d : DataW H} {p : List MemPlace} {fs : Array Field} (ht : P.underlying t = some (.struct fs))
    (hv : Value.okWide P W .any base t v) (hd : DataW.Trod enc P W base' sp held t v d p) (hz : ∀ n ∈ d.weights P t, n ≤ reachBytes) : ∃ cs x, v = .agg cs ∧ C.rep W [] cs.toList x ∧ Sm x := by
  rw [Value.okWide] at hv
  rw [ht] at hv
  obtain ⟨cs, rfl, _, _⟩ := hv
  obtain ⟨fuel, hf⟩ := hd
  obtain ⟨x, hx, sx⟩ := h.out H enc W base' sp held fuel _ _ hf hz
  exact ⟨cs, x, rfl, by simpa [Value.cells] using hx, sx⟩
theorem oz_slice {P : Program} {t e : TypeId} {α : Type} {E : Cod α} {Sm : List α → Prop} (h : Oz P t (rowC E) Sm) {H : Type} {enc : TypeId × Value → H} {W : World} {base base' : Nat} {sp : Nat → Bool} {held : Bool} {v : Value} {d : DataW H} {p : List MemPlace} (ht : P.underlying t = some (.slice e))
    (hv : Value.okWide P W .any base t v) (hd : DataW.Trod enc P W base' sp held t v d p) (hz : ∀ n ∈ d.weights P t, n ≤ reachBytes) : ∃ a c xs, v = .slice a xs.length c ∧ xs.length ≤ c ∧ xs.length ≤ maxLen ∧ RowRep E W [] a xs ∧ Sm xs := by
  obtain ⟨a0, len, cap, rfl⟩ := okWide_slice ht hv
  obtain ⟨fuel, hf⟩ := hd
  obtain ⟨xs, ⟨a, c, e1, h1, h2, h3⟩, sx⟩ := h.out H enc W base' sp held fuel _ _ hf hz
  simp [Value.cells] at e1
  obtain ⟨rfl, rfl, rfl⟩ := e1
  exact ⟨a0, cap, xs, rfl, h1, Nat.le_trans h1 h2, h3, sx⟩
end Go.Proofs.Ytpempcefgfmniaa.Dp

/-
  A memory that was made and told some accesses, and a task of reading beside it.
-/
namespace Go.Proofs.Ytpempcefgfmniaa.MemP
open Go.RowKit RefP CellP Dp
set_option linter.unusedVariables false
set_option linter.unusedSimpArgs false
theorem few_of {x : AccV} (h : lightA x = true) (s : SmB x.block) : Few x.block := by
  have hr : reachBytes = 0x7ffffffff000 := rfl
  have s1 := s.ans
  have s2 := s.pairs
  simp only [lightA, lightN, Bool.and_eq_true, decide_eq_true_eq, List.all_eq_true] at h
  obtain ⟨⟨h1, h2, h3, h4, _⟩, h5, h6, h7⟩ := h
  have hs : (x.block.pairs.length : Int) + x.block.plan.ans.pairs.length ≤ 60 := by
    rw [sumW, IntKind.wrap_i64] at h7; omega
  exact ⟨by omega, by omega, by omega, by omega, by omega, by omega, by omega⟩
theorem few_all {xs : List AccV} (h : lightL xs = true) (s : ∀ x ∈ xs, SmB x.block) : ∀ x ∈ xs, Few x.block := by
  simp only [lightL, Bool.and_eq_true, List.all_eq_true] at h
  exact fun x hx => few_of (h.1 x hx) (s x hx)
theorem light_len {xs : List AccV} (h : lightL xs = true) : xs.length ≤ 60 := by
  simp only [lightL, Bool.and_eq_true, decide_eq_true_eq] at h
  exact h.2
/-- what a new memory has -/
def newV (A T : Nat) (gen : Int) : MemV := ⟨A, T, freshL A T gen, (List.replicate A blockZ).set 0 blockE, List.replicate T opZ⟩
theorem new_is {w : World} {o oc g gb gr A T : Nat} {gen : Int} (h : MemAt w o oc g gb gr A T (freshL A T gen) ((List.replicate A zb).set 0 eb) (List.replicate T zo)) : MemIs w (MemId.own ⟨o, oc, g, gb, gr⟩) ⟨o, oc, g, gb, gr⟩ (newV A T gen) := by
  refine ⟨⟨(List.replicate A zb).set 0 eb, ?_, fun i hi => ?_⟩, by simp [newV], fun x hx => ?_, fun b hb => hb⟩
  · show MemAt w o oc g gb gr A T (freshL A T gen) ((List.replicate A zb).set 0 eb) ((List.replicate T opZ).map opL)
    rw [List.map_replicate]
    exact h
  · have hi' : i < A := hi
    show IsB w _ (((List.replicate A zb).set 0 eb).getD i []) (((List.replicate A blockZ).set 0 blockE).getD i blockZ)
    by_cases h0 : i = 0
    · subst h0
      simp only [List.getD_eq_getElem?_getD, List.getElem?_set_self', List.getElem?_replicate, if_pos hi']
      exact isB_eb w _
    · simp only [List.getD_eq_getElem?_getD, List.getElem?_set_ne (show 0 ≠ i by omega), List.getElem?_replicate, if_pos hi']
      exact isB_zb w _
  · have : x = opZ := (List.mem_replicate.1 hx).2
    rw [this]; exact opZ_ok
theorem fresh_vb (A T : Nat) (gen : Int) : VB (freshL A T gen) 0 := by
  intro p hp
  simp only [freshL, List.mem_map] at hp
  obtain ⟨i, _, rfl⟩ := hp
  simp
/-- a memory, told accesses -/
structure MStep (w0 wr : World) (m : MemId) (M : MemV) (n : Nat) : Prop where
  b : Below w0.heap.size w0 wr
  mem : MemIs wr m.own m M
  sh : M.A = 5 ∧ M.T = 2 ∧ M.L.length = 21
  vb : VB M.L n
  lo : ∀ b ∈ m.own, w0.heap.size ≤ b
theorem MStep.under {w0 wr wx : World} {m : MemId} {M : MemV} {n : Nat} (h : MStep w0 wr m M n) (hb : Below wr.heap.size wr wx) : MStep w0 wx m M n :=
  ⟨below_push2 h.b hb (Nat.le_refl _), h.mem.below hb, h.sh, h.vb, h.lo⟩
theorem did_lo {m : MemId} {B : Nat} (h : ∀ b ∈ m.own, B ≤ b) : ∀ b ∈ [m.g, m.gb, m.gr], B ≤ b := by
  simp only [MemId.own, List.mem_cons, List.not_mem_nil, or_false, forall_eq_or_imp, forall_eq] at h ⊢
  exact ⟨h.2.2.1, h.2.2.2.1, h.2.2.2.2⟩
theorem MStep.did {w0 wr wx : World} {m : MemId} {M : MemV} {n : Nat} {a : AccV} {e : Ending} (h : MStep w0 wr m M n) (hn : n ≤ 100000) (d : Did wr m.own m M a e wx) : MStep w0 wx m (doV M a) (n + 1) :=
  ⟨d.fr.below h.b (Nat.le_refl _) (did_lo h.lo), d.mem, by rw [(doV_A M a).1, (doV_A M a).2, doV_len]; exact h.sh, h.vb.step hn a, h.lo⟩
/-- the cells of a task of reading -/
abbrev rdX (m : Option Addr) (th cell : Int) (x : RS) (q : NodeH) : Array Value := rdA m th x.at_ x.st x.su cell x.word x.ver (.int .i64 x.node.level) (.string x.node.low) (.string x.node.high) (.bool x.node.last) (.int .i64 x.node.next) (.slice q.keys.a x.node.keys.length q.keys.c) (.slice q.vals.a x.node.vals.length q.vals.c) (.slice q.kids.a x.node.kids.length q.kids.c)
theorem NodeOk.more' {w : World} {S S' : List Nat} {q : NodeH} {x : NodeV} (h : NodeOk w S q x) (k : ∀ b ∈ S', b ∈ S ∨ w.heap.size ≤ b) : NodeOk w S' q x := ⟨h.level, h.low, h.high, h.next, h.keys.more k, h.vals.more k, h.kids.more k⟩
theorem RepOk.keep {w w' : World} {S : List Nat} {q : BlockH} {r : ReplyV} (h : RepOk w S q r) (k : Keeps S w w') : RepOk w' S q r := ⟨h.word, h.ver, h.block.keep k, h.few, h.op⟩
theorem RepOk.more {w : World} {S S' : List Nat} {q : BlockH} {r : ReplyV} (h : RepOk w S q r) (k : ∀ b ∈ S', b ∈ S ∨ w.heap.size ≤ b) : RepOk w S' q r := ⟨h.word, h.ver, h.block.more k, h.few, h.op⟩
/-- the task's own access: its reply -/
theorem rs_rep {M : MemV} {A T : Nat} {th cell : Int} {x : RS} (hx : x.at_ ≠ 3) : (rsAcc A T th cell x).kind ≠ 4 ∧ (repV M (rsAcc A T th cell x)).block = blockZ ∧ (repV M (rsAcc A T th cell x)).op = opZ := by
  by_cases h1 : x.at_ = 1
  · have e : rsAcc A T th cell x = ⟨2, hazI A T th 1, 0, x.word, blockZ, opZ⟩ := by simp [rsAcc, h1]
    rw [e]; refine ⟨by simp, ?_, ?_⟩ <;> simp [repV]
  · have e : rsAcc A T th cell x = ⟨1, atI A T 0 cell, 0, 0, blockZ, opZ⟩ := by simp [rsAcc, h1, hx]
    rw [e]; refine ⟨by simp, ?_, ?_⟩ <;> simp [repV]
theorem rs_ok {w : World} {A T : Nat} {th cell : Int} {x : RS} (hA : A ≤ 8192) (hT : T ≤ 16) (h1 : U64 x.word) : AccOk w [] nilH (rsAcc A T th cell x) := by
  have h0 : I64 (atI A T 0 cell) := by
    by_cases hc : 0 ≤ cell ∧ cell < sizeI A T 0
    · rw [atI_yes hc.1 hc.2]
      have h1 := hc.1
      have h2 : cell < (A : Int) := hc.2
      have h3 : fromI A T 0 = 0 := rfl
      rw [h3]; unfold I64; omega
    · rw [atI_no hc]; exact ⟨by decide, by decide⟩
  have h2 : I64 (hazI A T th 1) := by
    unfold hazI I64
    split <;> omega
  have b := blockZ_ok w []
  have i0 : ∀ k : Int, 0 ≤ k → k ≤ 10 → I64 k := fun k _ _ => by unfold I64; omega
  have u0 : U64 0 := ⟨by decide, by decide⟩
  unfold rsAcc
  split
  · exact ⟨i0 2 (by decide) (by decide), h2, u0, h1, b, opZ_ok⟩
  · split
    · exact ⟨i0 4 (by decide) (by decide), i0 0 (by decide) (by decide), u0, h1, b, opZ_ok⟩
    · exact ⟨i0 1 (by decide) (by decide), h0, u0, u0, b, opZ_ok⟩
theorem rs_few {A T : Nat} {th cell : Int} {x : RS} : Few (rsAcc A T th cell x).block := by
  unfold rsAcc
  split
  · exact fewZ
  · split <;> exact fewZ
end Go.Proofs.Ytpempcefgfmniaa.MemP

/-
  Carrying out, the program's and the document's, step by step: plain laws; both beside a memory.
-/
namespace Go.Proofs.Ytpempcefgfmniaa.MemP
open Go.RowKit RefP CellP Dp
set_option linter.unusedVariables false
set_option linter.unusedSimpArgs false
/-- how many accesses are left at most -/
def krem (k : KS) : Nat := if k.at_ = 0 then 67 else if k.at_ = 1 then 66 else if k.at_ = 2 then 65 else if k.at_ = 3 then k.steps.length + 4 else if k.at_ = 4 then 4 else if k.at_ = 5 then 3 else if k.at_ = 6 then 2 else if k.at_ = 7 then 1 else 0
theorem k_rem (p : KP) (k : KS) (r : ReplyV) (h0 : 0 ≤ k.at_) (h1 : k.at_ ≤ 7) (h3 : k.at_ = 3 → 0 < k.steps.length) (hr : r.block.plan.steps.length ≤ 60) : krem (kTell p k r) + 1 ≤ krem k := by
  obtain ⟨at_, steps, done, tu, en⟩ := k
  simp only at h0 h1
  have hc : at_ = 0 ∨ at_ = 1 ∨ at_ = 2 ∨ at_ = 3 ∨ at_ = 4 ∨ at_ = 5 ∨ at_ = 6 ∨ at_ = 7 := by omega
  rcases hc with rfl | rfl | rfl | rfl | rfl | rfl | rfl | rfl
  · simp [kTell, krem]
  · by_cases e : r.ver = p.ver <;> simp [kTell, krem, e]
  · by_cases e : r.ok = true ∧ r.block.kind = 2
    · by_cases hl : r.block.plan.steps = []
      · simp [kTell, krem, e, hl]
      · simp [kTell, krem, e, hl]; omega
    · simp [kTell, krem, e]
  · have := h3 rfl
    simp only at this
    by_cases e : steps.length ≤ 1
    · simp [kTell, krem, e]; omega
    · simp [kTell, krem, e]; omega
  · by_cases e : r.word = 0 <;> simp [kTell, krem, e]
  · by_cases e : r.ver = p.ver <;> simp [kTell, krem, e]
  · simp [kTell, krem]
  · simp [kTell, krem]
theorem k_at (p : KP) (k : KS) (r : ReplyV) (h0 : 0 ≤ k.at_) (h1 : k.at_ ≤ 7) (h3 : k.at_ = 3 → 0 < k.steps.length) : (0 ≤ (kTell p k r).at_ ∧ (kTell p k r).at_ ≤ 8) ∧ ((kTell p k r).at_ = 3 → 0 < (kTell p k r).steps.length) := by
  obtain ⟨at_, steps, done, tu, en⟩ := k
  simp only at h0 h1
  have hc : at_ = 0 ∨ at_ = 1 ∨ at_ = 2 ∨ at_ = 3 ∨ at_ = 4 ∨ at_ = 5 ∨ at_ = 6 ∨ at_ = 7 := by omega
  rcases hc with rfl | rfl | rfl | rfl | rfl | rfl | rfl | rfl
  · simp [kTell]
  · by_cases e : r.ver = p.ver <;> simp [kTell, e]
  · by_cases e : r.ok = true ∧ r.block.kind = 2
    · by_cases hl : r.block.plan.steps = []
      · simp [kTell, e, hl]
      · simp [kTell, e, hl]; exact List.length_pos_iff.2 hl
    · simp [kTell, e]
  · have := h3 rfl
    simp only at this
    by_cases e : steps.length ≤ 1
    · simp [kTell, e]
    · simp [kTell, e]; omega
  · by_cases e : r.word = 0 <;> simp [kTell, e]
  · by_cases e : r.ver = p.ver <;> simp [kTell, e]
  · simp [kTell]
  · simp [kTell]
/-- the document's and the program's -/
structure KSame (k k' : KS) : Prop where
  at_ : k'.at_ = k.at_
  tu : k'.tu = k.tu
  en : k'.en = k.en
  done : k'.done = k.done
  steps : k.at_ ≠ 8 → k'.steps = k.steps
theorem KSame.tell {p : KP} {k k' : KS} (h : KSame k k') (r : ReplyV) (h0 : 0 ≤ k.at_) (h1 : k.at_ ≤ 7) : KSame (kTell p k r) (dkTell p k' r) := by
  have hs := h.steps (by omega)
  obtain ⟨at_, steps, done, tu, en⟩ := k
  obtain ⟨at1, steps1, done1, tu1, en1⟩ := k'
  obtain ⟨e1, e2, e3, e4, _⟩ := h
  simp only at e1 e2 e3 e4 hs
  subst e1 e2 e3 e4 hs
  unfold dkTell
  by_cases hn : at1 = 2 ∧ ¬ (r.ok = true ∧ r.block.kind = 2)
  · rw [if_pos hn]
    obtain ⟨rfl, hn⟩ := hn
    have e : kTell p ⟨2, steps1, done1, tu1, en1⟩ r = ⟨8, r.block.plan.steps, done1, false, en1⟩ := by simp [kTell, hn]
    rw [e]
    exact ⟨rfl, rfl, rfl, rfl, fun e => absurd rfl e⟩
  · rw [if_neg hn]
    exact ⟨rfl, rfl, rfl, rfl, fun _ => rfl⟩
theorem k_done (p : KP) (k : KS) (r : ReplyV) (hd : U64 k.done) (hr : U64 r.ver) : U64 (kTell p k r).done := by
  unfold kTell
  repeat' split
  all_goals first | exact hd | exact hr
theorem i64_at {A T : Nat} {r : Nat} (hA : A ≤ 8192) (hT : T ≤ 16) (hr : r ≤ 6) (i : Int) : I64 (atI A T r i) := by
  have hf : 0 ≤ fromI A T r ∧ fromI A T r ≤ 1000000 ∧ sizeI A T r ≤ 100000 := by
    have : r = 0 ∨ r = 1 ∨ r = 2 ∨ r = 3 ∨ r = 4 ∨ r = 5 ∨ r = 6 := by omega
    rcases this with rfl | rfl | rfl | rfl | rfl | rfl | rfl <;> simp [fromI, sizeI] <;> omega
  by_cases h : 0 ≤ i ∧ i < sizeI A T r
  · rw [atI_yes h.1 h.2]; unfold I64; omega
  · rw [atI_no h]; exact ⟨by decide, by decide⟩
theorem i64_haz {A T : Nat} (hA : A ≤ 8192) (hT : T ≤ 16) (t k : Int) : I64 (hazI A T t k) := by
  unfold hazI I64
  split <;> omega
theorem k_ok {w w1 : World} {S : List Nat} {A T : Nat} {p : KP} {k : KS} {q : Hd} (hA : A ≤ 8192) (hT : T ≤ 16) (P : KPok p) (hd : U64 k.done) (H : HRow Dp.stepT w1 S q k.steps) (h3 : k.at_ = 3 → 0 < k.steps.length) : AccOk w [] nilH (kAcc A T p k) := by
  have b := blockZ_ok w []
  have i0 : ∀ k : Int, 0 ≤ k → k ≤ 10 → I64 k := fun k _ _ => by unfold I64; omega
  have u0 : U64 0 := ⟨by decide, by decide⟩
  have hx := P.x
  have hmx : U64 (maxW p.x) := by
    unfold maxW U64
    obtain ⟨x0, x1⟩ := hx
    split <;> omega
  have hg : I64 (gateI A T) := by rw [← gate_at]; exact i64_at hA hT (by decide) 0
  unfold kAcc
  split
  · exact ⟨i0 2 (by decide) (by decide), i64_haz hA hT _ _, u0, hx, b, opZ_ok⟩
  split
  · exact ⟨i0 4 (by decide) (by decide), i0 0 (by decide) (by decide), u0, hx, b, opZ_ok⟩
  split
  · rename_i h
    obtain ⟨_, _, _, _, _, ho, _⟩ := step_cell H (h3 h)
    exact ⟨i0 3 (by decide) (by decide), i64_at hA hT (by decide) _, ho.ver, ho.new, b, opZ_ok⟩
  split
  · exact ⟨i0 1 (by decide) (by decide), i64_at hA hT (by decide) _, u0, u0, b, opZ_ok⟩
  split
  · exact ⟨i0 3 (by decide) (by decide), i64_at hA hT (by decide) _, hd, hmx, b, opZ_ok⟩
  split
  · exact ⟨i0 3 (by decide) (by decide), hg, P.ver, u0, b, opZ_ok⟩
  · exact ⟨i0 1 (by decide) (by decide), hg, u0, u0, b, opZ_ok⟩
theorem k_few {A T : Nat} {p : KP} {k : KS} : Few (kAcc A T p k).block := by
  unfold kAcc
  repeat' split
  all_goals exact fewZ
/-- both, beside a memory -/
structure KIs (w0 wr : World) (m : MemId) (M : MemV) (Md : MemV) (dd : DH) (t td : Nat) (p : KP) (k k' : KS) (q q' : Hd) : Prop where
  b : Below w0.heap.size w0 wr
  mem : MemIs wr (t :: td :: m.own) m M
  task : Blk wr t (carX m.o p k q) 100
  doc : Blk wr td (dcX Md dd p k' q') 84
  steps : HRow Dp.stepT wr (t :: td :: m.own) q k.steps
  dsteps : HRow Dp.stepT wr (t :: td :: m.own) q' k'.steps
  sh : M.A = 5 ∧ M.T = 2
  dsh : Md.A = 5 ∧ Md.T = 2
  lo : ∀ b ∈ t :: td :: m.own, w0.heap.size ≤ b
  ne : t ≠ td ∧ t ∉ m.own ∧ td ∉ m.own
  same : KSame k k'
  rng : 0 ≤ k.at_ ∧ k.at_ ≤ 8
  h3 : k.at_ = 3 → 0 < k.steps.length
  gate : k.at_ ≠ 8 → KGate p
  done : U64 k.done
theorem KIs.lt {w0 wr : World} {m : MemId} {M Md : MemV} {dd : DH} {t td : Nat} {p : KP} {k k' : KS} {q q' : Hd} (h : KIs w0 wr m M Md dd t td p k k' q q') : ∀ b ∈ t :: td :: m.own, b < wr.heap.size := by
  intro b hb
  rcases List.mem_cons.1 hb with rfl | hb
  · exact h.task.lt
  · rcases List.mem_cons.1 hb with rfl | hb
    · exact h.doc.lt
    · exact h.mem.lt b hb
theorem KIs.keep {w0 wr wx : World} {S' : List Nat} {m : MemId} {M Md : MemV} {dd : DH} {t td : Nat} {p : KP} {k k' : KS} {q q' : Hd} (h : KIs w0 wr m M Md dd t td p k k' q q') (F : Fr S' wr wx) (hS : ∀ b ∈ S', b ∈ [m.g, m.gb, m.gr]) (M' : MemV) (hM : MemIs wx (t :: td :: m.own) m M') (hA : M'.A = 5 ∧ M'.T = 2) : KIs w0 wx m M' Md dd t td p k k' q q' := by
  have h3 : ∀ b ∈ [m.g, m.gb, m.gr], b ∈ m.own := by simp [MemId.own]
  have h4 : ∀ b ∈ S', b ∈ t :: td :: m.own := fun b hb => List.mem_cons_of_mem _ (List.mem_cons_of_mem _ (h3 b (hS b hb)))
  exact ⟨F.below h.b (Nat.le_refl _) (fun b hb => h.lo b (h4 b hb)), hM, F.blk h.task (fun e => h.ne.2.1 (h3 _ (hS _ e))), F.blk h.doc (fun e => h.ne.2.2 (h3 _ (hS _ e))), h.steps.keep (F.keeps.more h4), h.dsteps.keep (F.keeps.more h4), hA, h.dsh, h.lo, h.ne, h.same, h.rng, h.h3, h.gate, h.done⟩
theorem KIs.under {w0 wr wx : World} {m : MemId} {M Md : MemV} {dd : DH} {t td : Nat} {p : KP} {k k' : KS} {q q' : Hd} (h : KIs w0 wr m M Md dd t td p k k' q q') (hb : Below wr.heap.size wr wx) : KIs w0 wx m M Md dd t td p k k' q q' :=
  h.keep (S' := []) (Fr.of_below hb) (by simp) M (h.mem.below hb) h.sh
theorem KIs.did {w0 wr wx : World} {m : MemId} {M Md : MemV} {dd : DH} {t td : Nat} {p : KP} {k k' : KS} {q q' : Hd} {a : AccV} {e : Ending} (h : KIs w0 wr m M Md dd t td p k k' q q') (d : Did wr (t :: td :: m.own) m M a e wx) : KIs w0 wx m (doV M a) Md dd t td p k k' q q' :=
  h.keep d.fr (fun b hb => hb) _ d.mem (by rw [(doV_A M a).1, (doV_A M a).2]; exact h.sh)
/-- Next of both -/
theorem KIs.next {w0 wr : World} {m : MemId} {M Md : MemV} {dd : DH} {t td : Nat} {p : KP} {k k' : KS} {q q' : Hd} (h : KIs w0 wr m M Md dd t td p k k' q q') (P : KPok p) (h8 : k.at_ ≠ 8) :
    Calls Try.prog 36 #[.pointer (some ⟨t, 0, none⟩)] wr fun e w' => e = .returned (.tuple #[.agg (acc26 nilH (kAcc 5 2 p k)).toArray, .bool true]) ∧ Below wr.heap.size wr w' := by
  obtain ⟨bs, hM⟩ := h.mem.at_
  have hr := h.rng
  rw [← h.sh.1, ← h.sh.2]
  exact k_next t p k q wr hM h.task P h.steps hr.1 (by omega) h.h3
theorem KIs.dnext {w0 wr : World} {m : MemId} {M Md : MemV} {dd : DH} {t td : Nat} {p : KP} {k k' : KS} {q q' : Hd} (h : KIs w0 wr m M Md dd t td p k k' q q') (P : KPok p) (h8 : k.at_ ≠ 8) :
    Calls Try.prog 37 #[.agg (dcX Md dd p k' q')] wr fun e w' => e = .returned (.tuple #[.agg (acc26 nilH (kAcc 5 2 p k)).toArray, .bool true]) ∧ Below wr.heap.size wr w' := by
  have hr := h.rng
  have hs := h.same
  have e : kAcc 5 2 p k = kAcc Md.A Md.T p k' := by
    rw [h.dsh.1, h.dsh.2]
    have e1 := hs.at_
    have e2 := hs.steps h8
    have e3 := hs.done
    unfold kAcc KS.hd
    rw [e1, e2, e3]
  rw [e]
  have hA := h.dsh
  exact dk_next Md dd p k' q' wr (by omega) (by omega) P (h.gate h8) h.dsteps (by rw [hs.at_]; exact hr.1) (by rw [hs.at_]; omega) (by rw [hs.at_, hs.steps h8]; exact h.h3)
theorem KIs.over {w0 wr : World} {m : MemId} {M Md : MemV} {dd : DH} {t td : Nat} {p : KP} {k k' : KS} {q q' : Hd} (h : KIs w0 wr m M Md dd t td p k k' q q') (h8 : k.at_ = 8) :
    (Calls Try.prog 36 #[.pointer (some ⟨t, 0, none⟩)] wr fun e w' => e = .returned (.tuple #[.agg (accY 0 0 0 0), .bool false]) ∧ Below wr.heap.size wr w') ∧
    Calls Try.prog 37 #[.agg (dcX Md dd p k' q')] wr fun e w' => e = .returned (.tuple #[.agg (accY 0 0 0 0), .bool false]) ∧ Below wr.heap.size wr w' := by
  obtain ⟨bs, hM⟩ := h.mem.at_
  have hA := h.dsh
  exact ⟨k_over t p k q wr hM h.task h8, dk_over Md dd p k' q' wr (by omega) (by omega) (by rw [h.same.at_]; exact h8)⟩
/-- Tell -/
def KTwo (w0 w : World) (m : MemId) (M Md : MemV) (dd : DH) (t td : Nat) (p : KP) (k k' : KS) (q' : Hd) (X : Nat) (qr : BlockH) (r : ReplyV) (e : Ending) (w' : World) : Prop :=
  e = .returned (.tuple #[]) ∧ Below w0.heap.size w0 w' ∧ MemIs w' (t :: td :: m.own) m M ∧ Blk w' td (dcX Md dd p k' q') 84 ∧ HRow Dp.stepT w' (t :: td :: m.own) q' k'.steps ∧ (∃ q : Hd, Blk w' t (carX m.o p (kTell p k r) q) 100 ∧ HRow Dp.stepT w' (t :: td :: m.own) q (kTell p k r).steps) ∧ Blk w' X (repA qr r) 50 ∧ RepOk w' (t :: td :: m.own) qr r
theorem KIs.tell {w0 wr : World} {m : MemId} {M Md : MemV} {dd : DH} {t td : Nat} {p : KP} {k k' : KS} {q q' : Hd} (h : KIs w0 wr m M Md dd t td p k k' q q') (h8 : k.at_ ≠ 8) {X : Nat} {qr : BlockH} {r : ReplyV} (BQ : Blk wr X (repA qr r) 50) (hX : X ≠ t) (hr : RepOk wr (t :: td :: m.own) qr r) :
    Calls Try.prog 40 #[.pointer (some ⟨t, 0, none⟩), .agg (repA qr r)] wr (KTwo w0 wr m M Md dd t td p k k' q' X qr r) := by
  obtain ⟨bs, hM⟩ := h.mem.at_
  have hrg := h.rng
  have hdis : ¬ m.o = t ∧ ¬ m.oc = t ∧ ¬ m.g = t ∧ ¬ m.gb = t ∧ ¬ m.gr = t := by
    have := h.ne.2.1
    simp only [MemId.own, List.mem_cons, List.not_mem_nil, or_false, not_or] at this
    exact ⟨fun e => this.1 e.symm, fun e => this.2.1 e.symm, fun e => this.2.2.1 e.symm, fun e => this.2.2.2.1 e.symm, fun e => this.2.2.2.2 e.symm⟩
  refine (k_tell (S := t :: td :: m.own) t p k q qr r wr hM hdis h.task h.steps (by simp) hr hrg.1 (by omega) h.h3).mono ?_
  rintro e w' ⟨rfl, q2, B2, H2, F⟩
  have h1 : ∀ b ∈ [t], b ∈ t :: td :: m.own := by simp
  refine ⟨rfl, F.below h.b (Nat.le_refl _) (fun b hb => h.lo b (h1 b hb)), h.mem.keep F h1 (fun b hb e => h.ne.2.1 (by simp only [List.mem_singleton] at e; exact e ▸ hb)), F.blk h.doc (by simpa using fun e => h.ne.1 e.symm), h.dsteps.keep (F.keeps.more h1), ⟨q2, B2, H2⟩, F.blk BQ (by simpa using hX), hr.keep (F.keeps.more h1)⟩
/-- both told -/
theorem KIs.told {w0 wr w1 w2 : World} {m : MemId} {M Md : MemV} {dd : DH} {t td : Nat} {p : KP} {k k' : KS} {q q' q2 q3 : Hd} {r : ReplyV} (h : KIs w0 wr m M Md dd t td p k k' q q') (h8 : k.at_ ≠ 8) (hv : U64 r.ver)
    (hb : Below w0.heap.size w0 w1) (hmem : MemIs w1 (t :: td :: m.own) m M) (BT : Blk w1 t (carX m.o p (kTell p k r) q2) 100) (HT : HRow Dp.stepT w1 (t :: td :: m.own) q2 (kTell p k r).steps) (BD : Blk w1 td (dcX Md dd p k' q') 84) (HD : HRow Dp.stepT w1 (t :: td :: m.own) q3 (dkTell p k' r).steps) (hb2 : Below w1.heap.size w1 w2) :
    KIs w0 (w2.setRow td (dcX Md dd p (dkTell p k' r) q3)) m M Md dd t td p (kTell p k r) (dkTell p k' r) q2 q3 := by
  have hrg := h.rng
  have hk := k_at p k r hrg.1 (by omega) h.h3
  have FSx := Fr.row (S := [td]) (w := w2) td (dcX Md dd p (dkTell p k' r) q3) (by simp)
  have h1 : ∀ b ∈ [td], b ∈ t :: td :: m.own := by simp
  refine ⟨FSx.below (below_push2 hb hb2 (Nat.le_refl _)) (Nat.le_refl _) (fun b hb => h.lo b (h1 b hb)), (hmem.below hb2).keep FSx h1 (fun b hb e => h.ne.2.2 (by simp only [List.mem_singleton] at e; exact e ▸ hb)), FSx.blk (BT.below hb2) (by simpa using h.ne.1), Blk.row (BD.below hb2) _, (HT.keep (Keeps.of_below hb2)).keep (FSx.keeps.more h1), (HD.keep (Keeps.of_below hb2)).keep (FSx.keeps.more h1), h.sh, h.dsh, h.lo, h.ne, h.same.tell r hrg.1 (by omega), hk.1, hk.2, fun _ => h.gate h8, k_done p k r h.done hv⟩
end Go.Proofs.Ytpempcefgfmniaa.MemP

/-
  Several carry out one plan: plain laws: the invariant of what is shared, and of each.
-/
namespace Go.Proofs.Ytpempcefgfmniaa.MemP
open Go.RowKit RefP CellP Dp
set_option linter.unusedVariables false
set_option linter.unusedSimpArgs false
def okStep (i : Nat) : StepV := ⟨(i : Int) + 1, 0, 0, 100 + (i : Int), decide (i = 0)⟩
def stepsO (s : Nat) : List StepV := (List.range s).map okStep
def wordO : Int := 16390
def planO (s : Nat) : PlanV := ⟨1, ⟨1, ⟨#[]⟩, 0, []⟩, stepsO s, []⟩
def blockO (s : Nat) : BlockV := ⟨2, nodeZ, planO s, []⟩
/-- what a task was made of -/
def parO (h : Nat) : KP := ⟨h, 2, 1, wordO, 1⟩
theorem stepsO_length (s : Nat) : (stepsO s).length = s := by simp [stepsO]
theorem stepsO_drop {s j : Nat} (h : j < s) : ((stepsO s).drop j).length = s - j ∧ ((stepsO s).drop j).headD stepZ = okStep j ∧ ((stepsO s).drop j).tail = (stepsO s).drop (j + 1) := by
  have hl := stepsO_length s
  have e : (stepsO s).drop j = okStep j :: (stepsO s).drop (j + 1) := by
    rw [List.drop_eq_getElem_cons (by omega)]
    simp [stepsO]
  exact ⟨by simp [hl], by rw [e]; rfl, by rw [e]; rfl⟩
/-- what is shared: how many steps are done, whether the done is written, whether the gate is left -/
structure OI (s : Nat) (M : MemV) (c : Nat) (dn gt : Bool) : Prop where
  A : M.A = 12
  T : M.T = 4
  len : M.L.length = 45
  lb : M.B.length = 12
  s1 : 1 ≤ s
  s4 : s ≤ 4
  cs : c ≤ s
  node : ∀ i, i < s → at2 M.L (i + 1) = if i < c then (100 + (i : Int), 1) else (0, 0)
  done : at2 M.L 29 = if dn = true then (wordO, 1) else (0, 0)
  gate : (at2 M.L 44).2 = if gt = true then 2 else 1
  gate0 : gt = true → (at2 M.L 44).1 = 0
  use : (at2 M.L 17).1 = useI 1 1
  blk : M.B.getD 5 blockZ = blockO s
  gd : gt = true → dn = true
  dc : dn = true → c = s
/-- a task -/
structure TI (s : Nat) (k : KS) (c : Nat) (dn gt : Bool) : Prop where
  rng : 0 ≤ k.at_ ∧ k.at_ ≤ 8
  st : k.at_ = 3 → ∃ j, j < s ∧ j ≤ c ∧ k.steps = (stepsO s).drop j
  fin : 4 ≤ k.at_ → k.at_ ≤ 7 → c = s
  done : k.at_ = 6 ∨ k.at_ = 5 → k.done = 0
  seven : k.at_ = 7 → dn = true
  over : k.at_ = 8 → gt = true
  en : k.en = true → k.at_ = 8
theorem TI.mono {s : Nat} {k : KS} {c c' : Nat} {dn dn' gt gt' : Bool} (h : TI s k c dn gt) (h1 : c ≤ c') (h1' : c' ≤ s) (h2 : dn = true → dn' = true) (h3 : gt = true → gt' = true) : TI s k c' dn' gt' := by
  refine ⟨h.rng, fun e => ?_, fun a b => ?_, h.done, fun e => h2 (h.seven e), fun e => h3 (h.over e), h.en⟩
  · obtain ⟨j, a, b, d⟩ := h.st e
    exact ⟨j, a, by omega, d⟩
  · have := h.fin a b; omega
/-- a cell that nobody asks for is written -/
theorem OI.off {s : Nat} {M : MemV} {c : Nat} {dn gt : Bool} (h : OI s M c dn gt) (i : Nat) (v : Int × Int) (hi : 30 ≤ i ∧ i ≤ 43) : OI s { M with L := M.L.set i v } c dn gt := by
  have e : ∀ j, j ≠ i → at2 (M.L.set i v) j = at2 M.L j := fun j hj => at2_set_ne _ _ _ _ (fun e => hj e.symm)
  have h4 := h.s4
  refine ⟨h.A, h.T, by simp [h.len], h.lb, h.s1, h.s4, h.cs, fun j hj => ?_, ?_, ?_, fun g => ?_, ?_, h.blk, h.gd, h.dc⟩
  · show at2 (M.L.set i v) (j + 1) = _
    rw [e (j + 1) (by omega)]; exact h.node j hj
  · show at2 (M.L.set i v) 29 = _
    rw [e 29 (by omega)]; exact h.done
  · show (at2 (M.L.set i v) 44).2 = _
    rw [e 44 (by omega)]; exact h.gate
  · show (at2 (M.L.set i v) 44).1 = _
    rw [e 44 (by omega)]; exact h.gate0 g
  · show (at2 (M.L.set i v) 17).1 = _
    rw [e 17 (by omega)]; exact h.use
/-- what one access of a task does -/
structure Stepped (s : Nat) (M' : MemV) (k k' : KS) (c : Nat) (dn gt : Bool) (c' : Nat) (dn' gt' : Bool) : Prop where
  oi : OI s M' c' dn' gt'
  ti : TI s k' c' dn' gt'
  up : c ≤ c'
  du : dn = true → dn' = true
  gu : gt = true → gt' = true
  tu : k'.tu = true ↔ (c = 0 ∧ 1 ≤ c')
  en : (k'.en = true ∧ k.en = false) ↔ (gt = false ∧ gt' = true)
theorem same_step {s : Nat} {M' : MemV} {k k' : KS} {c : Nat} {dn gt : Bool} (o : OI s M' c dn gt) (t : TI s k' c dn gt) (h1 : k'.tu = false) (h2 : k'.en = k.en) : Stepped s M' k k' c dn gt c dn gt := by
  refine ⟨o, t, Nat.le_refl _, id, id, ⟨fun e => ?_, fun e => ?_⟩, ⟨fun e => ?_, fun e => ?_⟩⟩
  · rw [h1] at e; cases e
  · omega
  · rw [h2] at e; rw [e.1] at e; cases e.2
  · rw [e.1] at e; cases e.2
theorem load_at {L : List (Int × Int)} {i : Nat} (hl : L.length = 45) (hi : i < 45) : loadW L (i : Int) = (at2 L i).1 ∧ loadV L (i : Int) = (at2 L i).2 := by
  have h : inB L.length (i : Int) = true := inB_mk (by omega) (by omega)
  rw [loadW_yes h, loadV_yes h]; exact ⟨rfl, rfl⟩
theorem cas_at {L : List (Int × Int)} {i : Nat} (hl : L.length = 45) (hi : i < 45) (ver : Int) : casB L (i : Int) ver = decide ((at2 L i).2 = ver) := by
  have h : inB L.length (i : Int) = true := inB_mk (by omega) (by omega)
  simp [casB, h]
theorem clear_no {B : List BlockV} {i : Nat} (h : i < 12 ∨ 24 ≤ i) : clearV B 12 (i : Int) = B := by
  unfold clearV
  rw [if_neg (by simp; omega)]
theorem atO {r : Nat} {i : Nat} : (r = 0 ∧ i < 12 → atI 12 4 r (i : Int) = (i : Int)) ∧ (r = 3 ∧ i < 4 → atI 12 4 r (i : Int) = ((28 + i : Nat) : Int)) := by
  constructor
  · rintro ⟨rfl, h⟩
    rw [atI_yes (by omega) (by simp [sizeI]; omega)]; simp [fromI]
  · rintro ⟨rfl, h⟩
    rw [atI_yes (by omega) (by simp [sizeI]; omega)]; simp [fromI]
theorem hazO {h : Nat} (hh : h < 4) : hazI 12 4 (h : Int) 0 = ((36 + 2 * h : Nat) : Int) := by
  unfold hazI
  rw [if_pos (by omega)]; omega
/-- the step -/
theorem carry_step {s : Nat} {M : MemV} {c : Nat} {dn gt : Bool} {k : KS} {h : Nat} (o : OI s M c dn gt) (t : TI s k c dn gt) (hh : h < 4) (h8 : k.at_ ≠ 8) :
    ∃ c' dn' gt', Stepped s (doV M (kAcc 12 4 (parO h) k)) k (kTell (parO h) k (repV M (kAcc 12 4 (parO h) k))) c dn gt c' dn' gt' := by
  have hr := t.rng
  have l29 := load_at (i := 29) o.len (by omega)
  have l44 := load_at (i := 44) o.len (by omega)
  have hen : k.en = false := by
    cases he : k.en
    · rfl
    · exact absurd (t.en he) h8
  obtain ⟨at_, steps, done, tu, en⟩ := k
  simp only at hr h8 hen
  subst hen
  have hc : at_ = 0 ∨ at_ = 1 ∨ at_ = 2 ∨ at_ = 3 ∨ at_ = 4 ∨ at_ = 5 ∨ at_ = 6 ∨ at_ = 7 := by omega
  have g44 : gateI 12 4 = ((44 : Nat) : Int) := rfl
  have d29 : atI 12 4 3 1 = ((29 : Nat) : Int) := (atO (r := 3) (i := 1)).2 ⟨rfl, by omega⟩
  rcases hc with rfl | rfl | rfl | rfl | rfl | rfl | rfl | rfl
  · -- guard
    have ea : kAcc 12 4 (parO h) ⟨0, steps, done, tu, false⟩ = ⟨2, ((36 + 2 * h : Nat) : Int), 0, wordO, blockZ, opZ⟩ := by simp only [kAcc, parO, if_true]; rw [hazO hh]
    rw [ea]
    have hin : inB M.L.length ((36 + 2 * h : Nat) : Int) = true := inB_mk (by omega) (by rw [o.len]; omega)
    have ed : doV M ⟨2, ((36 + 2 * h : Nat) : Int), 0, wordO, blockZ, opZ⟩ = { M with L := M.L.set (36 + 2 * h) (wordO, nextV (at2 M.L (36 + 2 * h)).2) } := by
      simp only [doV, if_true, hin]
      rw [storeL_yes _ hin, show clearV M.B M.A ((36 + 2 * h : Nat) : Int) = M.B by rw [o.A]; exact clear_no (.inr (by omega))]; rfl
    rw [ed]
    refine ⟨c, dn, gt, same_step (o.off _ _ (by omega)) ⟨?_, ?_, ?_, ?_, ?_, ?_, ?_⟩ ?_ ?_⟩ <;> simp [kTell]
  · -- again
    have ea : kAcc 12 4 (parO h) ⟨1, steps, done, tu, false⟩ = ⟨1, ((44 : Nat) : Int), 0, 0, blockZ, opZ⟩ := by simp [kAcc, g44]
    rw [ea]
    have ed : doV M ⟨1, ((44 : Nat) : Int), 0, 0, blockZ, opZ⟩ = M := by simp [doV]
    have er : (repV M ⟨1, ((44 : Nat) : Int), 0, 0, blockZ, opZ⟩).ver = if gt = true then 2 else 1 := by simp only [repV, if_true]; rw [l44.2]; exact o.gate
    rw [ed]
    generalize repV M ⟨1, ((44 : Nat) : Int), 0, 0, blockZ, opZ⟩ = r at er
    cases gt
    · have hv : r.ver = (parO h).ver := by rw [er]; rfl
      refine ⟨c, dn, false, same_step o ⟨?_, ?_, ?_, ?_, ?_, ?_, ?_⟩ ?_ ?_⟩ <;> simp [kTell, hv]
    · have hv : r.ver ≠ (parO h).ver := by rw [er]; simp [parO]
      refine ⟨c, dn, true, same_step o ⟨?_, ?_, ?_, ?_, ?_, ?_, ?_⟩ ?_ ?_⟩ <;> simp [kTell, hv]
  · -- take
    have ea : kAcc 12 4 (parO h) ⟨2, steps, done, tu, false⟩ = ⟨4, 0, 0, wordO, blockZ, opZ⟩ := by simp [kAcc, parO]
    rw [ea]
    have ed : doV M ⟨4, 0, 0, wordO, blockZ, opZ⟩ = M := by simp [doV]
    have hnb : nameB M.A M.T M.L wordO = true := by
      have e1 : opensB wordO = true := by decide
      have e2 : openP wordO = 5 := by decide
      have e3 : openG wordO = 1 := by decide
      have e4 : atI 12 4 1 5 = ((17 : Nat) : Int) := by decide
      rw [o.A, o.T]
      simp only [nameB, e1, e2, e3, e4, (load_at (i := 17) o.len (by omega)).1, o.use]
      decide
    have hnp : (nameP M.A wordO).toNat = 5 := by rw [o.A]; decide
    have er : repV M ⟨4, 0, 0, wordO, blockZ, opZ⟩ = ⟨true, 0, 0, blockO s, opZ⟩ := by
      have e0 : repV M ⟨4, 0, 0, wordO, blockZ, opZ⟩ = ⟨true, 0, 0, M.B.getD (nameP M.A wordO).toNat blockZ, opZ⟩ := by simp [repV, hnb]
      rw [e0, hnp, o.blk]
    rw [ed, er]
    have hne : ¬ (stepsO s).length = 0 := by rw [stepsO_length]; have := o.s1; omega
    have ek : kTell (parO h) ⟨2, steps, done, tu, false⟩ ⟨true, 0, 0, blockO s, opZ⟩ = ⟨3, stepsO s, done, false, false⟩ := by
      simp [kTell, blockO, planO]
      intro e
      rw [e] at hne; simp at hne
    rw [ek]
    refine ⟨c, dn, gt, same_step o ⟨by simp, fun _ => ⟨0, o.s1, Nat.zero_le _, by simp⟩, by simp, by simp, by simp, by simp, by simp⟩ rfl rfl⟩
  · -- a step
    obtain ⟨j, hj, hjc, rfl⟩ := t.st rfl
    obtain ⟨e1, e2, e3⟩ := stepsO_drop hj
    have h4 := o.s4
    have ea : kAcc 12 4 (parO h) ⟨3, (stepsO s).drop j, done, tu, false⟩ = ⟨3, ((j + 1 : Nat) : Int), 0, 100 + (j : Int), blockZ, opZ⟩ := by
      have : kAcc 12 4 (parO h) ⟨3, (stepsO s).drop j, done, tu, false⟩ = ⟨3, atI 12 4 0 (KS.hd ⟨3, (stepsO s).drop j, done, tu, false⟩).cell, (KS.hd ⟨3, (stepsO s).drop j, done, tu, false⟩).ver, (KS.hd ⟨3, (stepsO s).drop j, done, tu, false⟩).new, blockZ, opZ⟩ := by simp [kAcc]
      rw [this]
      simp only [KS.hd, e2, okStep]
      have ec : ((j : Int) + 1) = ((j + 1 : Nat) : Int) := by omega
      rw [ec, (atO (r := 0) (i := j + 1)).1 ⟨rfl, by omega⟩]
    rw [ea]
    have hcas := cas_at (L := M.L) (i := j + 1) o.len (by omega) 0
    have hnode := o.node j hj
    have ek : ∀ ok : Bool, kTell (parO h) ⟨3, (stepsO s).drop j, done, tu, false⟩ ⟨ok, 0, 0, blockZ, opZ⟩ = ⟨if s - j ≤ 1 then 4 else 3, (stepsO s).drop (j + 1), done, decide (j = 0) && ok, false⟩ := by
      intro ok
      have : kTell (parO h) ⟨3, (stepsO s).drop j, done, tu, false⟩ ⟨ok, 0, 0, blockZ, opZ⟩ = ⟨if ((stepsO s).drop j).length ≤ 1 then 4 else 3, ((stepsO s).drop j).tail, done, (((stepsO s).drop j).headD stepZ).lin && ok, false⟩ := by simp [kTell, KS.hd]
      rw [this, e1, e2, e3]; rfl
    have er : repV M ⟨3, ((j + 1 : Nat) : Int), 0, 100 + (j : Int), blockZ, opZ⟩ = ⟨casB M.L ((j + 1 : Nat) : Int) 0, 0, 0, blockZ, opZ⟩ := by simp [repV]
    rw [er, ek]
    by_cases hcj : j < c
    · -- another did it
      rw [if_pos hcj] at hnode
      have hno : casB M.L ((j + 1 : Nat) : Int) 0 = false := by rw [hcas, hnode]; rfl
      have ed : doV M ⟨3, ((j + 1 : Nat) : Int), 0, 100 + (j : Int), blockZ, opZ⟩ = M := by
        simp only [doV, hno]; simp
      rw [ed, hno]
      refine ⟨c, dn, gt, same_step o ⟨?_, ?_, ?_, ?_, ?_, ?_, ?_⟩ (by simp) rfl⟩
      · simp only; split <;> omega
      · intro e
        refine ⟨j + 1, ?_, by omega, rfl⟩
        simp only at e
        split at e <;> omega
      · intro e _
        have := o.cs
        simp only at e
        split at e <;> omega
      · intro e; simp only at e; split at e <;> omega
      · intro e; simp only at e; split at e <;> omega
      · intro e; simp only at e; split at e <;> omega
      · intro e; cases e
    · -- it does it
      obtain rfl : j = c := by omega
      rw [if_neg hcj] at hnode
      have hyes : casB M.L ((j + 1 : Nat) : Int) 0 = true := by rw [hcas, hnode]; rfl
      have ed : doV M ⟨3, ((j + 1 : Nat) : Int), 0, 100 + (j : Int), blockZ, opZ⟩ = { M with L := M.L.set (j + 1) (100 + (j : Int), 1) } := by
        have e0 : doV M ⟨3, ((j + 1 : Nat) : Int), 0, 100 + (j : Int), blockZ, opZ⟩ = { M with L := casL M.L ((j + 1 : Nat) : Int) 0 (100 + (j : Int)), B := clearV M.B M.A ((j + 1 : Nat) : Int) } := by simp only [doV, hyes]; simp
        rw [e0, casL_yes _ hyes, show clearV M.B M.A ((j + 1 : Nat) : Int) = M.B by rw [o.A]; exact clear_no (.inl (by omega))]
        show ({ M with L := M.L.set (j + 1) (100 + (j : Int), nextV (at2 M.L (j + 1)).2) } : MemV) = _
        rw [hnode]; rfl
      rw [ed, hyes]
      have hdn : dn = false := by
        cases dn
        · rfl
        · have := o.dc rfl; omega
      have hgt : gt = false := by
        cases gt
        · rfl
        · have := o.gd rfl; rw [hdn] at this; cases this
      subst hdn hgt
      have e : ∀ i, i ≠ j + 1 → at2 (M.L.set (j + 1) (100 + (j : Int), 1)) i = at2 M.L i := fun i hi => at2_set_ne _ _ _ _ (fun e => hi e.symm)
      refine ⟨j + 1, false, false, ⟨⟨o.A, o.T, by simp [o.len], o.lb, o.s1, o.s4, hj, fun i hi => ?_, ?_, ?_, (fun g => by cases g), ?_, o.blk, (fun g => by cases g), (fun g => by cases g)⟩, ⟨?_, ?_, ?_, ?_, ?_, ?_, ?_⟩, by omega, id, id, ?_, by simp⟩⟩
      · show at2 (M.L.set (j + 1) _) (i + 1) = _
        by_cases hi2 : i = j
        · subst hi2
          rw [at2_set_self _ _ _ (by rw [o.len]; omega), if_pos (by omega)]
        · rw [e (i + 1) (by omega), o.node i hi]
          by_cases hi3 : i < j
          · rw [if_pos hi3, if_pos (by omega)]
          · rw [if_neg hi3, if_neg (by omega)]
      · show at2 (M.L.set (j + 1) _) 29 = _
        rw [e 29 (by omega)]; exact o.done
      · show (at2 (M.L.set (j + 1) _) 44).2 = _
        rw [e 44 (by omega)]; exact o.gate
      · show (at2 (M.L.set (j + 1) _) 17).1 = _
        rw [e 17 (by omega)]; exact o.use
      · simp only; split <;> omega
      · intro e
        refine ⟨j + 1, ?_, by omega, rfl⟩
        simp only at e
        split at e <;> omega
      · intro e _
        simp only at e
        split at e <;> omega
      · intro e; simp only at e; split at e <;> omega
      · intro e; simp only at e; split at e <;> omega
      · intro e; simp only at e; split at e <;> omega
      · intro e; cases e
      · simp
  · -- look
    have hcs := t.fin (by simp) (by simp)
    have ea : kAcc 12 4 (parO h) ⟨4, steps, done, tu, false⟩ = ⟨1, ((29 : Nat) : Int), 0, 0, blockZ, opZ⟩ := by
      have : kAcc 12 4 (parO h) ⟨4, steps, done, tu, false⟩ = ⟨1, atI 12 4 3 1, 0, 0, blockZ, opZ⟩ := by simp [kAcc, parO]
      rw [this, d29]
    rw [ea]
    have ed : doV M ⟨1, ((29 : Nat) : Int), 0, 0, blockZ, opZ⟩ = M := by simp [doV]
    have er : (repV M ⟨1, ((29 : Nat) : Int), 0, 0, blockZ, opZ⟩).word = (if dn = true then (wordO, (1 : Int)) else (0, 0)).1 ∧ (repV M ⟨1, ((29 : Nat) : Int), 0, 0, blockZ, opZ⟩).ver = (if dn = true then (wordO, (1 : Int)) else (0, 0)).2 := by
      simp only [repV, if_true]; rw [l29.1, l29.2, o.done]; exact ⟨rfl, rfl⟩
    rw [ed]
    generalize repV M ⟨1, ((29 : Nat) : Int), 0, 0, blockZ, opZ⟩ = r at er
    cases dn
    · have hw : r.word = 0 := er.1
      have hv : r.ver = 0 := er.2
      have ek : kTell (parO h) ⟨4, steps, done, tu, false⟩ r = ⟨5, steps, 0, false, false⟩ := by simp [kTell, hw, hv]
      rw [ek]
      exact ⟨c, false, gt, same_step o ⟨by simp, by simp, fun _ _ => hcs, fun _ => rfl, by simp, by simp, by simp⟩ rfl rfl⟩
    · have hw : r.word ≠ 0 := by rw [er.1]; decide
      have ek : kTell (parO h) ⟨4, steps, done, tu, false⟩ r = ⟨7, steps, r.ver, false, false⟩ := by simp [kTell, hw]
      rw [ek]
      exact ⟨c, true, gt, same_step o ⟨by simp, by simp, fun _ _ => hcs, by simp, fun _ => rfl, by simp, by simp⟩ rfl rfl⟩
  · -- sure
    have hcs := t.fin (by simp) (by simp)
    have hd0 := t.done (.inr rfl)
    simp only at hd0
    subst hd0
    have ea : kAcc 12 4 (parO h) ⟨5, steps, 0, tu, false⟩ = ⟨1, ((44 : Nat) : Int), 0, 0, blockZ, opZ⟩ := by simp [kAcc, g44]
    rw [ea]
    have ed : doV M ⟨1, ((44 : Nat) : Int), 0, 0, blockZ, opZ⟩ = M := by simp [doV]
    have er : (repV M ⟨1, ((44 : Nat) : Int), 0, 0, blockZ, opZ⟩).ver = if gt = true then 2 else 1 := by simp only [repV, if_true]; rw [l44.2]; exact o.gate
    rw [ed]
    generalize repV M ⟨1, ((44 : Nat) : Int), 0, 0, blockZ, opZ⟩ = r at er
    cases gt
    · have hv : r.ver = (parO h).ver := by rw [er]; rfl
      have ek : kTell (parO h) ⟨5, steps, 0, tu, false⟩ r = ⟨6, steps, 0, false, false⟩ := by simp [kTell, hv]
      rw [ek]
      exact ⟨c, dn, false, same_step o ⟨by simp, by simp, fun _ _ => hcs, fun _ => rfl, by simp, by simp, by simp⟩ rfl rfl⟩
    · have hv : r.ver ≠ (parO h).ver := by rw [er]; simp [parO]
      have ek : kTell (parO h) ⟨5, steps, 0, tu, false⟩ r = ⟨8, steps, 0, false, false⟩ := by simp [kTell, hv]
      rw [ek]
      exact ⟨c, dn, true, same_step o ⟨by simp, by simp, by simp, by simp, by simp, fun _ => rfl, by simp⟩ rfl rfl⟩
  · -- tell
    have hcs := t.fin (by simp) (by simp)
    have hd0 := t.done (.inl rfl)
    simp only at hd0
    subst hd0
    have ea : kAcc 12 4 (parO h) ⟨6, steps, 0, tu, false⟩ = ⟨3, ((29 : Nat) : Int), 0, wordO, blockZ, opZ⟩ := by
      have : kAcc 12 4 (parO h) ⟨6, steps, 0, tu, false⟩ = ⟨3, atI 12 4 3 1, 0, maxW wordO, blockZ, opZ⟩ := by simp [kAcc, parO]
      rw [this, d29]; rfl
    rw [ea]
    have hcas := cas_at (L := M.L) (i := 29) o.len (by omega) 0
    have ek : ∀ r, kTell (parO h) ⟨6, steps, 0, tu, false⟩ r = ⟨7, steps, 0, false, false⟩ := fun r => by simp [kTell]
    rw [ek]
    cases dn
    · have hyes : casB M.L ((29 : Nat) : Int) 0 = true := by rw [hcas, o.done]; rfl
      have ed : doV M ⟨3, ((29 : Nat) : Int), 0, wordO, blockZ, opZ⟩ = { M with L := M.L.set 29 (wordO, 1) } := by
        have e0 : doV M ⟨3, ((29 : Nat) : Int), 0, wordO, blockZ, opZ⟩ = { M with L := casL M.L ((29 : Nat) : Int) 0 wordO, B := clearV M.B M.A ((29 : Nat) : Int) } := by simp only [doV, hyes]; simp
        rw [e0, casL_yes _ hyes, show clearV M.B M.A ((29 : Nat) : Int) = M.B by rw [o.A]; exact clear_no (.inr (by omega))]
        show ({ M with L := M.L.set 29 (wordO, nextV (at2 M.L 29).2) } : MemV) = _
        rw [o.done]; rfl
      rw [ed]
      have hgt : gt = false := by
        cases gt
        · rfl
        · have := o.gd rfl; cases this
      subst hgt
      have h4 := o.s4
      have e : ∀ i, i ≠ 29 → at2 (M.L.set 29 (wordO, 1)) i = at2 M.L i := fun i hi => at2_set_ne _ _ _ _ (fun e => hi e.symm)
      refine ⟨c, true, false, ⟨⟨o.A, o.T, by simp [o.len], o.lb, o.s1, o.s4, o.cs, fun i hi => ?_, ?_, ?_, (fun g => by cases g), ?_, o.blk, (fun g => by cases g), fun _ => hcs⟩, ⟨by simp, by simp, fun _ _ => hcs, by simp, fun _ => rfl, by simp, by simp⟩, Nat.le_refl _, fun _ => rfl, id, ⟨(fun e => by cases e), fun e => by omega⟩, by simp⟩⟩
      · show at2 (M.L.set 29 _) (i + 1) = _
        rw [e (i + 1) (by omega)]; exact o.node i hi
      · show at2 (M.L.set 29 _) 29 = _
        rw [at2_set_self _ _ _ (by rw [o.len]; omega)]; rfl
      · show (at2 (M.L.set 29 _) 44).2 = _
        rw [e 44 (by omega)]; exact o.gate
      · show (at2 (M.L.set 29 _) 17).1 = _
        rw [e 17 (by omega)]; exact o.use
    · have hno : casB M.L ((29 : Nat) : Int) 0 = false := by rw [hcas, o.done]; rfl
      have ed : doV M ⟨3, ((29 : Nat) : Int), 0, wordO, blockZ, opZ⟩ = M := by
        simp only [doV, hno]; simp
      rw [ed]
      exact ⟨c, true, gt, same_step o ⟨by simp, by simp, fun _ _ => hcs, by simp, fun _ => rfl, by simp, by simp⟩ rfl rfl⟩
  · -- leave
    have hcs := t.fin (by simp) (by simp)
    have hdn := t.seven rfl
    subst hdn
    have ea : kAcc 12 4 (parO h) ⟨7, steps, done, tu, false⟩ = ⟨3, ((44 : Nat) : Int), 1, 0, blockZ, opZ⟩ := by simp [kAcc, parO, g44]
    rw [ea]
    have hcas := cas_at (L := M.L) (i := 44) o.len (by omega) 1
    have ek : ∀ r, kTell (parO h) ⟨7, steps, done, tu, false⟩ r = ⟨8, steps, done, false, r.ok⟩ := fun r => by simp [kTell]
    have er : (repV M ⟨3, ((44 : Nat) : Int), 1, 0, blockZ, opZ⟩).ok = casB M.L ((44 : Nat) : Int) 1 := by simp [repV]
    rw [ek, er]
    cases gt
    · have hyes : casB M.L ((44 : Nat) : Int) 1 = true := by rw [hcas, o.gate]; rfl
      have ed : doV M ⟨3, ((44 : Nat) : Int), 1, 0, blockZ, opZ⟩ = { M with L := M.L.set 44 (0, 2) } := by
        have e0 : doV M ⟨3, ((44 : Nat) : Int), 1, 0, blockZ, opZ⟩ = { M with L := casL M.L ((44 : Nat) : Int) 1 0, B := clearV M.B M.A ((44 : Nat) : Int) } := by simp only [doV, hyes]; simp
        rw [e0, casL_yes _ hyes, show clearV M.B M.A ((44 : Nat) : Int) = M.B by rw [o.A]; exact clear_no (.inr (by omega))]
        show ({ M with L := M.L.set 44 (0, nextV (at2 M.L 44).2) } : MemV) = _
        rw [o.gate]; rfl
      rw [ed, hyes]
      have h4 := o.s4
      have e : ∀ i, i ≠ 44 → at2 (M.L.set 44 (0, 2)) i = at2 M.L i := fun i hi => at2_set_ne _ _ _ _ (fun e => hi e.symm)
      refine ⟨c, true, true, ⟨⟨o.A, o.T, by simp [o.len], o.lb, o.s1, o.s4, o.cs, fun i hi => ?_, ?_, ?_, fun g => ?_, ?_, o.blk, fun _ => rfl, fun _ => hcs⟩, ⟨by simp, by simp, by simp, by simp, by simp, fun _ => rfl, fun _ => rfl⟩, Nat.le_refl _, id, fun _ => rfl, ⟨(fun e => by cases e), fun e => by omega⟩, by simp⟩⟩
      · show at2 (M.L.set 44 _) (i + 1) = _
        rw [e (i + 1) (by omega)]; exact o.node i hi
      · show at2 (M.L.set 44 _) 29 = _
        rw [e 29 (by omega)]; exact o.done
      · show (at2 (M.L.set 44 _) 44).2 = _
        rw [at2_set_self _ _ _ (by rw [o.len]; omega)]; rfl
      · show (at2 (M.L.set 44 _) 44).1 = _
        rw [at2_set_self _ _ _ (by rw [o.len]; omega)]
      · show (at2 (M.L.set 44 _) 17).1 = _
        rw [e 17 (by omega)]; exact o.use
    · have hno : casB M.L ((44 : Nat) : Int) 1 = false := by rw [hcas, o.gate]; rfl
      have ed : doV M ⟨3, ((44 : Nat) : Int), 1, 0, blockZ, opZ⟩ = M := by
        simp only [doV, hno]; simp
      rw [ed, hno]
      exact ⟨c, true, true, same_step o ⟨by simp, by simp, by simp, by simp, by simp, fun _ => rfl, by simp⟩ rfl rfl⟩
end Go.Proofs.Ytpempcefgfmniaa.MemP

/-
  Several carry out one plan: plain laws: how it begins, whose turn it is.
-/
namespace Go.Proofs.Ytpempcefgfmniaa.MemP
open Go.RowKit RefP CellP Dp
set_option linter.unusedVariables false
set_option linter.unusedSimpArgs false
/-- how often it was the turn of h, of many, ahead of x -/
def turnsO (many h x : Nat) : Nat := (x + many - 1 - h) / many
theorem turns_step (many h x : Nat) (h1 : 1 ≤ many) (h2 : many ≤ 4) (h3 : h < many) : turnsO many h (x + 1) = turnsO many h x + if x % many = h then 1 else 0 := by
  unfold turnsO
  have : many = 1 ∨ many = 2 ∨ many = 3 ∨ many = 4 := by omega
  rcases this with rfl | rfl | rfl | rfl <;> split <;> omega
theorem turns_all (many h L : Nat) (h1 : 1 ≤ many) (h2 : many ≤ 4) (h3 : h < many) : turnsO many h (L + 100 * many) = turnsO many h L + 100 := by
  unfold turnsO
  have : many = 1 ∨ many = 2 ∨ many = 3 ∨ many = 4 := by omega
  rcases this with rfl | rfl | rfl | rfl <;> omega
theorem turns_mono (many h x y : Nat) (h1 : 1 ≤ many) (h2 : x ≤ y) : turnsO many h x ≤ turnsO many h y := by
  unfold turnsO
  exact Nat.div_le_div_right (by omega)
/-! the beginning -/
def M0O : MemV := newV 12 4 0
def L1O : List (Int × Int) := (freshL 12 4 0).set 17 (5, 1)
def M1O : MemV := { M0O with L := L1O, B := ((List.replicate 12 blockZ).set 0 blockE).set 5 blockZ }
def M2O (s : Nat) : MemV := { M1O with B := (((List.replicate 12 blockZ).set 0 blockE).set 5 blockZ).set 5 (blockO s) }
def gwO : Int := shutI 2 1 wordO
def M3O (s : Nat) : MemV := { M2O s with L := L1O.set 44 (gwO, 1) }
theorem at_use5 : atI 12 4 1 5 = 17 := by decide
theorem at_gate44 : gateI 12 4 = 44 := by decide
theorem use11 : useI 1 1 = 5 := by decide
theorem pack51 : packI 5 1 = wordO := by decide
theorem do1 : doV M0O ⟨2, 17, 0, 5, blockZ, opZ⟩ = M1O := by
  have hin : inB M0O.L.length 17 = true := by decide
  have e : doV M0O ⟨2, 17, 0, 5, blockZ, opZ⟩ = { M0O with L := storeL M0O.L 17 5, B := clearV M0O.B M0O.A 17 } := by simp [doV, hin]
  rw [e, storeL_yes _ hin]
  have e2 : clearV M0O.B M0O.A 17 = M0O.B.set 5 blockZ := by
    unfold clearV
    rw [if_pos (by decide)]; rfl
  rw [e2]
  have e3 : writeL M0O.L 17 5 = L1O := by
    have : at2 M0O.L 17 = (0, 0) := by decide
    show (freshL 12 4 0).set 17 (5, nextV (at2 M0O.L 17).2) = _
    rw [this]; rfl
  rw [e3]; rfl
theorem do2 (s : Nat) : doV M1O ⟨5, 0, 0, wordO, blockO s, opZ⟩ = M2O s := by
  have hn : nameB M1O.A M1O.T M1O.L wordO = true := by decide
  have hp : (nameP M1O.A wordO).toNat = 5 := by decide
  have e : doV M1O ⟨5, 0, 0, wordO, blockO s, opZ⟩ = { M1O with B := M1O.B.set (nameP M1O.A wordO).toNat (blockO s) } := by simp [doV, hn]
  rw [e, hp]; rfl
theorem do3 (s : Nat) : doV (M2O s) ⟨2, 44, 0, gwO, blockZ, opZ⟩ = M3O s := by
  have hin : inB (M2O s).L.length 44 = true := by
    show inB L1O.length 44 = true
    decide
  have e : doV (M2O s) ⟨2, 44, 0, gwO, blockZ, opZ⟩ = { M2O s with L := storeL (M2O s).L 44 gwO, B := clearV (M2O s).B (M2O s).A 44 } := by simp [doV, hin]
  rw [e, storeL_yes _ hin]
  have e2 : clearV (M2O s).B (M2O s).A 44 = (M2O s).B := by
    unfold clearV
    rw [if_neg (by show ¬ (((12 : Nat) : Int) ≤ 44 ∧ (44 : Int) < 2 * ((12 : Nat) : Int)); decide)]
  rw [e2]
  have e3 : writeL (M2O s).L 44 gwO = L1O.set 44 (gwO, 1) := by
    have : at2 L1O 44 = (0, 0) := by decide
    show L1O.set 44 (gwO, nextV (at2 L1O 44).2) = _
    rw [this]; rfl
  rw [e3]; rfl
theorem begin_oi (s : Nat) (h1 : 1 ≤ s) (h4 : s ≤ 4) : OI s (M3O s) 0 false false := by
  refine ⟨rfl, rfl, ?_, ?_, h1, h4, Nat.zero_le _, fun i hi => ?_, ?_, ?_, (fun h => by cases h), ?_, ?_, (fun h => by cases h), (fun h => by cases h)⟩
  · show (L1O.set 44 (gwO, 1)).length = 45
    rw [List.length_set]; decide
  · show (((((List.replicate 12 blockZ).set 0 blockE).set 5 blockZ).set 5 (blockO s))).length = 12
    simp
  · show at2 (L1O.set 44 (gwO, 1)) (i + 1) = _
    rw [at2_set_ne _ _ _ _ (by omega), if_neg (by omega)]
    have : i = 0 ∨ i = 1 ∨ i = 2 ∨ i = 3 := by omega
    rcases this with rfl | rfl | rfl | rfl <;> decide
  · show at2 (L1O.set 44 (gwO, 1)) 29 = _
    rw [at2_set_ne _ _ _ _ (by omega)]; decide
  · show (at2 (L1O.set 44 (gwO, 1)) 44).2 = _
    rw [at2_set_self _ _ _ (by decide)]; rfl
  · show (at2 (L1O.set 44 (gwO, 1)) 17).1 = _
    rw [at2_set_ne _ _ _ _ (by omega)]; decide
  · show ((((List.replicate 12 blockZ).set 0 blockE).set 5 blockZ).set 5 (blockO s)).getD 5 blockZ = _
    simp [List.getD_eq_getElem?_getD]
theorem gate_o : gateB 2 1 wordO = true := by decide
end Go.Proofs.Ytpempcefgfmniaa.MemP

/-
  Several carry out one plan: what lies in memory.
-/
namespace Go.Proofs.Ytpempcefgfmniaa.MemP
open Go.RowKit RefP CellP Dp
set_option linter.unusedVariables false
set_option linter.unusedSimpArgs false
/-! rows that grow -/
theorem infoStep : (Try.prog.info? 94).map (fun i => (i.zero, i.size, i.bytes)) = some (some (.agg #[.int .i64 0, .int .u64 0, .int .u64 0, .int .u64 0, .bool false]), 5, 40) := by kernel_rfl
abbrev stepG (x : StepV) (j : Nat) : Value := (stepL x).getD j (.int .i64 0)
theorem lt5 {r : Nat} (h : r < 5) : r = 0 ∨ r = 1 ∨ r = 2 ∨ r = 3 ∨ r = 4 := by omega
theorem addStep {w : World} (base : Nat) {a : Option Addr} {c : Nat} {l : List StepV} (h : OwnR 5 stepG stepZ w base 94 a c l) {b : Nat} (x : StepV) (B : Blk w b (stepL x).toArray 94) (hn : l.length + 1 ≤ 60000) (hbase : base ≤ w.heap.size) :
    ∃ g cap w', AddedR Try.prog 5 stepG stepZ w base 31 94 a c l (.slice (some ⟨b, 0, none⟩) 1 1) 1 (l ++ [x]) g cap w' := by
  obtain ⟨i0, hi, hz0, hz1, hz2⟩ := info_parts' infoStep
  have hx : RecS 5 stepG stepZ w (some ⟨b, 0, none⟩) [x] := rec_lit B x (fun j hj => by rcases lt5 hj with e | e | e | e | e <;> subst e <;> rfl)
  exact addRecs base _ _ i0 _ 40 Try.underlying31 hi hz0 hz1 hz2 (by simp [Value.cells]) (by omega) (fun _ j hj => by rcases lt5 hj with e | e | e | e | e <;> subst e <;> rfl) h hx (by simp) (by simp [maxLen]; omega) (by simp; omega) hbase
theorem own_hrow {w : World} {base : Nat} {a : Option Addr} {c : Nat} {l : List StepV} (h : OwnR 5 stepG stepZ w base 94 a c l) (hok : ∀ x ∈ l, StepOk x) {S : List Nat} (hS : ∀ b ∈ S, b < base) : HRow Dp.stepT w S ⟨a, c⟩ l := by
  have hcap : l.length ≤ c ∧ c ≤ maxLen := by
    rcases h.own.2 with q | ⟨g, cap, cur, e', hg, hh, hn, hm, hs, r⟩
    · have := q.1
      injection this with e1 e2 e3
      subst e3
      exact ⟨by omega, Nat.zero_le _⟩
    · injection e' with e1 e2 e3
      subst e3
      exact ⟨hn, hm⟩
  refine ⟨hcap.1, hcap.2, fun h0 => ?_⟩
  obtain ⟨b, off, ha, hb, _⟩ := h.read.cell 0 h0 (by omega)
  refine ⟨b, off, ha, hb, fun hb' => ?_, fun i x hx => ?_⟩
  · have h1 := hS b hb'
    subst ha
    have := h.own.blk b off rfl
    omega
  have hi : i < l.length := (List.getElem?_eq_some_iff.1 hx).1
  obtain ⟨b', off', ha', _, hc⟩ := h.read.cell i hi (by omega)
  rw [ha] at ha'
  simp only [Option.some.injEq, Addr.mk.injEq, and_true] at ha'
  obtain ⟨rfl, rfl⟩ := ha'
  have hx' : l.getD i stepZ = x := by rw [List.getD_eq_getElem?_getD, hx]; rfl
  refine ⟨stepL x, stepT_mk (hok x (List.mem_of_getElem? hx)), fun j v hj => ?_⟩
  have hj5 : j < 5 := (List.getElem?_eq_some_iff.1 hj).1
  have := hc j hj5
  rw [hx'] at this
  rw [show off + i * Dp.stepT.k + j = off + i * 5 + j from rfl, this]
  show some ((stepL x).getD j _) = _
  rw [List.getD_eq_getElem?_getD, hj]; rfl
theorem okStep_ok {i : Nat} (h : i < 4) : StepOk (okStep i) :=
  ⟨by unfold okStep I64; simp only; omega, by unfold okStep U64; simp only; omega, by unfold okStep U64; simp only; omega, by unfold okStep U64; simp only; omega⟩
theorem stepsO_ok {s : Nat} (h : s ≤ 4) : ∀ x ∈ stepsO s, StepOk x := by
  intro x hx
  simp only [stepsO, List.mem_map, List.mem_range] at hx
  obtain ⟨i, hi, rfl⟩ := hx
  exact okStep_ok (by omega)
theorem stepsO_succ (s : Nat) : stepsO (s + 1) = stepsO s ++ [okStep s] := by simp [stepsO, List.range_succ]
abbrev taskG (t : Nat) (_ : Nat) : Value := .pointer (some ⟨t, 0, none⟩)
theorem infoTaskP : (Try.prog.info? 80).map (fun i => (i.zero, i.size, i.bytes)) = some (some (.pointer none), 1, 8) := by kernel_rfl
theorem addTask {w : World} (base : Nat) {a : Option Addr} {c : Nat} {l : List Nat} (h : OwnR 1 taskG 0 w base 80 a c l) {b : Nat} (t : Nat) (B : Blk w b #[.pointer (some ⟨t, 0, none⟩)] 80) (hn : l.length + 1 ≤ 60000) (hbase : base ≤ w.heap.size) :
    ∃ g cap w', AddedR Try.prog 1 taskG 0 w base 97 80 a c l (.slice (some ⟨b, 0, none⟩) 1 1) 1 (l ++ [t]) g cap w' := by
  obtain ⟨i0, hi, hz0, hz1, hz2⟩ := info_parts' infoTaskP
  have hx : RecS 1 taskG 0 w (some ⟨b, 0, none⟩) [t] := rec_lit B t (fun j hj => by
    have e : j = 0 := by omega
    subst e
    rfl)
  exact addRecs base _ _ i0 _ 8 Try.underlying97 hi hz0 hz1 hz2 (by simp [Value.cells]) (by omega) (fun _ _ _ => rfl) h hx (by simp) (by simp [maxLen]; omega) (by simp; omega) hbase
theorem task_cell {w : World} {a : Option Addr} {l : List Nat} (h : RecS 1 taskG 0 w a l) (k : Nat) (hk : k < l.length) : ∃ b off, a = some ⟨b, off, none⟩ ∧ b < w.heap.size ∧ w.cell? ⟨b, off + k, none⟩ = some (.pointer (some ⟨l.getD k 0, 0, none⟩)) := by
  obtain ⟨b, off, e, hb, hc⟩ := h.cell k hk (by omega)
  refine ⟨b, off, e, hb, ?_⟩
  have := hc 0 (by omega)
  simpa using this
theorem par_ok {h : Nat} (hh : h < 4) : KPok (parO h) := ⟨by unfold parO I64; simp only; omega, by show I64 2; unfold I64; omega, by show I64 1; unfold I64; omega, by show U64 16390; unfold U64; omega, by show U64 1; unfold U64; omega⟩
def k0O : KS := ⟨0, [], 0, false, false⟩
theorem kNew_o {h : Nat} (hh : h < 4) : kNew 4 (parO h) = k0O := by
  have : kNewAt 4 (parO h) = 0 := by
    unfold kNewAt
    rw [if_pos ⟨gate_o, by show (2 : Int) ≤ 2; omega, by show 0 ≤ ((h : Nat) : Int); omega, by show ((h : Nat) : Int) < ((4 : Nat) : Int); omega, by show (1 : Int) < ((4 : Nat) : Int); omega⟩, if_neg (by show ¬ ((2 : Int) = 3); omega)]
  unfold kNew k0O
  rw [this]
theorem ti0 (s c : Nat) (dn gt : Bool) : TI s k0O c dn gt := ⟨⟨by decide, by decide⟩, (fun h => by cases h), (fun h => by exact absurd h (by decide)), (fun h => by exact absurd h (by decide)), (fun h => by cases h), (fun h => by cases h), (fun h => by cases h)⟩
/-! the tasks beside the memory -/
def blksO (m : MemId) (tb : Nat) (ts : Nat → Nat) (many : Nat) : List Nat := tb :: ((List.range many).map ts ++ m.own)
theorem blks_task {m : MemId} {tb : Nat} {ts : Nat → Nat} {many h : Nat} (hh : h < many) : ts h ∈ blksO m tb ts many := by
  simp only [blksO, List.mem_cons, List.mem_append, List.mem_map, List.mem_range]
  exact .inr (.inl ⟨h, hh, rfl⟩)
theorem blks_own {m : MemId} {tb : Nat} {ts : Nat → Nat} {many : Nat} : ∀ b ∈ m.own, b ∈ blksO m tb ts many := by
  intro b hb
  simp only [blksO, List.mem_cons, List.mem_append]
  exact .inr (.inr hb)
structure CO (w wr : World) (m : MemId) (M : MemV) (tb : Nat) (ts : Nat → Nat) (many s : Nat) (ks : Nat → KS) (c : Nat) (dn gt : Bool) : Prop where
  b : Below w.heap.size w wr
  mem : MemIs wr (blksO m tb ts many) m M
  tbl : tb < wr.heap.size
  row : ∀ h, h < many → wr.cell? ⟨tb, h, none⟩ = some (.pointer (some ⟨ts h, 0, none⟩))
  task : ∀ h, h < many → ∃ q : Hd, Blk wr (ts h) (carX m.o (parO h) (ks h) q) 100 ∧ HRow Dp.stepT wr (blksO m tb ts many) q (ks h).steps
  lo : ∀ b ∈ blksO m tb ts many, w.heap.size ≤ b
  inj : ∀ h h', h < many → h' < many → ts h = ts h' → h = h'
  ne : tb ∉ m.own ∧ ∀ h, h < many → ts h ∉ m.own ∧ ts h ≠ tb
  m4 : many ≤ 4
  oi : OI s M c dn gt
  ti : ∀ h, h < many → TI s (ks h) c dn gt
  du : ∀ h, h < many → U64 (ks h).done
theorem CO.lt {w wr : World} {m : MemId} {M : MemV} {tb : Nat} {ts : Nat → Nat} {many s : Nat} {ks : Nat → KS} {c : Nat} {dn gt : Bool} (H : CO w wr m M tb ts many s ks c dn gt) : ∀ b ∈ blksO m tb ts many, b < wr.heap.size := by
  intro b hb
  simp only [blksO, List.mem_cons, List.mem_append, List.mem_map, List.mem_range] at hb
  rcases hb with rfl | ⟨h, hh, rfl⟩ | hb
  · exact H.tbl
  · obtain ⟨q, B, _⟩ := H.task h hh
    exact B.lt
  · exact H.mem.lt b hb
theorem CO.keep {w wr wx : World} {S' : List Nat} {m : MemId} {M M' : MemV} {tb : Nat} {ts : Nat → Nat} {many s : Nat} {ks : Nat → KS} {c : Nat} {dn gt : Bool} (H : CO w wr m M tb ts many s ks c dn gt) (F : Fr S' wr wx) (hS : ∀ b ∈ S', b ∈ [m.g, m.gb, m.gr]) (hM : MemIs wx (blksO m tb ts many) m M') (ho : OI s M' c dn gt) : CO w wx m M' tb ts many s ks c dn gt := by
  have h3 : ∀ b ∈ [m.g, m.gb, m.gr], b ∈ m.own := by simp [MemId.own]
  have h4 : ∀ b ∈ S', b ∈ blksO m tb ts many := fun b hb => blks_own b (h3 b (hS b hb))
  refine ⟨F.below H.b (Nat.le_refl _) (fun b hb => H.lo b (h4 b hb)), hM, Nat.lt_of_lt_of_le H.tbl F.size, fun h hh => ?_, fun h hh => ?_, H.lo, H.inj, H.ne, H.m4, ho, H.ti, H.du⟩
  · rw [F.keeps.cell (p := ⟨tb, h, none⟩) H.tbl (fun e => H.ne.1 (h3 _ (hS _ e)))]; exact H.row h hh
  · obtain ⟨q, B, hr⟩ := H.task h hh
    exact ⟨q, F.blk B (fun e => (H.ne.2 h hh).1 (h3 _ (hS _ e))), hr.keep (F.keeps.more h4)⟩
theorem CO.under {w wr wx : World} {m : MemId} {M : MemV} {tb : Nat} {ts : Nat → Nat} {many s : Nat} {ks : Nat → KS} {c : Nat} {dn gt : Bool} (H : CO w wr m M tb ts many s ks c dn gt) (hb : Below wr.heap.size wr wx) : CO w wx m M tb ts many s ks c dn gt :=
  H.keep (S' := []) (Fr.of_below hb) (by simp) (H.mem.below hb) H.oi
theorem CO.h3 {w wr : World} {m : MemId} {M : MemV} {tb : Nat} {ts : Nat → Nat} {many s : Nat} {ks : Nat → KS} {c : Nat} {dn gt : Bool} (H : CO w wr m M tb ts many s ks c dn gt) {h : Nat} (hh : h < many) : (ks h).at_ = 3 → 0 < (ks h).steps.length := by
  intro e
  obtain ⟨j, hj, _, hs⟩ := (H.ti h hh).st e
  rw [hs, (stepsO_drop hj).1]; omega
theorem CO.next {w wr : World} {m : MemId} {M : MemV} {tb : Nat} {ts : Nat → Nat} {many s : Nat} {ks : Nat → KS} {c : Nat} {dn gt : Bool} (H : CO w wr m M tb ts many s ks c dn gt) {h : Nat} (hh : h < many) (h8 : (ks h).at_ ≠ 8) :
    Calls Try.prog 36 #[.pointer (some ⟨ts h, 0, none⟩)] wr fun e w' => e = .returned (.tuple #[.agg (acc26 nilH (kAcc 12 4 (parO h) (ks h))).toArray, .bool true]) ∧ Below wr.heap.size wr w' := by
  obtain ⟨bs, hM⟩ := H.mem.at_
  obtain ⟨q, B, hr⟩ := H.task h hh
  have hrg := (H.ti h hh).rng
  have hm := H.m4
  rw [← H.oi.A, ← H.oi.T]
  exact k_next (ts h) (parO h) (ks h) q wr hM B (par_ok (by omega)) hr hrg.1 (by omega) (H.h3 hh)
theorem CO.over {w wr : World} {m : MemId} {M : MemV} {tb : Nat} {ts : Nat → Nat} {many s : Nat} {ks : Nat → KS} {c : Nat} {dn gt : Bool} (H : CO w wr m M tb ts many s ks c dn gt) {h : Nat} (hh : h < many) (h8 : (ks h).at_ = 8) :
    Calls Try.prog 36 #[.pointer (some ⟨ts h, 0, none⟩)] wr fun e w' => e = .returned (.tuple #[.agg (accY 0 0 0 0), .bool false]) ∧ Below wr.heap.size wr w' := by
  obtain ⟨bs, hM⟩ := H.mem.at_
  obtain ⟨q, B, hr⟩ := H.task h hh
  exact k_over (ts h) (parO h) (ks h) q wr hM B h8
theorem CO.acc {w wr : World} {m : MemId} {M : MemV} {tb : Nat} {ts : Nat → Nat} {many s : Nat} {ks : Nat → KS} {c : Nat} {dn gt : Bool} (H : CO w wr m M tb ts many s ks c dn gt) {h : Nat} (hh : h < many) (W : World) : AccOk W [] nilH (kAcc 12 4 (parO h) (ks h)) := by
  obtain ⟨q, B, hr⟩ := H.task h hh
  have hm := H.m4
  exact k_ok (by omega) (by omega) (par_ok (by omega)) (H.du h hh) hr (H.h3 hh)
/-- one of them told -/
def upd (ks : Nat → KS) (h : Nat) (k : KS) : Nat → KS := fun x => if x = h then k else ks x
theorem CO.tell {w wr w1 : World} {m : MemId} {M : MemV} {tb : Nat} {ts : Nat → Nat} {many s : Nat} {ks : Nat → KS} {c : Nat} {dn gt : Bool} {e1 : Ending} (H : CO w wr m M tb ts many s ks c dn gt) {h : Nat} (hh : h < many) (h8 : (ks h).at_ ≠ 8) (D : Did wr (blksO m tb ts many) m M (kAcc 12 4 (parO h) (ks h)) e1 w1) {qr : BlockH} (hr : RepOk w1 (blksO m tb ts many) qr (repV M (kAcc 12 4 (parO h) (ks h)))) :
    Calls Try.prog 40 #[.pointer (some ⟨ts h, 0, none⟩), .agg (repA qr (repV M (kAcc 12 4 (parO h) (ks h))))] w1 fun e w' => e = .returned (.tuple #[]) ∧ ∃ M' c' dn' gt', Stepped s M' (ks h) (kTell (parO h) (ks h) (repV M (kAcc 12 4 (parO h) (ks h)))) c dn gt c' dn' gt' ∧ CO w w' m M' tb ts many s (upd ks h (kTell (parO h) (ks h) (repV M (kAcc 12 4 (parO h) (ks h))))) c' dn' gt' := by
  have hm := H.m4
  obtain ⟨c', dn', gt', hS⟩ := carry_step (h := h) H.oi (H.ti h hh) (by omega) h8
  have h3 : ∀ b ∈ [m.g, m.gb, m.gr], b ∈ m.own := by simp [MemId.own]
  have h4 : ∀ b ∈ [m.g, m.gb, m.gr], b ∈ blksO m tb ts many := fun b hb => blks_own b (h3 b hb)
  have hS0 : [ts h] ⊆ blksO m tb ts many := by simpa using blks_task hh
  obtain ⟨q, B, hq⟩ := H.task h hh
  have B1 := D.fr.blk B (fun e => (H.ne.2 h hh).1 (h3 _ e))
  have hq1 := hq.keep (D.fr.keeps.more h4)
  obtain ⟨bs, hM⟩ := D.mem.at_
  have hdis : ¬ m.o = ts h ∧ ¬ m.oc = ts h ∧ ¬ m.g = ts h ∧ ¬ m.gb = ts h ∧ ¬ m.gr = ts h := by
    have := (H.ne.2 h hh).1
    simp only [MemId.own, List.mem_cons, List.not_mem_nil, or_false, not_or] at this
    exact ⟨fun e => this.1 e.symm, fun e => this.2.1 e.symm, fun e => this.2.2.1 e.symm, fun e => this.2.2.2.1 e.symm, fun e => this.2.2.2.2 e.symm⟩
  have hrg := (H.ti h hh).rng
  have hver : U64 (repV M (kAcc 12 4 (parO h) (ks h))).ver := hr.ver
  refine (k_tell (S := blksO m tb ts many) (ts h) (parO h) (ks h) q qr _ w1 hM hdis B1 hq1 (blks_task hh) hr hrg.1 (by omega) (H.h3 hh)).mono ?_
  rintro e w' ⟨rfl, q2, B2, H2, F⟩
  have hF1 : ∀ b ∈ [ts h], b ∈ blksO m tb ts many := hS0
  refine ⟨rfl, _, c', dn', gt', hS, F.below (D.fr.below H.b (Nat.le_refl _) (fun b hb => H.lo b (h4 b hb))) (Nat.le_refl _) (fun b hb => H.lo b (hF1 b hb)), D.mem.keep F hF1 (fun b hb e => (H.ne.2 h hh).1 (by simp only [List.mem_singleton] at e; exact e ▸ hb)), Nat.lt_of_lt_of_le (Nat.lt_of_lt_of_le H.tbl D.fr.size) F.size, fun x hx => ?_, fun x hx => ?_, H.lo, H.inj, H.ne, H.m4, hS.oi, fun x hx => ?_, fun x hx => ?_⟩
  · rw [F.keeps.cell (p := ⟨tb, x, none⟩) (Nat.lt_of_lt_of_le H.tbl D.fr.size) (by simpa using fun e => (H.ne.2 h hh).2 e.symm), D.fr.keeps.cell (p := ⟨tb, x, none⟩) H.tbl (fun e => H.ne.1 (h3 _ e))]
    exact H.row x hx
  · unfold upd
    by_cases hxh : x = h
    · subst hxh
      rw [if_pos rfl]
      exact ⟨q2, B2, H2⟩
    · rw [if_neg hxh]
      obtain ⟨qx, Bx, hqx⟩ := H.task x hx
      exact ⟨qx, F.blk (D.fr.blk Bx (fun e => (H.ne.2 x hx).1 (h3 _ e))) (by simpa using fun e => hxh (H.inj x h hx hh e)), (hqx.keep (D.fr.keeps.more h4)).keep (F.keeps.more hF1)⟩
  · unfold upd
    by_cases hxh : x = h
    · rw [if_pos hxh]; exact hS.ti
    · rw [if_neg hxh]
      exact (H.ti x hx).mono hS.up hS.oi.cs hS.du hS.gu
  · unfold upd
    by_cases hxh : x = h
    · rw [if_pos hxh]; exact k_done _ _ _ (H.du h hh) hver
    · rw [if_neg hxh]; exact H.du x hx
end Go.Proofs.Ytpempcefgfmniaa.MemP

/-
  Several carry out one plan: plain laws of the rounds and of the end.
-/
namespace Go.Proofs.Ytpempcefgfmniaa.MemP
open Go.RowKit RefP CellP Dp
set_option linter.unusedVariables false
set_option linter.unusedSimpArgs false
theorem turns_other {many h h' N L : Nat} (h1 : 1 ≤ many) (h2 : many ≤ 4) (hh' : h' < many) (e : L ≤ N → h = N % many) (hne : h' ≠ h) : turnsO many h' (max (N + 1) L) = turnsO many h' (max N L) := by
  by_cases hl : L ≤ N
  · rw [Nat.max_eq_left (by omega), Nat.max_eq_left hl, turns_step many h' N h1 h2 hh', if_neg (by rw [← e hl]; omega), Nat.add_zero]
  · rw [Nat.max_eq_right (by omega), Nat.max_eq_right (by omega)]
theorem turns_self {many h N L : Nat} (h1 : 1 ≤ many) (h2 : many ≤ 4) (hh : h < many) : turnsO many h (max (N + 1) L) ≤ turnsO many h (max N L) + 1 := by
  by_cases hl : L ≤ N
  · rw [Nat.max_eq_left (by omega), Nat.max_eq_left hl, turns_step many h N h1 h2 hh]
    split <;> omega
  · rw [Nat.max_eq_right (by omega), Nat.max_eq_right (by omega)]
    omega
theorem krem_upd {many h N L : Nat} {ks : Nat → KS} {k' : KS} (h1 : 1 ≤ many) (h2 : many ≤ 4) (hh : h < many) (e : L ≤ N → h = N % many) (hK : ∀ x, x < many → krem (ks x) + turnsO many x (max N L) ≤ turnsO many x (L + 100 * many)) (hr : krem k' + 1 ≤ krem (ks h)) :
    ∀ x, x < many → krem (upd ks h k' x) + turnsO many x (max (N + 1) L) ≤ turnsO many x (L + 100 * many) := by
  intro x hx
  have := hK x hx
  unfold upd
  by_cases hxh : x = h
  · subst hxh
    rw [if_pos rfl]
    have := turns_self (N := N) (L := L) h1 h2 hx
    omega
  · rw [if_neg hxh, turns_other h1 h2 hx e hxh]
    exact this
theorem krem8 {k : KS} (h : k.at_ = 8) : krem k = 0 := by simp [krem, h]
theorem krem_over {many h N L : Nat} {ks : Nat → KS} (h1 : 1 ≤ many) (h2 : many ≤ 4) (hh : h < many) (e : L ≤ N → h = N % many) (hK : ∀ x, x < many → krem (ks x) + turnsO many x (max N L) ≤ turnsO many x (L + 100 * many)) (h8 : (ks h).at_ = 8) (hN : N < L + 100 * many) :
    ∀ x, x < many → krem (ks x) + turnsO many x (max (N + 1) L) ≤ turnsO many x (L + 100 * many) := by
  intro x hx
  by_cases hxh : x = h
  · subst hxh
    rw [krem8 h8, Nat.zero_add]
    exact turns_mono _ _ _ _ h1 (by omega)
  · rw [turns_other h1 h2 hx e hxh]
    exact hK x hx
theorem krem_zero {k : KS} (h : krem k = 0) (h0 : 0 ≤ k.at_) (h1 : k.at_ ≤ 8) : k.at_ = 8 := by
  have hc : k.at_ = 0 ∨ k.at_ = 1 ∨ k.at_ = 2 ∨ k.at_ = 3 ∨ k.at_ = 4 ∨ k.at_ = 5 ∨ k.at_ = 6 ∨ k.at_ = 7 ∨ k.at_ = 8 := by omega
  rcases hc with e | e | e | e | e | e | e | e | e <;> simp [krem, e] at h <;> exact e
def tuI (c : Nat) : Int := if 1 ≤ c then 1 else 0
def enI (g : Bool) : Int := if g = true then 1 else 0
theorem co_end {w wr : World} {m : MemId} {M : MemV} {tb : Nat} {ts : Nat → Nat} {many s L : Nat} {ks : Nat → KS} {c : Nat} {dn gt : Bool} (H : CO w wr m M tb ts many s ks c dn gt) (h1 : 1 ≤ many) (hK : ∀ x, x < many → krem (ks x) + turnsO many x (max (L + 100 * many) L) ≤ turnsO many x (L + 100 * many)) :
    tuI c = 1 ∧ enI gt = 1 ∧ at2 M.L 44 = (0, 2) := by
  have h := hK 0 (by omega)
  rw [Nat.max_eq_left (by omega)] at h
  have hr := (H.ti 0 (by omega)).rng
  have h8 := krem_zero (k := ks 0) (by omega) hr.1 hr.2
  have hg := (H.ti 0 (by omega)).over h8
  have hd := H.oi.gd hg
  have hc := H.oi.dc hd
  have hs := H.oi.s1
  have a := H.oi.gate
  have b := H.oi.gate0 hg
  rw [if_pos hg] at a
  refine ⟨by unfold tuI; rw [if_pos (by omega)], by unfold enI; rw [if_pos hg], ?_⟩
  exact Prod.ext b a
theorem tuI_step {c c' : Nat} {t : Bool} (up : c ≤ c') (h : t = true ↔ (c = 0 ∧ 1 ≤ c')) : tuI c' = tuI c + (if t = true then 1 else 0) := by
  unfold tuI
  by_cases ht : t = true
  · have := h.1 ht
    rw [if_pos ht, if_pos (by omega), if_neg (by omega)]; rfl
  · rw [if_neg ht]
    by_cases hc : 1 ≤ c
    · rw [if_pos hc, if_pos (by omega)]; rfl
    · rw [if_neg hc, if_neg (fun e => ht (h.2 ⟨by omega, e⟩))]; rfl
theorem enI_same {g g' : Bool} (up : g = true → g' = true) (h : ¬ (g = false ∧ g' = true)) : enI g' = enI g := by
  cases g <;> cases g' <;> simp_all [enI]
theorem enI_step {g g' : Bool} (h : g = false ∧ g' = true) : enI g' = enI g + 1 := by
  rw [h.1, h.2]; rfl
end Go.Proofs.Ytpempcefgfmniaa.MemP

/-
  Several carry out one plan: plain laws: what a reply has, and what the cells tell.
-/
namespace Go.Proofs.Ytpempcefgfmniaa.MemP
open Go.RowKit RefP CellP Dp
set_option linter.unusedVariables false
set_option linter.unusedSimpArgs false
theorem co_steps {s : Nat} {M : MemV} {c : Nat} {dn gt : Bool} {k : KS} {h : Nat} (o : OI s M c dn gt) (t : TI s k c dn gt) (h8 : k.at_ ≠ 8) :
    (repV M (kAcc 12 4 (parO h) k)).block.plan.steps.length ≤ 60 := by
  have hr := t.rng
  have h4 := o.s4
  obtain ⟨at_, steps, done, tu, en⟩ := k
  simp only at hr h8
  have hc : at_ = 0 ∨ at_ = 1 ∨ at_ = 2 ∨ at_ = 3 ∨ at_ = 4 ∨ at_ = 5 ∨ at_ = 6 ∨ at_ = 7 := by omega
  rcases hc with rfl | rfl | rfl | rfl | rfl | rfl | rfl | rfl
  · simp [kAcc, repV, blockZ, planZ]
  · simp [kAcc, repV, blockZ, planZ]
  · have hnp : (nameP M.A wordO).toNat = 5 := by rw [o.A]; decide
    have e : kAcc 12 4 (parO h) ⟨2, steps, done, tu, en⟩ = ⟨4, 0, 0, wordO, blockZ, opZ⟩ := by simp [kAcc, parO]
    rw [e]
    by_cases hn : nameB M.A M.T M.L wordO = true
    · have er : repV M ⟨4, 0, 0, wordO, blockZ, opZ⟩ = ⟨true, 0, 0, M.B.getD (nameP M.A wordO).toNat blockZ, opZ⟩ := by simp [repV, hn]
      rw [er, hnp, o.blk]
      show (stepsO s).length ≤ 60
      rw [stepsO_length]; omega
    · simp [repV, hn, blockZ, planZ]
  · simp [kAcc, repV, blockZ, planZ]
  · simp [kAcc, repV, blockZ, planZ]
  · simp [kAcc, repV, blockZ, planZ]
  · simp [kAcc, repV, blockZ, planZ]
  · simp [kAcc, repV, blockZ, planZ]
theorem CO.rem {w wr : World} {m : MemId} {M : MemV} {tb : Nat} {ts : Nat → Nat} {many s : Nat} {ks : Nat → KS} {c : Nat} {dn gt : Bool} (H : CO w wr m M tb ts many s ks c dn gt) {h : Nat} (hh : h < many) (h8 : (ks h).at_ ≠ 8) :
    krem (kTell (parO h) (ks h) (repV M (kAcc 12 4 (parO h) (ks h)))) + 1 ≤ krem (ks h) := by
  have hr := (H.ti h hh).rng
  exact k_rem _ _ _ hr.1 (by omega) (H.h3 hh) (co_steps H.oi (H.ti h hh) h8)
/-- what the cell of step i tells -/
theorem OI.cell {s : Nat} {M : MemV} {c : Nat} {dn gt : Bool} (o : OI s M c dn gt) (i : Nat) (hi : i < s) :
    (i < c → loadW M.L ((i : Int) + 1) = 100 + (i : Int) ∧ loadV M.L ((i : Int) + 1) = 1) ∧ (¬ i < c → loadW M.L ((i : Int) + 1) = 0 ∧ loadV M.L ((i : Int) + 1) = 0) := by
  have h4 := o.s4
  obtain ⟨l1, l2⟩ := load_at (i := i + 1) o.len (by omega)
  have e : (((i + 1 : Nat)) : Int) = (i : Int) + 1 := by omega
  rw [e] at l1 l2
  rw [l1, l2, o.node i hi]
  exact ⟨fun h => by rw [if_pos h]; exact ⟨rfl, rfl⟩, fun h => by rw [if_neg h]; exact ⟨rfl, rfl⟩⟩
theorem OI.ended {s : Nat} {M : MemV} {c : Nat} {dn gt : Bool} (o : OI s M c dn gt) (g : gt = true) : c = s ∧ loadW M.L 29 = wordO ∧ loadV M.L 29 = 1 := by
  have hd := o.gd g
  obtain ⟨l1, l2⟩ := load_at (i := 29) o.len (by omega)
  have a := o.done
  rw [if_pos hd] at a
  rw [a] at l1 l2
  exact ⟨o.dc hd, l1, l2⟩
theorem at_done1 : atI 12 4 3 1 = 29 := by decide
theorem at_node1 {i : Nat} (h : i < 4) : atI 12 4 0 ((i : Int) + 1) = (i : Int) + 1 := by
  have := (atO (r := 0) (i := i + 1)).1 ⟨rfl, by omega⟩
  have e : (((i + 1 : Nat)) : Int) = (i : Int) + 1 := by omega
  rw [e] at this
  exact this
end Go.Proofs.Ytpempcefgfmniaa.MemP
