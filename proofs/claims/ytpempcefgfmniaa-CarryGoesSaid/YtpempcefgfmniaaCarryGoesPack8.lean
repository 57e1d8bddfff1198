/-
  bowerref35.New: contract.
-/
import Derived.Deep.WholeRow
import Derived.Deep.RegionHeld
import Derived.Deep.MidRow
import Derived.Test.YtpempcefgfmniaaRows
import Derived.SizedLaws
import Derived.Lib.QuietBelow
import Derived.BigQuiet
import Derived.Test.YtpempcefgfmniaaCarryGoesPack7

namespace Go.Proofs.Ytpempcefgfmniaa.MemP
open Go.RowKit RefP CellP Dp
set_option linter.unusedVariables false
set_option linter.unusedSimpArgs false
set_option maxRecDepth 100000 in
set_option maxHeartbeats 3200000 in
theorem dk_new (M : MemV) (d : DH) (p : KP) (w : World) (P : KPok p) :
    Calls Try.prog 35 #[.agg (dmX M d), .int .i64 p.hp, .agg #[.int .i64 p.s, .int .i64 p.th, .int .u64 p.x], .int .u64 p.ver] w fun e w' => e = .returned (.agg (dcX M d p (kNew M.T p) Hd.nil)) ∧ Below w.heap.size w w' := by
  obtain ⟨hp, s, th, x, ver⟩ := p
  obtain ⟨s0, s1⟩ := P.s
  obtain ⟨t0, t1⟩ := P.th
  obtain ⟨x0, x1⟩ := P.x
  simp only at s0 s1 t0 t1 x0 x1 ⊢
  clear P
  obtain ⟨at_, hK⟩ : ∃ a, a = kNewAt M.T ⟨hp, s, th, x, ver⟩ := ⟨_, rfl⟩
  have hk : kNew M.T ⟨hp, s, th, x, ver⟩ = ⟨at_, [], 0, false, false⟩ := by rw [hK]; rfl
  rw [hk]
  clear hk
  simp only [kNewAt] at hK
  cases hg : gateB s th x
  · have hK : Hid (at_ = 8) := by rw [hK, if_neg (by rw [hg]; simp)]; exact rfl
    replace hg := Lib.hid hg
    have hB : Below w.heap.size w (((w.alloc (.cells (dmX M d) 69)).alloc (.cells #[.int .i64 s, .int .i64 th, .int .u64 x] 79)).alloc (.cells dcZ 84)) := by (repeat (first | exact Below.refl _ _ | assumption | refine below_alloc2 ?_ (by first | exact Nat.le_refl _ | omega) _ | refine Below.drew ?_ | refine below_drewN ?_ _ | refine below_push2 ?_ ‹_› (by first | exact Nat.le_refl _ | omega) | refine Below.setCell ?_ (by first | (simp; done) | (simp; omega) | omega) _))
    have BM := ((Blk.new w (dmX M d) 69).alloc (.cells #[.int .i64 s, .int .i64 th, .int .u64 x] 79)).alloc (.cells dcZ 84)
    have BG : Blk (((w.alloc (.cells (dmX M d) 69)).alloc (.cells #[.int .i64 s, .int .i64 th, .int .u64 x] 79)).alloc (.cells dcZ 84)) (w.heap.size + 1) #[.int .i64 s, .int .i64 th, .int .u64 x] 79 := by
      have := (Blk.new (w.alloc (.cells (dmX M d) 69)) #[.int .i64 s, .int .i64 th, .int .u64 x] 79).alloc (.cells dcZ 84)
      simpa using this
    have BR : Blk (((w.alloc (.cells (dmX M d) 69)).alloc (.cells #[.int .i64 s, .int .i64 th, .int .u64 x] 79)).alloc (.cells dcZ 84)) (w.heap.size + 2) dcZ 84 := by
      have := Blk.new ((w.alloc (.cells (dmX M d) 69)).alloc (.cells #[.int .i64 s, .int .i64 th, .int .u64 x] 79)) dcZ 84
      simpa using this
    have hm := may_any s th x
    go_enter Try.func35, Try.ntmps35
    go_upto_region 1 with (fail)
    generalize (((w.alloc (.cells (dmX M d) 69)).alloc (.cells #[.int .i64 s, .int .i64 th, .int .u64 x] 79)).alloc (.cells dcZ 84)) = w1 at hB BM BG BR ⊢
    have hs1 : w.heap.size + 2 < w1.heap.size := BR.lt
    have m0 : w1.cell? ⟨w.heap.size, 0, none⟩ = some (.int .i64 M.A) := BM.at 0 rfl
    have m1 : w1.cell? ⟨w.heap.size, 1, none⟩ = some (.int .i64 M.T) := BM.at 1 rfl
    have m2 : w1.cell? ⟨w.heap.size, 2, none⟩ = some (.slice d.h1.a M.L.length d.h1.c) := BM.at 2 rfl
    have m3 : w1.cell? ⟨w.heap.size, 3, none⟩ = some (.slice d.h2.a M.B.length d.h2.c) := BM.at 3 rfl
    have m4 : w1.cell? ⟨w.heap.size, 4, none⟩ = some (.slice d.h3.a M.R.length d.h3.c) := BM.at 4 rfl
    have g0 : w1.cell? ⟨w.heap.size + 1, 0, none⟩ = some (.int .i64 s) := BG.at 0 rfl
    have g1 : w1.cell? ⟨w.heap.size + 1, 1, none⟩ = some (.int .i64 th) := BG.at 1 rfl
    have g2 : w1.cell? ⟨w.heap.size + 1, 2, none⟩ = some (.int .u64 x) := BG.at 2 rfl
    have hbx : Below w1.heap.size w1 (w1.alloc (.cells (dcY M d ⟨hp, s, th, x, ver⟩ 0 (.slice none 0 0) 0 false false) 84)) := (Below.refl _ w1).alloc (Nat.le_refl _) _
    have BX := Blk.new w1 (dcY M d ⟨hp, s, th, x, ver⟩ 0 (.slice none 0 0) 0 false false) 84
    go_upto_region 2 with (refine wpList_store_row rfl 84 _ _ rfl _ _ rfl rfl 84 _ (Blk.new w1 _ _).h (by kernel_rfl) (by rfl) (by kernel_rfl) ?_; rw [World.setRow_alloc_new])
    replace hB := below_push2 hB hbx (Nat.le_refl _)
    replace BG := BG.below hbx
    replace BM := BM.below hbx
    replace BR := BR.below hbx
    generalize hX : w1.heap.size = X at BX hs1 ⊢
    try rw [hX]
    generalize w1.alloc (.cells (dcY M d ⟨hp, s, th, x, ver⟩ 0 (.slice none 0 0) 0 false false) 84) = w2 at hB BM BG BR BX ⊢
    clear m0 m1 m2 m3 m4 g0 g1 g2 hbx hX
    have g0 : w2.cell? ⟨w.heap.size + 1, 0, none⟩ = some (.int .i64 s) := BG.at 0 rfl
    have g1 : w2.cell? ⟨w.heap.size + 1, 1, none⟩ = some (.int .i64 th) := BG.at 1 rfl
    have g2 : w2.cell? ⟨w.heap.size + 1, 2, none⟩ = some (.int .u64 x) := BG.at 2 rfl
    go_wp2_with fail
    refine (hm _ s0 s1 t0 t1 x0 x1).mono ?_
    rintro e w3 ⟨rfl, hb3⟩
    rw [hg.out]
    replace hB := below_push2 hB hb3 (Nat.le_refl _)
    replace BG := BG.below hb3
    replace BM := BM.below hb3
    replace BR := BR.below hb3
    replace BX := BX.below hb3
    clear g0 g1 g2 hb3 hm
    have m1 : w3.cell? ⟨w.heap.size, 1, none⟩ = some (.int .i64 M.T) := BM.at 1 rfl
    have g0 : w3.cell? ⟨w.heap.size + 1, 0, none⟩ = some (.int .i64 s) := BG.at 0 rfl
    have g1 : w3.cell? ⟨w.heap.size + 1, 1, none⟩ = some (.int .i64 th) := BG.at 1 rfl
    have x10 := BX.at 10 rfl
    have y10 := BX.free 10
    go_upto_region 6 with (fail)
    have BF := BX.set 10 (.int .i64 8)
    have F2 := (Fr.refl [X] w3).setb 10 (.int .i64 8)
    try simp only [List.setIfInBounds_toArray, List.set_cons_succ, List.set_cons_zero] at BF
    have BR2 := F2.blk BR (by simp; omega)
    have hB2 := F2.below hB (Nat.le_refl _) (by simp; omega)
    clear F2 BX BG BM BR hB m1 g0 g1 x10 y10
    go_wp2_with (first
      | (refine wpList_load_row rfl 84 _ rfl X rfl 84 _ (0, 0) _ BF.h Try.underlying84 rfl (by kernel_rfl) ?_)
      | (refine wpList_store_row rfl 84 _ _ rfl (w.heap.size + 2) _ rfl rfl 84 _ BR2.h (by kernel_rfl) (by rfl) (by kernel_rfl) ?_))
    rw [hK.out]
    refine bodyPost_ret (results_cell_row rfl _ _ (w.heap.size + 2) 84 (dcY M d ⟨hp, s, th, x, ver⟩ 8 (.slice none 0 0) 0 false false) (0, 0) _ rfl (Blk.row BR2 (dcY M d ⟨hp, s, th, x, ver⟩ 8 (.slice none 0 0) 0 false false)).h Try.underlying84 rfl (by kernel_rfl)) rfl ⟨rfl, below_setRow hB2 (by omega) _⟩
  · by_cases h2 : s < 2
    · have q2 : decide (s < 2) = true := by simpa using h2
      have hK : Hid (at_ = 8) := by rw [hK, if_neg (by omega)]; exact rfl
      replace hg := Lib.hid hg
      clear h2
      have hB : Below w.heap.size w (((w.alloc (.cells (dmX M d) 69)).alloc (.cells #[.int .i64 s, .int .i64 th, .int .u64 x] 79)).alloc (.cells dcZ 84)) := by (repeat (first | exact Below.refl _ _ | assumption | refine below_alloc2 ?_ (by first | exact Nat.le_refl _ | omega) _ | refine Below.drew ?_ | refine below_drewN ?_ _ | refine below_push2 ?_ ‹_› (by first | exact Nat.le_refl _ | omega) | refine Below.setCell ?_ (by first | (simp; done) | (simp; omega) | omega) _))
      have BM := ((Blk.new w (dmX M d) 69).alloc (.cells #[.int .i64 s, .int .i64 th, .int .u64 x] 79)).alloc (.cells dcZ 84)
      have BG : Blk (((w.alloc (.cells (dmX M d) 69)).alloc (.cells #[.int .i64 s, .int .i64 th, .int .u64 x] 79)).alloc (.cells dcZ 84)) (w.heap.size + 1) #[.int .i64 s, .int .i64 th, .int .u64 x] 79 := by
        have := (Blk.new (w.alloc (.cells (dmX M d) 69)) #[.int .i64 s, .int .i64 th, .int .u64 x] 79).alloc (.cells dcZ 84)
        simpa using this
      have BR : Blk (((w.alloc (.cells (dmX M d) 69)).alloc (.cells #[.int .i64 s, .int .i64 th, .int .u64 x] 79)).alloc (.cells dcZ 84)) (w.heap.size + 2) dcZ 84 := by
        have := Blk.new ((w.alloc (.cells (dmX M d) 69)).alloc (.cells #[.int .i64 s, .int .i64 th, .int .u64 x] 79)) dcZ 84
        simpa using this
      have hm := may_any s th x
      go_enter Try.func35, Try.ntmps35
      go_upto_region 1 with (fail)
      generalize (((w.alloc (.cells (dmX M d) 69)).alloc (.cells #[.int .i64 s, .int .i64 th, .int .u64 x] 79)).alloc (.cells dcZ 84)) = w1 at hB BM BG BR ⊢
      have hs1 : w.heap.size + 2 < w1.heap.size := BR.lt
      have m0 : w1.cell? ⟨w.heap.size, 0, none⟩ = some (.int .i64 M.A) := BM.at 0 rfl
      have m1 : w1.cell? ⟨w.heap.size, 1, none⟩ = some (.int .i64 M.T) := BM.at 1 rfl
      have m2 : w1.cell? ⟨w.heap.size, 2, none⟩ = some (.slice d.h1.a M.L.length d.h1.c) := BM.at 2 rfl
      have m3 : w1.cell? ⟨w.heap.size, 3, none⟩ = some (.slice d.h2.a M.B.length d.h2.c) := BM.at 3 rfl
      have m4 : w1.cell? ⟨w.heap.size, 4, none⟩ = some (.slice d.h3.a M.R.length d.h3.c) := BM.at 4 rfl
      have g0 : w1.cell? ⟨w.heap.size + 1, 0, none⟩ = some (.int .i64 s) := BG.at 0 rfl
      have g1 : w1.cell? ⟨w.heap.size + 1, 1, none⟩ = some (.int .i64 th) := BG.at 1 rfl
      have g2 : w1.cell? ⟨w.heap.size + 1, 2, none⟩ = some (.int .u64 x) := BG.at 2 rfl
      have hbx : Below w1.heap.size w1 (w1.alloc (.cells (dcY M d ⟨hp, s, th, x, ver⟩ 0 (.slice none 0 0) 0 false false) 84)) := (Below.refl _ w1).alloc (Nat.le_refl _) _
      have BX := Blk.new w1 (dcY M d ⟨hp, s, th, x, ver⟩ 0 (.slice none 0 0) 0 false false) 84
      go_upto_region 2 with (refine wpList_store_row rfl 84 _ _ rfl _ _ rfl rfl 84 _ (Blk.new w1 _ _).h (by kernel_rfl) (by rfl) (by kernel_rfl) ?_; rw [World.setRow_alloc_new])
      replace hB := below_push2 hB hbx (Nat.le_refl _)
      replace BG := BG.below hbx
      replace BM := BM.below hbx
      replace BR := BR.below hbx
      generalize hX : w1.heap.size = X at BX hs1 ⊢
      try rw [hX]
      generalize w1.alloc (.cells (dcY M d ⟨hp, s, th, x, ver⟩ 0 (.slice none 0 0) 0 false false) 84) = w2 at hB BM BG BR BX ⊢
      clear m0 m1 m2 m3 m4 g0 g1 g2 hbx hX
      have g0 : w2.cell? ⟨w.heap.size + 1, 0, none⟩ = some (.int .i64 s) := BG.at 0 rfl
      have g1 : w2.cell? ⟨w.heap.size + 1, 1, none⟩ = some (.int .i64 th) := BG.at 1 rfl
      have g2 : w2.cell? ⟨w.heap.size + 1, 2, none⟩ = some (.int .u64 x) := BG.at 2 rfl
      go_wp2_with fail
      refine (hm _ s0 s1 t0 t1 x0 x1).mono ?_
      rintro e w3 ⟨rfl, hb3⟩
      rw [hg.out]
      replace hB := below_push2 hB hb3 (Nat.le_refl _)
      replace BG := BG.below hb3
      replace BM := BM.below hb3
      replace BR := BR.below hb3
      replace BX := BX.below hb3
      clear g0 g1 g2 hb3 hm
      have m1 : w3.cell? ⟨w.heap.size, 1, none⟩ = some (.int .i64 M.T) := BM.at 1 rfl
      have g0 : w3.cell? ⟨w.heap.size + 1, 0, none⟩ = some (.int .i64 s) := BG.at 0 rfl
      have g1 : w3.cell? ⟨w.heap.size + 1, 1, none⟩ = some (.int .i64 th) := BG.at 1 rfl
      have x10 := BX.at 10 rfl
      have y10 := BX.free 10
      go_upto_region 6 with (fail)
      have BF := BX.set 10 (.int .i64 8)
      have F2 := (Fr.refl [X] w3).setb 10 (.int .i64 8)
      try simp only [List.setIfInBounds_toArray, List.set_cons_succ, List.set_cons_zero] at BF
      have BR2 := F2.blk BR (by simp; omega)
      have hB2 := F2.below hB (Nat.le_refl _) (by simp; omega)
      clear F2 BX BG BM BR hB m1 g0 g1 x10 y10
      go_wp2_with (first
        | (refine wpList_load_row rfl 84 _ rfl X rfl 84 _ (0, 0) _ BF.h Try.underlying84 rfl (by kernel_rfl) ?_)
        | (refine wpList_store_row rfl 84 _ _ rfl (w.heap.size + 2) _ rfl rfl 84 _ BR2.h (by kernel_rfl) (by rfl) (by kernel_rfl) ?_))
      rw [hK.out]
      refine bodyPost_ret (results_cell_row rfl _ _ (w.heap.size + 2) 84 (dcY M d ⟨hp, s, th, x, ver⟩ 8 (.slice none 0 0) 0 false false) (0, 0) _ rfl (Blk.row BR2 (dcY M d ⟨hp, s, th, x, ver⟩ 8 (.slice none 0 0) 0 false false)).h Try.underlying84 rfl (by kernel_rfl)) rfl ⟨rfl, below_setRow hB2 (by omega) _⟩
    · have q2 : decide (s < 2) = false := by simpa using h2
      by_cases h3 : hp < 0
      · have q3 : decide (hp < 0) = true := by simpa using h3
        have hK : Hid (at_ = 8) := by rw [hK, if_neg (by omega)]; exact rfl
        replace hg := Lib.hid hg
        clear h2 h3
        have hB : Below w.heap.size w (((w.alloc (.cells (dmX M d) 69)).alloc (.cells #[.int .i64 s, .int .i64 th, .int .u64 x] 79)).alloc (.cells dcZ 84)) := by (repeat (first | exact Below.refl _ _ | assumption | refine below_alloc2 ?_ (by first | exact Nat.le_refl _ | omega) _ | refine Below.drew ?_ | refine below_drewN ?_ _ | refine below_push2 ?_ ‹_› (by first | exact Nat.le_refl _ | omega) | refine Below.setCell ?_ (by first | (simp; done) | (simp; omega) | omega) _))
        have BM := ((Blk.new w (dmX M d) 69).alloc (.cells #[.int .i64 s, .int .i64 th, .int .u64 x] 79)).alloc (.cells dcZ 84)
        have BG : Blk (((w.alloc (.cells (dmX M d) 69)).alloc (.cells #[.int .i64 s, .int .i64 th, .int .u64 x] 79)).alloc (.cells dcZ 84)) (w.heap.size + 1) #[.int .i64 s, .int .i64 th, .int .u64 x] 79 := by
          have := (Blk.new (w.alloc (.cells (dmX M d) 69)) #[.int .i64 s, .int .i64 th, .int .u64 x] 79).alloc (.cells dcZ 84)
          simpa using this
        have BR : Blk (((w.alloc (.cells (dmX M d) 69)).alloc (.cells #[.int .i64 s, .int .i64 th, .int .u64 x] 79)).alloc (.cells dcZ 84)) (w.heap.size + 2) dcZ 84 := by
          have := Blk.new ((w.alloc (.cells (dmX M d) 69)).alloc (.cells #[.int .i64 s, .int .i64 th, .int .u64 x] 79)) dcZ 84
          simpa using this
        have hm := may_any s th x
        go_enter Try.func35, Try.ntmps35
        go_upto_region 1 with (fail)
        generalize (((w.alloc (.cells (dmX M d) 69)).alloc (.cells #[.int .i64 s, .int .i64 th, .int .u64 x] 79)).alloc (.cells dcZ 84)) = w1 at hB BM BG BR ⊢
        have hs1 : w.heap.size + 2 < w1.heap.size := BR.lt
        have m0 : w1.cell? ⟨w.heap.size, 0, none⟩ = some (.int .i64 M.A) := BM.at 0 rfl
        have m1 : w1.cell? ⟨w.heap.size, 1, none⟩ = some (.int .i64 M.T) := BM.at 1 rfl
        have m2 : w1.cell? ⟨w.heap.size, 2, none⟩ = some (.slice d.h1.a M.L.length d.h1.c) := BM.at 2 rfl
        have m3 : w1.cell? ⟨w.heap.size, 3, none⟩ = some (.slice d.h2.a M.B.length d.h2.c) := BM.at 3 rfl
        have m4 : w1.cell? ⟨w.heap.size, 4, none⟩ = some (.slice d.h3.a M.R.length d.h3.c) := BM.at 4 rfl
        have g0 : w1.cell? ⟨w.heap.size + 1, 0, none⟩ = some (.int .i64 s) := BG.at 0 rfl
        have g1 : w1.cell? ⟨w.heap.size + 1, 1, none⟩ = some (.int .i64 th) := BG.at 1 rfl
        have g2 : w1.cell? ⟨w.heap.size + 1, 2, none⟩ = some (.int .u64 x) := BG.at 2 rfl
        have hbx : Below w1.heap.size w1 (w1.alloc (.cells (dcY M d ⟨hp, s, th, x, ver⟩ 0 (.slice none 0 0) 0 false false) 84)) := (Below.refl _ w1).alloc (Nat.le_refl _) _
        have BX := Blk.new w1 (dcY M d ⟨hp, s, th, x, ver⟩ 0 (.slice none 0 0) 0 false false) 84
        go_upto_region 2 with (refine wpList_store_row rfl 84 _ _ rfl _ _ rfl rfl 84 _ (Blk.new w1 _ _).h (by kernel_rfl) (by rfl) (by kernel_rfl) ?_; rw [World.setRow_alloc_new])
        replace hB := below_push2 hB hbx (Nat.le_refl _)
        replace BG := BG.below hbx
        replace BM := BM.below hbx
        replace BR := BR.below hbx
        generalize hX : w1.heap.size = X at BX hs1 ⊢
        try rw [hX]
        generalize w1.alloc (.cells (dcY M d ⟨hp, s, th, x, ver⟩ 0 (.slice none 0 0) 0 false false) 84) = w2 at hB BM BG BR BX ⊢
        clear m0 m1 m2 m3 m4 g0 g1 g2 hbx hX
        have g0 : w2.cell? ⟨w.heap.size + 1, 0, none⟩ = some (.int .i64 s) := BG.at 0 rfl
        have g1 : w2.cell? ⟨w.heap.size + 1, 1, none⟩ = some (.int .i64 th) := BG.at 1 rfl
        have g2 : w2.cell? ⟨w.heap.size + 1, 2, none⟩ = some (.int .u64 x) := BG.at 2 rfl
        go_wp2_with fail
        refine (hm _ s0 s1 t0 t1 x0 x1).mono ?_
        rintro e w3 ⟨rfl, hb3⟩
        rw [hg.out]
        replace hB := below_push2 hB hb3 (Nat.le_refl _)
        replace BG := BG.below hb3
        replace BM := BM.below hb3
        replace BR := BR.below hb3
        replace BX := BX.below hb3
        clear g0 g1 g2 hb3 hm
        have m1 : w3.cell? ⟨w.heap.size, 1, none⟩ = some (.int .i64 M.T) := BM.at 1 rfl
        have g0 : w3.cell? ⟨w.heap.size + 1, 0, none⟩ = some (.int .i64 s) := BG.at 0 rfl
        have g1 : w3.cell? ⟨w.heap.size + 1, 1, none⟩ = some (.int .i64 th) := BG.at 1 rfl
        have x10 := BX.at 10 rfl
        have y10 := BX.free 10
        go_upto_region 6 with (fail)
        have BF := BX.set 10 (.int .i64 8)
        have F2 := (Fr.refl [X] w3).setb 10 (.int .i64 8)
        try simp only [List.setIfInBounds_toArray, List.set_cons_succ, List.set_cons_zero] at BF
        have BR2 := F2.blk BR (by simp; omega)
        have hB2 := F2.below hB (Nat.le_refl _) (by simp; omega)
        clear F2 BX BG BM BR hB m1 g0 g1 x10 y10
        go_wp2_with (first
          | (refine wpList_load_row rfl 84 _ rfl X rfl 84 _ (0, 0) _ BF.h Try.underlying84 rfl (by kernel_rfl) ?_)
          | (refine wpList_store_row rfl 84 _ _ rfl (w.heap.size + 2) _ rfl rfl 84 _ BR2.h (by kernel_rfl) (by rfl) (by kernel_rfl) ?_))
        rw [hK.out]
        refine bodyPost_ret (results_cell_row rfl _ _ (w.heap.size + 2) 84 (dcY M d ⟨hp, s, th, x, ver⟩ 8 (.slice none 0 0) 0 false false) (0, 0) _ rfl (Blk.row BR2 (dcY M d ⟨hp, s, th, x, ver⟩ 8 (.slice none 0 0) 0 false false)).h Try.underlying84 rfl (by kernel_rfl)) rfl ⟨rfl, below_setRow hB2 (by omega) _⟩
      · have q3 : decide (hp < 0) = false := by simpa using h3
        by_cases h4 : hp < (M.T : Int)
        · have q4 : decide ((M.T : Int) ≤ hp) = false := by simpa using h4
          by_cases h5 : th < (M.T : Int)
          · have q5 : decide ((M.T : Int) ≤ th) = false := by simpa using h5
            by_cases h6 : s = 3
            · have q6 : (s == 3) = true := by simpa using h6
              have hK : Hid (at_ = 4) := by rw [hK, if_pos ⟨hg, by omega, by omega, by omega, by omega⟩, if_pos h6]; exact rfl
              replace hg := Lib.hid hg
              clear h2 h3 h6
              have hB : Below w.heap.size w (((w.alloc (.cells (dmX M d) 69)).alloc (.cells #[.int .i64 s, .int .i64 th, .int .u64 x] 79)).alloc (.cells dcZ 84)) := by (repeat (first | exact Below.refl _ _ | assumption | refine below_alloc2 ?_ (by first | exact Nat.le_refl _ | omega) _ | refine Below.drew ?_ | refine below_drewN ?_ _ | refine below_push2 ?_ ‹_› (by first | exact Nat.le_refl _ | omega) | refine Below.setCell ?_ (by first | (simp; done) | (simp; omega) | omega) _))
              have BM := ((Blk.new w (dmX M d) 69).alloc (.cells #[.int .i64 s, .int .i64 th, .int .u64 x] 79)).alloc (.cells dcZ 84)
              have BG : Blk (((w.alloc (.cells (dmX M d) 69)).alloc (.cells #[.int .i64 s, .int .i64 th, .int .u64 x] 79)).alloc (.cells dcZ 84)) (w.heap.size + 1) #[.int .i64 s, .int .i64 th, .int .u64 x] 79 := by
                have := (Blk.new (w.alloc (.cells (dmX M d) 69)) #[.int .i64 s, .int .i64 th, .int .u64 x] 79).alloc (.cells dcZ 84)
                simpa using this
              have BR : Blk (((w.alloc (.cells (dmX M d) 69)).alloc (.cells #[.int .i64 s, .int .i64 th, .int .u64 x] 79)).alloc (.cells dcZ 84)) (w.heap.size + 2) dcZ 84 := by
                have := Blk.new ((w.alloc (.cells (dmX M d) 69)).alloc (.cells #[.int .i64 s, .int .i64 th, .int .u64 x] 79)) dcZ 84
                simpa using this
              have hm := may_any s th x
              go_enter Try.func35, Try.ntmps35
              go_upto_region 1 with (fail)
              generalize (((w.alloc (.cells (dmX M d) 69)).alloc (.cells #[.int .i64 s, .int .i64 th, .int .u64 x] 79)).alloc (.cells dcZ 84)) = w1 at hB BM BG BR ⊢
              have hs1 : w.heap.size + 2 < w1.heap.size := BR.lt
              have m0 : w1.cell? ⟨w.heap.size, 0, none⟩ = some (.int .i64 M.A) := BM.at 0 rfl
              have m1 : w1.cell? ⟨w.heap.size, 1, none⟩ = some (.int .i64 M.T) := BM.at 1 rfl
              have m2 : w1.cell? ⟨w.heap.size, 2, none⟩ = some (.slice d.h1.a M.L.length d.h1.c) := BM.at 2 rfl
              have m3 : w1.cell? ⟨w.heap.size, 3, none⟩ = some (.slice d.h2.a M.B.length d.h2.c) := BM.at 3 rfl
              have m4 : w1.cell? ⟨w.heap.size, 4, none⟩ = some (.slice d.h3.a M.R.length d.h3.c) := BM.at 4 rfl
              have g0 : w1.cell? ⟨w.heap.size + 1, 0, none⟩ = some (.int .i64 s) := BG.at 0 rfl
              have g1 : w1.cell? ⟨w.heap.size + 1, 1, none⟩ = some (.int .i64 th) := BG.at 1 rfl
              have g2 : w1.cell? ⟨w.heap.size + 1, 2, none⟩ = some (.int .u64 x) := BG.at 2 rfl
              have hbx : Below w1.heap.size w1 (w1.alloc (.cells (dcY M d ⟨hp, s, th, x, ver⟩ 0 (.slice none 0 0) 0 false false) 84)) := (Below.refl _ w1).alloc (Nat.le_refl _) _
              have BX := Blk.new w1 (dcY M d ⟨hp, s, th, x, ver⟩ 0 (.slice none 0 0) 0 false false) 84
              go_upto_region 2 with (refine wpList_store_row rfl 84 _ _ rfl _ _ rfl rfl 84 _ (Blk.new w1 _ _).h (by kernel_rfl) (by rfl) (by kernel_rfl) ?_; rw [World.setRow_alloc_new])
              replace hB := below_push2 hB hbx (Nat.le_refl _)
              replace BG := BG.below hbx
              replace BM := BM.below hbx
              replace BR := BR.below hbx
              generalize hX : w1.heap.size = X at BX hs1 ⊢
              try rw [hX]
              generalize w1.alloc (.cells (dcY M d ⟨hp, s, th, x, ver⟩ 0 (.slice none 0 0) 0 false false) 84) = w2 at hB BM BG BR BX ⊢
              clear m0 m1 m2 m3 m4 g0 g1 g2 hbx hX
              have g0 : w2.cell? ⟨w.heap.size + 1, 0, none⟩ = some (.int .i64 s) := BG.at 0 rfl
              have g1 : w2.cell? ⟨w.heap.size + 1, 1, none⟩ = some (.int .i64 th) := BG.at 1 rfl
              have g2 : w2.cell? ⟨w.heap.size + 1, 2, none⟩ = some (.int .u64 x) := BG.at 2 rfl
              go_wp2_with fail
              refine (hm _ s0 s1 t0 t1 x0 x1).mono ?_
              rintro e w3 ⟨rfl, hb3⟩
              rw [hg.out]
              replace hB := below_push2 hB hb3 (Nat.le_refl _)
              replace BG := BG.below hb3
              replace BM := BM.below hb3
              replace BR := BR.below hb3
              replace BX := BX.below hb3
              clear g0 g1 g2 hb3 hm
              have m1 : w3.cell? ⟨w.heap.size, 1, none⟩ = some (.int .i64 M.T) := BM.at 1 rfl
              have g0 : w3.cell? ⟨w.heap.size + 1, 0, none⟩ = some (.int .i64 s) := BG.at 0 rfl
              have g1 : w3.cell? ⟨w.heap.size + 1, 1, none⟩ = some (.int .i64 th) := BG.at 1 rfl
              have x10 := BX.at 10 rfl
              have y10 := BX.free 10
              go_upto_region 6 with (fail)
              have BF := BX.set 10 (.int .i64 4)
              have F2 := (Fr.refl [X] w3).setb 10 (.int .i64 4)
              try simp only [List.setIfInBounds_toArray, List.set_cons_succ, List.set_cons_zero] at BF
              have BR2 := F2.blk BR (by simp; omega)
              have hB2 := F2.below hB (Nat.le_refl _) (by simp; omega)
              clear F2 BX BG BM BR hB m1 g0 g1 x10 y10
              go_wp2_with (first
                | (refine wpList_load_row rfl 84 _ rfl X rfl 84 _ (0, 0) _ BF.h Try.underlying84 rfl (by kernel_rfl) ?_)
                | (refine wpList_store_row rfl 84 _ _ rfl (w.heap.size + 2) _ rfl rfl 84 _ BR2.h (by kernel_rfl) (by rfl) (by kernel_rfl) ?_))
              rw [hK.out]
              refine bodyPost_ret (results_cell_row rfl _ _ (w.heap.size + 2) 84 (dcY M d ⟨hp, s, th, x, ver⟩ 4 (.slice none 0 0) 0 false false) (0, 0) _ rfl (Blk.row BR2 (dcY M d ⟨hp, s, th, x, ver⟩ 4 (.slice none 0 0) 0 false false)).h Try.underlying84 rfl (by kernel_rfl)) rfl ⟨rfl, below_setRow hB2 (by omega) _⟩
            · have q6 : (s == 3) = false := by simpa using h6
              have hK : Hid (at_ = 0) := by rw [hK, if_pos ⟨hg, by omega, by omega, by omega, by omega⟩, if_neg h6]; exact rfl
              replace hg := Lib.hid hg
              clear h2 h3 h6
              have hB : Below w.heap.size w (((w.alloc (.cells (dmX M d) 69)).alloc (.cells #[.int .i64 s, .int .i64 th, .int .u64 x] 79)).alloc (.cells dcZ 84)) := by (repeat (first | exact Below.refl _ _ | assumption | refine below_alloc2 ?_ (by first | exact Nat.le_refl _ | omega) _ | refine Below.drew ?_ | refine below_drewN ?_ _ | refine below_push2 ?_ ‹_› (by first | exact Nat.le_refl _ | omega) | refine Below.setCell ?_ (by first | (simp; done) | (simp; omega) | omega) _))
              have BM := ((Blk.new w (dmX M d) 69).alloc (.cells #[.int .i64 s, .int .i64 th, .int .u64 x] 79)).alloc (.cells dcZ 84)
              have BG : Blk (((w.alloc (.cells (dmX M d) 69)).alloc (.cells #[.int .i64 s, .int .i64 th, .int .u64 x] 79)).alloc (.cells dcZ 84)) (w.heap.size + 1) #[.int .i64 s, .int .i64 th, .int .u64 x] 79 := by
                have := (Blk.new (w.alloc (.cells (dmX M d) 69)) #[.int .i64 s, .int .i64 th, .int .u64 x] 79).alloc (.cells dcZ 84)
                simpa using this
              have BR : Blk (((w.alloc (.cells (dmX M d) 69)).alloc (.cells #[.int .i64 s, .int .i64 th, .int .u64 x] 79)).alloc (.cells dcZ 84)) (w.heap.size + 2) dcZ 84 := by
                have := Blk.new ((w.alloc (.cells (dmX M d) 69)).alloc (.cells #[.int .i64 s, .int .i64 th, .int .u64 x] 79)) dcZ 84
                simpa using this
              have hm := may_any s th x
              go_enter Try.func35, Try.ntmps35
              go_upto_region 1 with (fail)
              generalize (((w.alloc (.cells (dmX M d) 69)).alloc (.cells #[.int .i64 s, .int .i64 th, .int .u64 x] 79)).alloc (.cells dcZ 84)) = w1 at hB BM BG BR ⊢
              have hs1 : w.heap.size + 2 < w1.heap.size := BR.lt
              have m0 : w1.cell? ⟨w.heap.size, 0, none⟩ = some (.int .i64 M.A) := BM.at 0 rfl
              have m1 : w1.cell? ⟨w.heap.size, 1, none⟩ = some (.int .i64 M.T) := BM.at 1 rfl
              have m2 : w1.cell? ⟨w.heap.size, 2, none⟩ = some (.slice d.h1.a M.L.length d.h1.c) := BM.at 2 rfl
              have m3 : w1.cell? ⟨w.heap.size, 3, none⟩ = some (.slice d.h2.a M.B.length d.h2.c) := BM.at 3 rfl
              have m4 : w1.cell? ⟨w.heap.size, 4, none⟩ = some (.slice d.h3.a M.R.length d.h3.c) := BM.at 4 rfl
              have g0 : w1.cell? ⟨w.heap.size + 1, 0, none⟩ = some (.int .i64 s) := BG.at 0 rfl
              have g1 : w1.cell? ⟨w.heap.size + 1, 1, none⟩ = some (.int .i64 th) := BG.at 1 rfl
              have g2 : w1.cell? ⟨w.heap.size + 1, 2, none⟩ = some (.int .u64 x) := BG.at 2 rfl
              have hbx : Below w1.heap.size w1 (w1.alloc (.cells (dcY M d ⟨hp, s, th, x, ver⟩ 0 (.slice none 0 0) 0 false false) 84)) := (Below.refl _ w1).alloc (Nat.le_refl _) _
              have BX := Blk.new w1 (dcY M d ⟨hp, s, th, x, ver⟩ 0 (.slice none 0 0) 0 false false) 84
              go_upto_region 2 with (refine wpList_store_row rfl 84 _ _ rfl _ _ rfl rfl 84 _ (Blk.new w1 _ _).h (by kernel_rfl) (by rfl) (by kernel_rfl) ?_; rw [World.setRow_alloc_new])
              replace hB := below_push2 hB hbx (Nat.le_refl _)
              replace BG := BG.below hbx
              replace BM := BM.below hbx
              replace BR := BR.below hbx
              generalize hX : w1.heap.size = X at BX hs1 ⊢
              try rw [hX]
              generalize w1.alloc (.cells (dcY M d ⟨hp, s, th, x, ver⟩ 0 (.slice none 0 0) 0 false false) 84) = w2 at hB BM BG BR BX ⊢
              clear m0 m1 m2 m3 m4 g0 g1 g2 hbx hX
              have g0 : w2.cell? ⟨w.heap.size + 1, 0, none⟩ = some (.int .i64 s) := BG.at 0 rfl
              have g1 : w2.cell? ⟨w.heap.size + 1, 1, none⟩ = some (.int .i64 th) := BG.at 1 rfl
              have g2 : w2.cell? ⟨w.heap.size + 1, 2, none⟩ = some (.int .u64 x) := BG.at 2 rfl
              go_wp2_with fail
              refine (hm _ s0 s1 t0 t1 x0 x1).mono ?_
              rintro e w3 ⟨rfl, hb3⟩
              rw [hg.out]
              replace hB := below_push2 hB hb3 (Nat.le_refl _)
              replace BG := BG.below hb3
              replace BM := BM.below hb3
              replace BR := BR.below hb3
              replace BX := BX.below hb3
              clear g0 g1 g2 hb3 hm
              have m1 : w3.cell? ⟨w.heap.size, 1, none⟩ = some (.int .i64 M.T) := BM.at 1 rfl
              have g0 : w3.cell? ⟨w.heap.size + 1, 0, none⟩ = some (.int .i64 s) := BG.at 0 rfl
              have g1 : w3.cell? ⟨w.heap.size + 1, 1, none⟩ = some (.int .i64 th) := BG.at 1 rfl
              have x10 := BX.at 10 rfl
              have y10 := BX.free 10
              go_upto_region 6 with (fail)
              have BF := BX
              have F2 := Fr.refl [X] w3
              try simp only [List.setIfInBounds_toArray, List.set_cons_succ, List.set_cons_zero] at BF
              have BR2 := F2.blk BR (by simp; omega)
              have hB2 := F2.below hB (Nat.le_refl _) (by simp; omega)
              clear F2 BX BG BM BR hB m1 g0 g1 x10 y10
              go_wp2_with (first
                | (refine wpList_load_row rfl 84 _ rfl X rfl 84 _ (0, 0) _ BF.h Try.underlying84 rfl (by kernel_rfl) ?_)
                | (refine wpList_store_row rfl 84 _ _ rfl (w.heap.size + 2) _ rfl rfl 84 _ BR2.h (by kernel_rfl) (by rfl) (by kernel_rfl) ?_))
              rw [hK.out]
              refine bodyPost_ret (results_cell_row rfl _ _ (w.heap.size + 2) 84 (dcY M d ⟨hp, s, th, x, ver⟩ 0 (.slice none 0 0) 0 false false) (0, 0) _ rfl (Blk.row BR2 (dcY M d ⟨hp, s, th, x, ver⟩ 0 (.slice none 0 0) 0 false false)).h Try.underlying84 rfl (by kernel_rfl)) rfl ⟨rfl, below_setRow hB2 (by omega) _⟩
          · have q5 : decide ((M.T : Int) ≤ th) = true := by simpa using h5
            have hK : Hid (at_ = 8) := by rw [hK, if_neg (by omega)]; exact rfl
            replace hg := Lib.hid hg
            clear h2 h3
            have hB : Below w.heap.size w (((w.alloc (.cells (dmX M d) 69)).alloc (.cells #[.int .i64 s, .int .i64 th, .int .u64 x] 79)).alloc (.cells dcZ 84)) := by (repeat (first | exact Below.refl _ _ | assumption | refine below_alloc2 ?_ (by first | exact Nat.le_refl _ | omega) _ | refine Below.drew ?_ | refine below_drewN ?_ _ | refine below_push2 ?_ ‹_› (by first | exact Nat.le_refl _ | omega) | refine Below.setCell ?_ (by first | (simp; done) | (simp; omega) | omega) _))
            have BM := ((Blk.new w (dmX M d) 69).alloc (.cells #[.int .i64 s, .int .i64 th, .int .u64 x] 79)).alloc (.cells dcZ 84)
            have BG : Blk (((w.alloc (.cells (dmX M d) 69)).alloc (.cells #[.int .i64 s, .int .i64 th, .int .u64 x] 79)).alloc (.cells dcZ 84)) (w.heap.size + 1) #[.int .i64 s, .int .i64 th, .int .u64 x] 79 := by
              have := (Blk.new (w.alloc (.cells (dmX M d) 69)) #[.int .i64 s, .int .i64 th, .int .u64 x] 79).alloc (.cells dcZ 84)
              simpa using this
            have BR : Blk (((w.alloc (.cells (dmX M d) 69)).alloc (.cells #[.int .i64 s, .int .i64 th, .int .u64 x] 79)).alloc (.cells dcZ 84)) (w.heap.size + 2) dcZ 84 := by
              have := Blk.new ((w.alloc (.cells (dmX M d) 69)).alloc (.cells #[.int .i64 s, .int .i64 th, .int .u64 x] 79)) dcZ 84
              simpa using this
            have hm := may_any s th x
            go_enter Try.func35, Try.ntmps35
            go_upto_region 1 with (fail)
            generalize (((w.alloc (.cells (dmX M d) 69)).alloc (.cells #[.int .i64 s, .int .i64 th, .int .u64 x] 79)).alloc (.cells dcZ 84)) = w1 at hB BM BG BR ⊢
            have hs1 : w.heap.size + 2 < w1.heap.size := BR.lt
            have m0 : w1.cell? ⟨w.heap.size, 0, none⟩ = some (.int .i64 M.A) := BM.at 0 rfl
            have m1 : w1.cell? ⟨w.heap.size, 1, none⟩ = some (.int .i64 M.T) := BM.at 1 rfl
            have m2 : w1.cell? ⟨w.heap.size, 2, none⟩ = some (.slice d.h1.a M.L.length d.h1.c) := BM.at 2 rfl
            have m3 : w1.cell? ⟨w.heap.size, 3, none⟩ = some (.slice d.h2.a M.B.length d.h2.c) := BM.at 3 rfl
            have m4 : w1.cell? ⟨w.heap.size, 4, none⟩ = some (.slice d.h3.a M.R.length d.h3.c) := BM.at 4 rfl
            have g0 : w1.cell? ⟨w.heap.size + 1, 0, none⟩ = some (.int .i64 s) := BG.at 0 rfl
            have g1 : w1.cell? ⟨w.heap.size + 1, 1, none⟩ = some (.int .i64 th) := BG.at 1 rfl
            have g2 : w1.cell? ⟨w.heap.size + 1, 2, none⟩ = some (.int .u64 x) := BG.at 2 rfl
            have hbx : Below w1.heap.size w1 (w1.alloc (.cells (dcY M d ⟨hp, s, th, x, ver⟩ 0 (.slice none 0 0) 0 false false) 84)) := (Below.refl _ w1).alloc (Nat.le_refl _) _
            have BX := Blk.new w1 (dcY M d ⟨hp, s, th, x, ver⟩ 0 (.slice none 0 0) 0 false false) 84
            go_upto_region 2 with (refine wpList_store_row rfl 84 _ _ rfl _ _ rfl rfl 84 _ (Blk.new w1 _ _).h (by kernel_rfl) (by rfl) (by kernel_rfl) ?_; rw [World.setRow_alloc_new])
            replace hB := below_push2 hB hbx (Nat.le_refl _)
            replace BG := BG.below hbx
            replace BM := BM.below hbx
            replace BR := BR.below hbx
            generalize hX : w1.heap.size = X at BX hs1 ⊢
            try rw [hX]
            generalize w1.alloc (.cells (dcY M d ⟨hp, s, th, x, ver⟩ 0 (.slice none 0 0) 0 false false) 84) = w2 at hB BM BG BR BX ⊢
            clear m0 m1 m2 m3 m4 g0 g1 g2 hbx hX
            have g0 : w2.cell? ⟨w.heap.size + 1, 0, none⟩ = some (.int .i64 s) := BG.at 0 rfl
            have g1 : w2.cell? ⟨w.heap.size + 1, 1, none⟩ = some (.int .i64 th) := BG.at 1 rfl
            have g2 : w2.cell? ⟨w.heap.size + 1, 2, none⟩ = some (.int .u64 x) := BG.at 2 rfl
            go_wp2_with fail
            refine (hm _ s0 s1 t0 t1 x0 x1).mono ?_
            rintro e w3 ⟨rfl, hb3⟩
            rw [hg.out]
            replace hB := below_push2 hB hb3 (Nat.le_refl _)
            replace BG := BG.below hb3
            replace BM := BM.below hb3
            replace BR := BR.below hb3
            replace BX := BX.below hb3
            clear g0 g1 g2 hb3 hm
            have m1 : w3.cell? ⟨w.heap.size, 1, none⟩ = some (.int .i64 M.T) := BM.at 1 rfl
            have g0 : w3.cell? ⟨w.heap.size + 1, 0, none⟩ = some (.int .i64 s) := BG.at 0 rfl
            have g1 : w3.cell? ⟨w.heap.size + 1, 1, none⟩ = some (.int .i64 th) := BG.at 1 rfl
            have x10 := BX.at 10 rfl
            have y10 := BX.free 10
            go_upto_region 6 with (fail)
            have BF := BX.set 10 (.int .i64 8)
            have F2 := (Fr.refl [X] w3).setb 10 (.int .i64 8)
            try simp only [List.setIfInBounds_toArray, List.set_cons_succ, List.set_cons_zero] at BF
            have BR2 := F2.blk BR (by simp; omega)
            have hB2 := F2.below hB (Nat.le_refl _) (by simp; omega)
            clear F2 BX BG BM BR hB m1 g0 g1 x10 y10
            go_wp2_with (first
              | (refine wpList_load_row rfl 84 _ rfl X rfl 84 _ (0, 0) _ BF.h Try.underlying84 rfl (by kernel_rfl) ?_)
              | (refine wpList_store_row rfl 84 _ _ rfl (w.heap.size + 2) _ rfl rfl 84 _ BR2.h (by kernel_rfl) (by rfl) (by kernel_rfl) ?_))
            rw [hK.out]
            refine bodyPost_ret (results_cell_row rfl _ _ (w.heap.size + 2) 84 (dcY M d ⟨hp, s, th, x, ver⟩ 8 (.slice none 0 0) 0 false false) (0, 0) _ rfl (Blk.row BR2 (dcY M d ⟨hp, s, th, x, ver⟩ 8 (.slice none 0 0) 0 false false)).h Try.underlying84 rfl (by kernel_rfl)) rfl ⟨rfl, below_setRow hB2 (by omega) _⟩
        · have q4 : decide ((M.T : Int) ≤ hp) = true := by simpa using h4
          have hK : Hid (at_ = 8) := by rw [hK, if_neg (by omega)]; exact rfl
          replace hg := Lib.hid hg
          clear h2 h3
          have hB : Below w.heap.size w (((w.alloc (.cells (dmX M d) 69)).alloc (.cells #[.int .i64 s, .int .i64 th, .int .u64 x] 79)).alloc (.cells dcZ 84)) := by (repeat (first | exact Below.refl _ _ | assumption | refine below_alloc2 ?_ (by first | exact Nat.le_refl _ | omega) _ | refine Below.drew ?_ | refine below_drewN ?_ _ | refine below_push2 ?_ ‹_› (by first | exact Nat.le_refl _ | omega) | refine Below.setCell ?_ (by first | (simp; done) | (simp; omega) | omega) _))
          have BM := ((Blk.new w (dmX M d) 69).alloc (.cells #[.int .i64 s, .int .i64 th, .int .u64 x] 79)).alloc (.cells dcZ 84)
          have BG : Blk (((w.alloc (.cells (dmX M d) 69)).alloc (.cells #[.int .i64 s, .int .i64 th, .int .u64 x] 79)).alloc (.cells dcZ 84)) (w.heap.size + 1) #[.int .i64 s, .int .i64 th, .int .u64 x] 79 := by
            have := (Blk.new (w.alloc (.cells (dmX M d) 69)) #[.int .i64 s, .int .i64 th, .int .u64 x] 79).alloc (.cells dcZ 84)
            simpa using this
          have BR : Blk (((w.alloc (.cells (dmX M d) 69)).alloc (.cells #[.int .i64 s, .int .i64 th, .int .u64 x] 79)).alloc (.cells dcZ 84)) (w.heap.size + 2) dcZ 84 := by
            have := Blk.new ((w.alloc (.cells (dmX M d) 69)).alloc (.cells #[.int .i64 s, .int .i64 th, .int .u64 x] 79)) dcZ 84
            simpa using this
          have hm := may_any s th x
          go_enter Try.func35, Try.ntmps35
          go_upto_region 1 with (fail)
          generalize (((w.alloc (.cells (dmX M d) 69)).alloc (.cells #[.int .i64 s, .int .i64 th, .int .u64 x] 79)).alloc (.cells dcZ 84)) = w1 at hB BM BG BR ⊢
          have hs1 : w.heap.size + 2 < w1.heap.size := BR.lt
          have m0 : w1.cell? ⟨w.heap.size, 0, none⟩ = some (.int .i64 M.A) := BM.at 0 rfl
          have m1 : w1.cell? ⟨w.heap.size, 1, none⟩ = some (.int .i64 M.T) := BM.at 1 rfl
          have m2 : w1.cell? ⟨w.heap.size, 2, none⟩ = some (.slice d.h1.a M.L.length d.h1.c) := BM.at 2 rfl
          have m3 : w1.cell? ⟨w.heap.size, 3, none⟩ = some (.slice d.h2.a M.B.length d.h2.c) := BM.at 3 rfl
          have m4 : w1.cell? ⟨w.heap.size, 4, none⟩ = some (.slice d.h3.a M.R.length d.h3.c) := BM.at 4 rfl
          have g0 : w1.cell? ⟨w.heap.size + 1, 0, none⟩ = some (.int .i64 s) := BG.at 0 rfl
          have g1 : w1.cell? ⟨w.heap.size + 1, 1, none⟩ = some (.int .i64 th) := BG.at 1 rfl
          have g2 : w1.cell? ⟨w.heap.size + 1, 2, none⟩ = some (.int .u64 x) := BG.at 2 rfl
          have hbx : Below w1.heap.size w1 (w1.alloc (.cells (dcY M d ⟨hp, s, th, x, ver⟩ 0 (.slice none 0 0) 0 false false) 84)) := (Below.refl _ w1).alloc (Nat.le_refl _) _
          have BX := Blk.new w1 (dcY M d ⟨hp, s, th, x, ver⟩ 0 (.slice none 0 0) 0 false false) 84
          go_upto_region 2 with (refine wpList_store_row rfl 84 _ _ rfl _ _ rfl rfl 84 _ (Blk.new w1 _ _).h (by kernel_rfl) (by rfl) (by kernel_rfl) ?_; rw [World.setRow_alloc_new])
          replace hB := below_push2 hB hbx (Nat.le_refl _)
          replace BG := BG.below hbx
          replace BM := BM.below hbx
          replace BR := BR.below hbx
          generalize hX : w1.heap.size = X at BX hs1 ⊢
          try rw [hX]
          generalize w1.alloc (.cells (dcY M d ⟨hp, s, th, x, ver⟩ 0 (.slice none 0 0) 0 false false) 84) = w2 at hB BM BG BR BX ⊢
          clear m0 m1 m2 m3 m4 g0 g1 g2 hbx hX
          have g0 : w2.cell? ⟨w.heap.size + 1, 0, none⟩ = some (.int .i64 s) := BG.at 0 rfl
          have g1 : w2.cell? ⟨w.heap.size + 1, 1, none⟩ = some (.int .i64 th) := BG.at 1 rfl
          have g2 : w2.cell? ⟨w.heap.size + 1, 2, none⟩ = some (.int .u64 x) := BG.at 2 rfl
          go_wp2_with fail
          refine (hm _ s0 s1 t0 t1 x0 x1).mono ?_
          rintro e w3 ⟨rfl, hb3⟩
          rw [hg.out]
          replace hB := below_push2 hB hb3 (Nat.le_refl _)
          replace BG := BG.below hb3
          replace BM := BM.below hb3
          replace BR := BR.below hb3
          replace BX := BX.below hb3
          clear g0 g1 g2 hb3 hm
          have m1 : w3.cell? ⟨w.heap.size, 1, none⟩ = some (.int .i64 M.T) := BM.at 1 rfl
          have g0 : w3.cell? ⟨w.heap.size + 1, 0, none⟩ = some (.int .i64 s) := BG.at 0 rfl
          have g1 : w3.cell? ⟨w.heap.size + 1, 1, none⟩ = some (.int .i64 th) := BG.at 1 rfl
          have x10 := BX.at 10 rfl
          have y10 := BX.free 10
          go_upto_region 6 with (fail)
          have BF := BX.set 10 (.int .i64 8)
          have F2 := (Fr.refl [X] w3).setb 10 (.int .i64 8)
          try simp only [List.setIfInBounds_toArray, List.set_cons_succ, List.set_cons_zero] at BF
          have BR2 := F2.blk BR (by simp; omega)
          have hB2 := F2.below hB (Nat.le_refl _) (by simp; omega)
          clear F2 BX BG BM BR hB m1 g0 g1 x10 y10
          go_wp2_with (first
            | (refine wpList_load_row rfl 84 _ rfl X rfl 84 _ (0, 0) _ BF.h Try.underlying84 rfl (by kernel_rfl) ?_)
            | (refine wpList_store_row rfl 84 _ _ rfl (w.heap.size + 2) _ rfl rfl 84 _ BR2.h (by kernel_rfl) (by rfl) (by kernel_rfl) ?_))
          rw [hK.out]
          refine bodyPost_ret (results_cell_row rfl _ _ (w.heap.size + 2) 84 (dcY M d ⟨hp, s, th, x, ver⟩ 8 (.slice none 0 0) 0 false false) (0, 0) _ rfl (Blk.row BR2 (dcY M d ⟨hp, s, th, x, ver⟩ 8 (.slice none 0 0) 0 false false)).h Try.underlying84 rfl (by kernel_rfl)) rfl ⟨rfl, below_setRow hB2 (by omega) _⟩
/-- the document's memory, as New makes it -/
theorem dm_as {A T : Nat} (a1 : Option Addr) (n1 c1 : Nat) (a2 : Option Addr) (n2 c2 : Nat) (a3 : Option Addr) (n3 c3 : Nat) : ∃ (M : MemV) (d : DH), M.A = A ∧ M.T = T ∧ dmemA A T a1 n1 c1 a2 n2 c2 a3 n3 c3 = dmX M d :=
  ⟨⟨A, T, List.replicate n1 (0, 0), List.replicate n2 blockZ, List.replicate n3 opZ⟩, ⟨⟨a1, c1⟩, ⟨a2, c2⟩, ⟨a3, c3⟩⟩, rfl, rfl, by simp [dmemA, dmX]⟩
end Go.Proofs.Ytpempcefgfmniaa.MemP

/-
  carry: the example of chapter 35 is true.
-/
namespace Go.Proofs.Ytpempcefgfmniaa.MemP
open Go.RowKit RefP CellP
set_option linter.unusedVariables false
set_option linter.unusedSimpArgs false
theorem exShut : (shutI 3 0 0 == 18446744073709551615) = false := by decide +kernel
theorem exHaz : decide (hazI 4 1 0 0 < 0) = false := by decide +kernel
theorem exDone : decide (atI 4 1 3 0 < 0) = false := by decide +kernel
set_option maxHeartbeats 1600000 in
theorem cnew_short {o oc g gb gr : Nat} {L : List (Int × Int)} {bs rs : List (List Value)} (w : World) (h : MemAt w o oc g gb gr 4 1 L bs rs) :
    Calls Try.prog 34 #[.pointer (some ⟨o, 0, none⟩), .int .i64 0, .agg #[.int .i64 3, .int .i64 0, .int .u64 0], .int .u64 1] w (CNew w (some ⟨o, 0, none⟩) 0 3 0 0 1 4) := by
  have hb2 : Below w.heap.size w ((w.alloc (.cells #[.int .i64 3, .int .i64 0, .int .u64 0] 82)).alloc (.cells (carT o 0 0 false) 100)) := by (repeat (first | exact Below.refl _ _ | assumption | refine below_alloc2 ?_ (by first | exact Nat.le_refl _ | omega) _ | refine Below.drew ?_ | refine below_drewN ?_ _ | refine below_push2 ?_ ‹_› (by first | exact Nat.le_refl _ | omega) | refine Below.setCell ?_ (by first | (simp; done) | (simp; omega) | omega) _))
  have BG := (Blk.new w #[.int .i64 3, .int .i64 0, .int .u64 0] 82).alloc (.cells (carT o 0 0 false) 100)
  have BT : Blk ((w.alloc (.cells #[.int .i64 3, .int .i64 0, .int .u64 0] 82)).alloc (.cells (carT o 0 0 false) 100)) (w.heap.size + 1) (carT o 0 0 false) 100 := by
    have := Blk.new (w.alloc (.cells #[.int .i64 3, .int .i64 0, .int .u64 0] 82)) (carT o 0 0 false) 100
    simpa using this
  have h2 := h.below hb2
  have q1 := exShut
  have q2 := exHaz
  have q3 := exDone
  generalize hS : shutI 3 0 0 = sv at q1
  go_enter Try.func34, Try.ntmps34
  go_wp2_with fail
  refine (shut_any 3 0 0 _ (by omega) (by omega) (by omega) (by omega) (by omega) (by omega)).mono ?_
  rw [hS]
  rintro e w1 ⟨rfl, hb1⟩
  have hB1 := below_push2 hb2 hb1 (Nat.le_refl _)
  replace BG := BG.below hb1
  replace BT := BT.below hb1
  replace h2 := h2.below hb1
  have g0 : w1.cell? ⟨w.heap.size, 0, none⟩ = some (.int .i64 3) := BG.at 0 rfl
  clear hb2 hb1 hS
  go_wp2_with fail
  refine (haz_any 0 0 _ h2).mono ?_
  rintro e w2 ⟨rfl, hb2⟩
  have hB2 := below_push2 hB1 hb2 (Nat.le_refl _)
  replace BG := BG.below hb2
  replace BT := BT.below hb2
  replace h2 := h2.below hb2
  clear g0 hb2 hB1
  have g1 : w2.cell? ⟨w.heap.size, 1, none⟩ = some (.int .i64 0) := BG.at 1 rfl
  go_wp2_with fail
  refine (done_any 0 _ h2 (by omega) (by omega)).mono ?_
  rintro e w3 ⟨rfl, hb3⟩
  have hB3 := below_push2 hB2 hb3 (Nat.le_refl _)
  replace BG := BG.below hb3
  replace BT := BT.below hb3
  clear g1 hb3 hB2
  have g0 : w3.cell? ⟨w.heap.size, 0, none⟩ = some (.int .i64 3) := BG.at 0 rfl
  have f6 := BT.free 6
  have c6 : w3.cell? ⟨w.heap.size + 1, 6, none⟩ = some (.int .i64 0) := BT.at 6 rfl
  go_wp2_with fail
  go_ret
  exact ⟨rfl, by simpa [carA] using BT.set 6 (.int .i64 4), hB3.setCell (by simp) _⟩
abbrev caL0 : List (Int × Int) := storeL (freshL 4 1 0) (gateI 4 1) (shutI 3 0 0)
abbrev caL1 : List (Int × Int) := casL caL0 (atI 4 1 3 0) 0 1
abbrev caL2 : List (Int × Int) := casL caL1 (gateI 4 1) 1 0
theorem ca1 : loadW caL0 (atI 4 1 3 0) = 0 := by decide +kernel
theorem ca2 : loadV caL0 (atI 4 1 3 0) = 0 := by decide +kernel
theorem ca3 : loadV caL0 (gateI 4 1) = 1 := by decide +kernel
theorem ca4 : casB caL0 (atI 4 1 3 0) 0 = true := by decide +kernel
theorem ca5 : casB caL1 (gateI 4 1) 1 = true := by decide +kernel
theorem ca6 : loadW caL2 (atI 4 1 3 0) = 1 := by decide +kernel
theorem ca7 : loadW caL2 (gateI 4 1) = 0 := by decide +kernel
theorem shut_rng : 0 ≤ shutI 3 0 0 ∧ shutI 3 0 0 ≤ 18446744073709551615 := by decide +kernel
/-- in a round -/
structure CaR (w0 : World) (base o oc g gb gr : Nat) (L : List (Int × Int)) (bs rs : List (List Value)) (t : Nat) (at_ : Int) (en : Bool) (wr : World) : Prop where
  b : Below w0.heap.size w0 wr
  m : MemB wr base o oc g gb gr 4 1 L bs rs
  c : Blk wr t (carT o at_ 0 en) 100
  ge : base ≤ t
  hs : base ≤ wr.heap.size
  h0 : w0.heap.size ≤ base
  lo : w0.heap.size ≤ o ∧ w0.heap.size ≤ oc ∧ w0.heap.size ≤ g ∧ w0.heap.size ≤ gb ∧ w0.heap.size ≤ gr
theorem CaR.under {w0 : World} {base o oc g gb gr : Nat} {L : List (Int × Int)} {bs rs : List (List Value)} {t : Nat} {at_ : Int} {en : Bool} {wr wx : World} (h : CaR w0 base o oc g gb gr L bs rs t at_ en wr) (hb : Below wr.heap.size wr wx) : CaR w0 base o oc g gb gr L bs rs t at_ en wx :=
  ⟨below_push2 h.b hb (Nat.le_refl _), h.m.under hb, h.c.below hb, h.ge, Nat.le_trans h.hs hb.size, h.h0, h.lo⟩
theorem CaR.told {w0 : World} {base o oc g gb gr : Nat} {L : List (Int × Int)} {bs rs : List (List Value)} {t : Nat} {at_ at' : Int} {en en' : Bool} {wr wx : World} (h : CaR w0 base o oc g gb gr L bs rs t at_ en wr) (hC : Blk wx t (carT o at' 0 en') 100) (hF : Fr [t] wr wx) : CaR w0 base o oc g gb gr L bs rs t at' en' wx := by
  have hl := h.m.lo
  have hg := h.ge
  have hh := h.h0
  exact ⟨hF.below h.b (Nat.le_refl _) (by simp; omega), ⟨h.m.m.off hF (by simp; omega), hl⟩, hC, hg, Nat.le_trans h.hs hF.size, hh, h.lo⟩
theorem CaR.did {w0 : World} {base o oc g gb gr : Nat} {L L' : List (Int × Int)} {bs bs' rs : List (List Value)} {t : Nat} {at_ : Int} {en : Bool} {wr wx : World} (h : CaR w0 base o oc g gb gr L bs rs t at_ en wr) (hM : MemAt wx o oc g gb gr 4 1 L' bs' rs) (hF : Fr [g, gb] wr wx) : CaR w0 base o oc g gb gr L' bs' rs t at_ en wx := by
  have hl := h.m.lo
  have hg := h.ge
  have hh := h.lo
  exact ⟨hF.below h.b (Nat.le_refl _) (by simp; omega), ⟨hM, hl⟩, hF.blk h.c (by simp; omega), hg, Nat.le_trans h.hs hF.size, h.h0, h.lo⟩
def CaSt (k : Nat) (n at_ : Int) (en : Bool) (L : List (Int × Int)) : Prop :=
  (k = 0 ∧ n = 0 ∧ at_ = 4 ∧ en = false ∧ L = caL0) ∨ (k = 1 ∧ n = 1 ∧ at_ = 5 ∧ en = false ∧ L = caL0) ∨ (k = 2 ∧ n = 2 ∧ at_ = 6 ∧ en = false ∧ L = caL0) ∨ (k = 3 ∧ n = 3 ∧ at_ = 7 ∧ en = false ∧ L = caL1) ∨ (4 ≤ k ∧ n = 4 ∧ at_ = 8 ∧ en = true ∧ L = caL2)
set_option maxRecDepth 100000 in
set_option maxHeartbeats 6400000 in
theorem carLives_any (w : World) : Calls Try.prog 33 #[] w fun e w' => e = .returned (.bool true) ∧ Below w.heap.size w w' := by
  have hsr := shut_rng
  go_enter Try.func33, Try.ntmps33
  go_wp2_with fail
  refine (mnew_yes 4 1 0 _ (by omega) (by omega) (by omega) (by omega) (by omega) (by omega)).mono ?_
  rintro e w1 ⟨o, oc, g, gb, gr, rfl, hM, hB, ho, hoc, hg, hgb, hgr⟩
  generalize ((List.replicate 4 zb).set 0 eb) = bs0 at hM
  generalize (List.replicate 1 zo) = rs at hM
  have hgl := hM.cells.rows.lt
  have hgbl := hM.blocks.lt
  have hb1 : Below w1.heap.size w1 ((w1.alloc (.cells #[.int .i64 3, .int .i64 0, .int .u64 0] 82)).drew) := ((Below.refl _ w1).alloc (Nat.le_refl _) _).drew
  have BG := (Blk.new w1 #[.int .i64 3, .int .i64 0, .int .u64 0] 82).drew
  replace hM := hM.below hb1
  replace hB := below_push2 hB hb1 (Nat.le_refl _)
  clear hb1
  have g0 := BG.at 0 rfl
  have g1 := BG.at 1 rfl
  have g2 := BG.at 2 rfl
  go_upto_region 3 with (fail)
  go_cut [] (fun wx => ∃ bs, MemAt wx o oc g gb gr 4 1 caL0 bs rs ∧ Below w.heap.size w wx ∧ Blk wx w1.heap.size #[.int .i64 3, .int .i64 0, .int .u64 0] 82)
  case first =>
    go_region_with (first
      | (go_at_call 18; refine (gate_any _ hM).mono ?_; rintro e wx ⟨rfl, hbx⟩; replace hM := hM.below hbx; replace BG := BG.below hbx; replace hB := below_push2 hB hbx (Nat.le_refl _); have g0 := BG.at 0 rfl; have g1 := BG.at 1 rfl; have g2 := BG.at 2 rfl; clear hbx)
      | (go_at_call 44; refine (shut_any 3 0 0 _ (by omega) (by omega) (by omega) (by omega) (by omega) (by omega)).mono ?_; rintro e wx ⟨rfl, hbx⟩; replace hM := hM.below hbx; replace BG := BG.below hbx; replace hB := below_push2 hB hbx (Nat.le_refl _); have g0 := BG.at 0 rfl; have g1 := BG.at 1 rfl; have g2 := BG.at 2 rfl; clear hbx)
      | (go_at_call 12; refine (do_store (gateI 4 1) 0 (shutI 3 0 0) _ _ _ _ _ _ _ _ _ _ _ _ _ _ _ _ _ _ _ _ _ _ _ hM hsr.1 hsr.2).mono ?_; rintro e wy ⟨rfl, hM5, hF5⟩))
    all_goals
      go_wp2_with fail
      go_meet
      exact ⟨_, hM5, hF5.below hB (Nat.le_refl _) (by simp; omega), hF5.blk BG (by simp; omega)⟩
  case rest =>
    obtain ⟨bs, hM5, hB5, BG5⟩ := hcut
    have g0 := BG5.at 0 rfl
    have g1 := BG5.at 1 rfl
    have g2 := BG5.at 2 rfl
    clear hB BG hM
    go_wp2_with fail
    refine (cnew_short _ hM5).mono ?_
    rintro e w6 ⟨rfl, hC, hb6⟩
    have R0 : CaR w wc.heap.size o oc g gb gr caL0 bs rs (wc.heap.size + 1) 4 false w6 :=
      ⟨below_push2 hB5 hb6 (Nat.le_refl _), ⟨hM5.below hb6, ⟨hM5.head.lt, hM5.cells.head.lt, hM5.cells.rows.lt, hM5.blocks.lt, hM5.records.lt⟩⟩, hC, by omega, hb6.size, hB5.size, ⟨ho, hoc, hg, hgb, hgr⟩⟩
    generalize wc.heap.size + 1 = t at R0 ⊢
    generalize wc.heap.size = base at R0
    clear hM5 hB5 BG5 hC hb6 g0 g1 g2 hgl hgbl
    go_wp2_with fail
    go_loopw [4, 25] (fun u4 i wr => ∃ k : Nat, ∃ n at_ en L bs, k ≤ 9 ∧ i = .int .i64 k ∧ u4 = .int .i64 n ∧ CaSt k n at_ en L ∧ CaR w base o oc g gb gr L bs rs t at_ en wr) (fun _ i _ => 9 - (intOf i).toNat)
    case atStart => exact ⟨0, 0, 4, false, caL0, bs, Nat.zero_le _, rfl, rfl, .inl ⟨rfl, rfl, rfl, rfl, rfl⟩, R0⟩
    case round =>
      clear R0
      obtain ⟨k, n, at_, en, L, bs, hk, rfl, rfl, hst, R⟩ := hrel
      by_cases hlt : k < 9
      · rcases hst with ⟨rfl, rfl, rfl, rfl, rfl⟩ | ⟨rfl, rfl, rfl, rfl, rfl⟩ | ⟨rfl, rfl, rfl, rfl, rfl⟩ | ⟨rfl, rfl, rfl, rfl, rfl⟩ | ⟨hk4, rfl, rfl, rfl, rfl⟩
        · go_wp2_with fail
          refine (cNext_4 t _ R.m.m _ _ R.c).mono ?_
          rintro e w2 ⟨rfl, hb2⟩
          have R3 := (R.under hb2).under ((Below.refl _ w2).alloc (Nat.le_refl _) (.cells (accY 1 (atI 4 1 3 0) 0 0) 39))
          have BA := Blk.new w2 (accY 1 (atI 4 1 3 0) 0 0) 39
          generalize hW : w2.alloc (.cells (accY 1 (atI 4 1 3 0) 0 0) 39) = w3 at R3 BA
          replace hW := Lib.hid hW
          clear R hb2
          go_wp2_with (first
            | (refine wpList_store_row rfl 39 _ _ rfl _ _ rfl rfl 39 _ (Blk.new w2 _ _).h (by kernel_rfl) (by rfl) (by kernel_rfl) ?_; rw [World.setRow_alloc_new, hW.out])
            | (refine wpList_load_row rfl 39 _ rfl w2.heap.size rfl 39 _ (0, 0) _ BA.h Try.underlying39 rfl (by kernel_rfl) ?_))
          refine (do_load (atI 4 1 3 0) 0 0 _ _ _ _ _ _ _ _ _ _ _ _ _ _ _ _ _ _ _ _ _ _ _ R3.m.m).mono ?_
          rw [ca1, ca2]
          rintro e w4 ⟨rfl, hb4⟩
          have R4 := R3.under hb4
          clear R3 BA hb4 hW
          go_wp2_with fail
          refine (cTell_4 t _ R4.m.m _ _ _ _ R4.c).mono ?_
          rintro e w5 ⟨rfl, hC5, hF5⟩
          have R5 := R4.told hC5 hF5
          clear R4 hC5 hF5
          go_wp2_with fail
          go_roundw
          case rel => exact ⟨1, _, _, _, _, _, by omega, by go_num, rfl, .inr (.inl ⟨rfl, rfl, rfl, rfl, rfl⟩), R5⟩
          case measure => simp [intOf]
        · go_wp2_with fail
          refine (cNext_5 t _ R.m.m _ _ R.c).mono ?_
          rintro e w2 ⟨rfl, hb2⟩
          have R3 := (R.under hb2).under ((Below.refl _ w2).alloc (Nat.le_refl _) (.cells (accY 1 (gateI 4 1) 0 0) 39))
          have BA := Blk.new w2 (accY 1 (gateI 4 1) 0 0) 39
          generalize hW : w2.alloc (.cells (accY 1 (gateI 4 1) 0 0) 39) = w3 at R3 BA
          replace hW := Lib.hid hW
          clear R hb2
          go_wp2_with (first
            | (refine wpList_store_row rfl 39 _ _ rfl _ _ rfl rfl 39 _ (Blk.new w2 _ _).h (by kernel_rfl) (by rfl) (by kernel_rfl) ?_; rw [World.setRow_alloc_new, hW.out])
            | (refine wpList_load_row rfl 39 _ rfl w2.heap.size rfl 39 _ (0, 0) _ BA.h Try.underlying39 rfl (by kernel_rfl) ?_))
          refine (do_load (gateI 4 1) 0 0 _ _ _ _ _ _ _ _ _ _ _ _ _ _ _ _ _ _ _ _ _ _ _ R3.m.m).mono ?_
          rw [ca3]
          rintro e w4 ⟨rfl, hb4⟩
          have R4 := R3.under hb4
          clear R3 BA hb4 hW
          go_wp2_with fail
          refine (cTell_5 t _ R4.m.m _ _ _ _ R4.c).mono ?_
          rintro e w5 ⟨rfl, hC5, hF5⟩
          have R5 := R4.told hC5 hF5
          clear R4 hC5 hF5
          go_wp2_with fail
          go_roundw
          case rel => exact ⟨2, _, _, _, _, _, by omega, by go_num, rfl, .inr (.inr (.inl ⟨rfl, rfl, rfl, rfl, rfl⟩)), R5⟩
          case measure => simp [intOf]
        · go_wp2_with fail
          refine (cNext_6 t _ R.m.m _ _ R.c).mono ?_
          rintro e w2 ⟨rfl, hb2⟩
          have R3 := (R.under hb2).under ((Below.refl _ w2).alloc (Nat.le_refl _) (.cells (accY 3 (atI 4 1 3 0) 0 1) 39))
          have BA := Blk.new w2 (accY 3 (atI 4 1 3 0) 0 1) 39
          generalize hW : w2.alloc (.cells (accY 3 (atI 4 1 3 0) 0 1) 39) = w3 at R3 BA
          replace hW := Lib.hid hW
          clear R hb2
          go_wp2_with (first
            | (refine wpList_store_row rfl 39 _ _ rfl _ _ rfl rfl 39 _ (Blk.new w2 _ _).h (by kernel_rfl) (by rfl) (by kernel_rfl) ?_; rw [World.setRow_alloc_new, hW.out])
            | (refine wpList_load_row rfl 39 _ rfl w2.heap.size rfl 39 _ (0, 0) _ BA.h Try.underlying39 rfl (by kernel_rfl) ?_))
          refine (do_cas (atI 4 1 3 0) 0 1 _ _ _ _ _ _ _ _ _ _ _ _ _ _ _ _ _ _ _ _ _ _ _ R3.m.m (by omega) (by omega) (by omega) (by omega)).mono ?_
          rw [ca4]
          rintro e w4 ⟨rfl, hM4, hF4⟩
          have R4 := R3.did hM4 hF4
          clear R3 BA hM4 hF4 hW
          go_wp2_with fail
          refine (cTell_6 t _ R4.m.m _ _ _ _ _ R4.c).mono ?_
          rintro e w5 ⟨rfl, hC5, hF5⟩
          have R5 := R4.told hC5 hF5
          clear R4 hC5 hF5
          go_wp2_with fail
          go_roundw
          case rel => exact ⟨3, _, _, _, _, _, by omega, by go_num, rfl, .inr (.inr (.inr (.inl ⟨rfl, rfl, rfl, rfl, rfl⟩))), R5⟩
          case measure => simp [intOf]
        · go_wp2_with fail
          refine (cNext_7 t _ R.m.m _ _ R.c).mono ?_
          rintro e w2 ⟨rfl, hb2⟩
          have R3 := (R.under hb2).under ((Below.refl _ w2).alloc (Nat.le_refl _) (.cells (accY 3 (gateI 4 1) 1 0) 39))
          have BA := Blk.new w2 (accY 3 (gateI 4 1) 1 0) 39
          generalize hW : w2.alloc (.cells (accY 3 (gateI 4 1) 1 0) 39) = w3 at R3 BA
          replace hW := Lib.hid hW
          clear R hb2
          go_wp2_with (first
            | (refine wpList_store_row rfl 39 _ _ rfl _ _ rfl rfl 39 _ (Blk.new w2 _ _).h (by kernel_rfl) (by rfl) (by kernel_rfl) ?_; rw [World.setRow_alloc_new, hW.out])
            | (refine wpList_load_row rfl 39 _ rfl w2.heap.size rfl 39 _ (0, 0) _ BA.h Try.underlying39 rfl (by kernel_rfl) ?_))
          refine (do_cas (gateI 4 1) 1 0 _ _ _ _ _ _ _ _ _ _ _ _ _ _ _ _ _ _ _ _ _ _ _ R3.m.m (by omega) (by omega) (by omega) (by omega)).mono ?_
          rw [ca5]
          rintro e w4 ⟨rfl, hM4, hF4⟩
          have R4 := R3.did hM4 hF4
          clear R3 BA hM4 hF4 hW
          go_wp2_with fail
          refine (cTell_7 t _ R4.m.m _ _ _ _ _ R4.c).mono ?_
          rintro e w5 ⟨rfl, hC5, hF5⟩
          have R5 := R4.told hC5 hF5
          clear R4 hC5 hF5
          go_wp2_with fail
          go_roundw
          case rel => exact ⟨4, _, _, _, _, _, by omega, by go_num, rfl, .inr (.inr (.inr (.inr ⟨by omega, rfl, rfl, rfl, rfl⟩))), R5⟩
          case measure => simp [intOf]
        · have hN : NoCar _ t true := ⟨_, _, _, _, _, _, _, _, _, R.c, .inr ⟨rfl, _, _, _, _, _, _, _, _, _, _, rfl, R.m.m⟩⟩
          go_wp2_with fail
          refine (cNext_no t true _ hN).mono ?_
          rintro e w2 ⟨rfl, hb2⟩
          have R3 := (R.under hb2).under ((Below.refl _ w2).alloc (Nat.le_refl _) (.cells (accY 0 0 0 0) 39))
          generalize hW : w2.alloc (.cells (accY 0 0 0 0) 39) = w3 at R3
          replace hW := Lib.hid hW
          clear R hb2 hN
          go_wp2_with (refine wpList_store_row rfl 39 _ _ rfl _ _ rfl rfl 39 _ (Blk.new w2 _ _).h (by kernel_rfl) (by rfl) (by kernel_rfl) ?_; rw [World.setRow_alloc_new, hW.out])
          go_roundw
          case rel => exact ⟨k + 1, _, _, _, _, _, by omega, by go_num, rfl, .inr (.inr (.inr (.inr ⟨by omega, rfl, rfl, rfl, rfl⟩))), R3⟩
          case measure => simp [intOf]; omega
      · obtain rfl : k = 9 := by omega
        rcases hst with ⟨h, _⟩ | ⟨h, _⟩ | ⟨h, _⟩ | ⟨h, _⟩ | ⟨hk4, rfl, rfl, rfl, rfl⟩
        · omega
        · omega
        · omega
        · omega
        have hB := R.b
        have hM := R.m.m
        have hC := R.c
        clear R
        go_wp2_with fail
        refine (done_any 0 _ hM (by omega) (by omega)).mono ?_
        try rw [ca6]
        rintro e wx ⟨rfl, hbx⟩
        replace hM := hM.below hbx
        replace hC := hC.below hbx
        replace hB := below_push2 hB hbx (Nat.le_refl _)
        clear hbx
        go_wp2_with fail
        refine (mload_any _ _ hM).mono ?_
        try rw [ca6]
        rintro e wx ⟨rfl, hbx⟩
        replace hM := hM.below hbx
        replace hC := hC.below hbx
        replace hB := below_push2 hB hbx (Nat.le_refl _)
        clear hbx
        go_wp2_with fail
        refine (gate_any _ hM).mono ?_
        try rw [ca6]
        rintro e wx ⟨rfl, hbx⟩
        replace hM := hM.below hbx
        replace hC := hC.below hbx
        replace hB := below_push2 hB hbx (Nat.le_refl _)
        clear hbx
        go_wp2_with fail
        refine (mload_any _ _ hM).mono ?_
        try rw [ca7]
        rintro e wx ⟨rfl, hbx⟩
        replace hM := hM.below hbx
        replace hC := hC.below hbx
        replace hB := below_push2 hB hbx (Nat.le_refl _)
        clear hbx
        go_wp2_with fail
        refine (cEnded_any t _ _ _ _ _ _ _ _ _ _ _ _ hC).mono ?_
        rintro e wx ⟨rfl, rfl⟩
        go_wp2_with fail
        go_ret
        exact ⟨rfl, hB⟩
end Go.Proofs.Ytpempcefgfmniaa.MemP

/-
  read: New, none, Next: contracts.
-/
namespace Go.Proofs.Ytpempcefgfmniaa.MemP
open Go.RowKit RefP CellP
set_option linter.unusedVariables false
set_option linter.unusedSimpArgs false
theorem quiet_of_x {P : Program} {f : Nat} {args : Array Value} {w0 : World} {n : Nat} {v : Value} (h : Calls P f args (w0.drewN n) fun e w' => e = .returned v ∧ ∃ k, w' = (w0.drewN n).drewN k) : Calls P f args (w0.drewN n) fun e w'' => e = .returned v ∧ ∃ m, w'' = w0.drewN m :=
  h.mono fun e w'' h => by
    obtain ⟨he, k, hk⟩ := h
    exact ⟨he, n + k, by rw [hk, World.drewN_drewN]⟩
set_option maxHeartbeats 1600000 in
theorem at_nilx (r i : Int) (w : World) : Calls Try.prog 52 #[.pointer none, .int .i64 r, .int .i64 i] w fun e w' => e = .returned (.int .i64 (-1)) ∧ ∃ n, w' = w.drewN n := by
  go_enter Try.func52, Try.ntmps52
  go_wp2_with fail
  go_quiet (exact Calls.quiet_of_same ((none_nil _).flip))
  go_wp2_with fail
  go_ret
  exact ⟨rfl, _, rfl⟩
set_option maxHeartbeats 800000 in
theorem node_nilx (i : Int) (w : World) : Calls Try.prog 22 #[.pointer none, .int .i64 i] w fun e w' => e = .returned (.int .i64 (-1)) ∧ ∃ n, w' = w.drewN n := by
  go_enter Try.func22, Try.ntmps22
  go_wp2_with fail
  refine (at_nilx _ i _).mono ?_
  rintro e w1 ⟨rfl, n, rfl⟩
  go_wp2_with fail
  go_ret
  exact ⟨rfl, _, rfl⟩
set_option maxHeartbeats 1600000 in
theorem haz_x {o oc g gb gr A T : Nat} {L : List (Int × Int)} {bs rs : List (List Value)} (t : Int) (w : World) (h : MemAt w o oc g gb gr A T L bs rs) (t0 : 0 ≤ t) (t1 : t < T) :
    Calls Try.prog 19 #[.pointer (some ⟨o, 0, none⟩), .int .i64 t, .int .i64 1] w fun e w' => e = .returned (.int .i64 (hazI A T t 1)) ∧ ∃ n, w' = w.drewN n := by
  have hT := h.t1
  have q3 : decide (t < 0) = false := by simp; omega
  have q4 : decide ((T : Int) ≤ t) = false := by simp; omega
  have hy := Lib.hid (hazI_yes (A := A) (show 0 ≤ (1 : Int) ∧ (1 : Int) < 2 ∧ 0 ≤ t ∧ t < (T : Int) by omega))
  have hw1 : IntKind.i64.wrap (t * 2) = t * 2 := by rw [IntKind.wrap_i64]; omega
  have hw2 : IntKind.i64.wrap (t * 2 + 1) = t * 2 + 1 := by rw [IntKind.wrap_i64]; omega
  go_enter Try.func19, Try.ntmps19
  go_wp2_with fail
  refine (threads_any _ h).mono ?_
  rintro e w1 ⟨rfl, rfl⟩
  go_wp2_with fail
  refine (atx_5 (t * 2 + 1) _ h (by omega) (by omega)).mono ?_
  rw [hy.out]
  rintro e w1 ⟨rfl, n, rfl⟩
  go_wp2_with fail
  go_ret
  exact ⟨rfl, _, rfl⟩
abbrev rdA (m : Option Addr) (th at_ st : Int) (su : Bool) (cell word ver : Int) (n0 n1 n2 n3 n4 n5 n6 n7 : Value) : Array Value := #[.pointer m, .int .i64 th, .int .i64 at_, .int .i64 st, .bool su, .int .i64 cell, .int .u64 word, .int .u64 ver, n0, n1, n2, n3, n4, n5, n6, n7]
theorem atI0_pos {A T : Nat} {i : Int} (h0 : 0 ≤ i) (h1 : i < A) : decide (atI A T 0 i < 0) = false := by
  rw [atI_yes h0 (by simp [sizeI]; omega)]
  simp [fromI]; omega
theorem hazI_pos {A T : Nat} {t : Int} (h0 : 0 ≤ t) (h1 : t < T) : decide (hazI A T t 1 < 0) = false := by
  rw [← hazI_yes (A := A) (show 0 ≤ (1 : Int) ∧ (1 : Int) < 2 ∧ 0 ≤ t ∧ t < (T : Int) by omega), atI_yes (by omega) (by simp [sizeI]; omega)]
  simp [fromI]; omega
end Go.Proofs.Ytpempcefgfmniaa.MemP

/-
  read: Tell, State, Known, Sure: contracts.
-/
namespace Go.Proofs.Ytpempcefgfmniaa.MemP
open Go.RowKit RefP CellP
set_option linter.unusedVariables false
set_option linter.unusedSimpArgs false
/-- what is known: a cell, a word, a version, a node -/
abbrev knA (cell word ver : Int) (n0 n1 n2 n3 n4 n5 n6 n7 : Value) : Array Value := #[.int .i64 cell, .int .u64 word, .int .u64 ver, n0, n1, n2, n3, n4, n5, n6, n7]
end Go.Proofs.Ytpempcefgfmniaa.MemP

/-
  The first block is got by an access: contract.
-/
namespace Go.Proofs.Ytpempcefgfmniaa.MemP
open Go.RowKit RefP CellP
set_option linter.unusedVariables false
set_option linter.unusedSimpArgs false
abbrev repB (k v d : Value) : Array Value := #[.bool true, .int .u64 0, .int .u64 0, .int .i64 1, .int .i64 0, .string ⟨#[]⟩, .string ⟨#[]⟩, .bool true, .int .i64 (-1), k, v, d, .int .i64 0, .int .i64 0, .string ⟨#[]⟩, .int .u64 0, nlV, nlV, nlV, nlV, .int .i64 0, .string ⟨#[]⟩, .string ⟨#[]⟩, .int .u64 0, .int .i64 0]
abbrev repF (k v d : Value) : Array Value := #[.bool false, .int .u64 0, .int .u64 0, .int .i64 1, .int .i64 0, .string ⟨#[]⟩, .string ⟨#[]⟩, .bool true, .int .i64 (-1), k, v, d, .int .i64 0, .int .i64 0, .string ⟨#[]⟩, .int .u64 0, nlV, nlV, nlV, nlV, .int .i64 0, .string ⟨#[]⟩, .string ⟨#[]⟩, .int .u64 0, .int .i64 0]
theorem setsA_rep (k v d : Value) : setsA #[.bool false, .int .u64 0, .int .u64 0, .int .i64 0, .int .i64 0, .string ⟨#[]⟩, .string ⟨#[]⟩, .bool false, .int .i64 0, .slice none 0 0, .slice none 0 0, .slice none 0 0, .int .i64 0, .int .i64 0, .string ⟨#[]⟩, .int .u64 0, .slice none 0 0, .slice none 0 0, .slice none 0 0, .slice none 0 0, .int .i64 0, .string ⟨#[]⟩, .string ⟨#[]⟩, .int .u64 0, .int .i64 0] 3 (bkA k v d).toList = repF k v d := by
  simp [setsA, bkA, repF]
set_option maxRecDepth 100000 in
set_option maxHeartbeats 3200000 in
theorem do_get_first {o oc g gb gr A T : Nat} {L : List (Int × Int)} {bs rs : List (List Value)} (w : World) (h : MemAt w o oc g gb gr A T L bs rs) (hu : loadW L (atI A T 1 0) = useI 1 1) (h0 : bs.getD 0 [] = eb) :
    Calls Try.prog 12 #[.pointer (some ⟨o, 0, none⟩), .agg (accY 4 0 0 16385)] w fun e w' => (∃ b1 b2 b3, e = .returned (.agg (repB (e0V b1) (e0V b2) (e0V b3)))) ∧ Below w.heap.size w w' := by
  have hb2 : Below w.heap.size w ((w.alloc (.cells (accY 4 0 0 16385) 39)).alloc (.cells #[.bool false, .int .u64 0, .int .u64 0, .int .i64 0, .int .i64 0, .string ⟨#[]⟩, .string ⟨#[]⟩, .bool false, .int .i64 0, .slice none 0 0, .slice none 0 0, .slice none 0 0, .int .i64 0, .int .i64 0, .string ⟨#[]⟩, .int .u64 0, .slice none 0 0, .slice none 0 0, .slice none 0 0, .slice none 0 0, .int .i64 0, .string ⟨#[]⟩, .string ⟨#[]⟩, .int .u64 0, .int .i64 0] 50)) := by (repeat (first | exact Below.refl _ _ | assumption | refine below_alloc2 ?_ (by first | exact Nat.le_refl _ | omega) _ | refine Below.drew ?_ | refine below_drewN ?_ _ | refine below_push2 ?_ ‹_› (by first | exact Nat.le_refl _ | omega) | refine Below.setCell ?_ (by first | (simp; done) | (simp; omega) | omega) _))
  have BX := (Blk.new w (accY 4 0 0 16385) 39).alloc (.cells #[.bool false, .int .u64 0, .int .u64 0, .int .i64 0, .int .i64 0, .string ⟨#[]⟩, .string ⟨#[]⟩, .bool false, .int .i64 0, .slice none 0 0, .slice none 0 0, .slice none 0 0, .int .i64 0, .int .i64 0, .string ⟨#[]⟩, .int .u64 0, .slice none 0 0, .slice none 0 0, .slice none 0 0, .slice none 0 0, .int .i64 0, .string ⟨#[]⟩, .string ⟨#[]⟩, .int .u64 0, .int .i64 0] 50)
  have BR : Blk ((w.alloc (.cells (accY 4 0 0 16385) 39)).alloc (.cells #[.bool false, .int .u64 0, .int .u64 0, .int .i64 0, .int .i64 0, .string ⟨#[]⟩, .string ⟨#[]⟩, .bool false, .int .i64 0, .slice none 0 0, .slice none 0 0, .slice none 0 0, .int .i64 0, .int .i64 0, .string ⟨#[]⟩, .int .u64 0, .slice none 0 0, .slice none 0 0, .slice none 0 0, .slice none 0 0, .int .i64 0, .string ⟨#[]⟩, .string ⟨#[]⟩, .int .u64 0, .int .i64 0] 50)) (w.heap.size + 1) #[.bool false, .int .u64 0, .int .u64 0, .int .i64 0, .int .i64 0, .string ⟨#[]⟩, .string ⟨#[]⟩, .bool false, .int .i64 0, .slice none 0 0, .slice none 0 0, .slice none 0 0, .int .i64 0, .int .i64 0, .string ⟨#[]⟩, .int .u64 0, .slice none 0 0, .slice none 0 0, .slice none 0 0, .slice none 0 0, .int .i64 0, .string ⟨#[]⟩, .string ⟨#[]⟩, .int .u64 0, .int .i64 0] 50 := by
    have := Blk.new (w.alloc (.cells (accY 4 0 0 16385) 39)) #[.bool false, .int .u64 0, .int .u64 0, .int .i64 0, .int .i64 0, .string ⟨#[]⟩, .string ⟨#[]⟩, .bool false, .int .i64 0, .slice none 0 0, .slice none 0 0, .slice none 0 0, .int .i64 0, .int .i64 0, .string ⟨#[]⟩, .int .u64 0, .slice none 0 0, .slice none 0 0, .slice none 0 0, .slice none 0 0, .int .i64 0, .string ⟨#[]⟩, .string ⟨#[]⟩, .int .u64 0, .int .i64 0] 50
    simpa using this
  have h2 := h.below hb2
  go_enter Try.func12, Try.ntmps12
  go_wp2_with fail
  generalize ((w.alloc (.cells (accY 4 0 0 16385) 39)).alloc (.cells #[.bool false, .int .u64 0, .int .u64 0, .int .i64 0, .int .i64 0, .string ⟨#[]⟩, .string ⟨#[]⟩, .bool false, .int .i64 0, .slice none 0 0, .slice none 0 0, .slice none 0 0, .int .i64 0, .int .i64 0, .string ⟨#[]⟩, .int .u64 0, .slice none 0 0, .slice none 0 0, .slice none 0 0, .slice none 0 0, .int .i64 0, .string ⟨#[]⟩, .string ⟨#[]⟩, .int .u64 0, .int .i64 0] 50)) = wq at hb2 h2 BX BR ⊢
  refine (none_any _ h2).mono ?_
  rintro e w1 ⟨rfl, rfl⟩
  have b0 := BX.at 0 rfl
  have b3 := BX.at 3 rfl
  go_wp2_with fail
  refine (block_first _ h2 hu h0).mono ?_
  rintro e w3 ⟨⟨b1, b2, b3, rfl⟩, hb3⟩
  have hB3 := below_push2 hb2 hb3 (Nat.le_refl _)
  have BR3 := BR.below hb3
  clear h2 BX BR b0 hb2 hb3
  have hth := there_blk (o := 3) (n := 17) BR3 (by decide)
  have BF := blk_sets (bkA (e0V b1) (e0V b2) (e0V b3)).toList 3 _ _ BR3
  rw [setsA_rep] at BF
  have hBF := below_sets (b := w.heap.size + 1) (by omega) (bkA (e0V b1) (e0V b2) (e0V b3)).toList 3 _ hB3
  generalize hX : w3.setCells (w.heap.size + 1) 3 (bkA (e0V b1) (e0V b2) (e0V b3)).toList = wx at BF hBF
  replace hX := Lib.hid hX
  have f0 := BF.free 0
  have c0 := BF.at 0 rfl
  have BG := BF.set 0 (.bool true)
  simp only [List.setIfInBounds_toArray, List.set_cons_zero] at BG
  go_wp2_with (first
    | (refine wpList_store_mid rfl 35 _ _ rfl (w.heap.size + 1) 3 (bkA (e0V b1) (e0V b2) (e0V b3)) rfl rfl hth (by kernel_rfl) (by kernel_rfl) ?_; rw [hX.out])
    | (refine wpList_load_row rfl 50 _ rfl (w.heap.size + 1) rfl 50 _ (0, 0) _ BG.h Try.underlying50 rfl (by kernel_rfl) ?_)
    | (refine wpList_store_row rfl 50 _ _ rfl (w.heap.size + 1) _ rfl rfl 50 _ BG.h (by kernel_rfl) (by rfl) (by kernel_rfl) ?_))
  refine bodyPost_ret (results_cell_row rfl _ _ (w.heap.size + 1) 50 (repB (e0V b1) (e0V b2) (e0V b3)) (0, 0) _ rfl (Blk.row BG (repB (e0V b1) (e0V b2) (e0V b3))).h Try.underlying50 rfl (by kernel_rfl)) rfl ⟨⟨b1, b2, b3, rfl⟩, below_setRow (hBF.setCell (by show w.heap.size ≤ w.heap.size + 1; omega) _) (by omega) _⟩
end Go.Proofs.Ytpempcefgfmniaa.MemP

/-
  read: Tell in each state; the first block is got: contracts.
-/
namespace Go.Proofs.Ytpempcefgfmniaa.MemP
open Go.RowKit RefP CellP
set_option linter.unusedVariables false
set_option linter.unusedSimpArgs false
end Go.Proofs.Ytpempcefgfmniaa.MemP

/-
  read: what is known; the example of chapter 30 is true.
-/
namespace Go.Proofs.Ytpempcefgfmniaa.MemP
open Go.RowKit RefP CellP
set_option linter.unusedVariables false
set_option linter.unusedSimpArgs false
theorem lt11 {j : Nat} (h : j < 11) : j = 0 ∨ j = 1 ∨ j = 2 ∨ j = 3 ∨ j = 4 ∨ j = 5 ∨ j = 6 ∨ j = 7 ∨ j = 8 ∨ j = 9 ∨ j = 10 := by omega
abbrev rdL0 : List (Int × Int) := freshL 4 1 0
abbrev rdL1 : List (Int × Int) := storeL rdL0 (hazI 4 1 0 1) 16385
theorem rd1 : loadW rdL0 (atI 4 1 0 0) = 16385 := by decide +kernel
theorem rd2 : loadV rdL0 (atI 4 1 0 0) = 0 := by decide +kernel
theorem rd3 : opensB 16385 = true := by decide +kernel
theorem rd4 : loadV rdL1 (atI 4 1 0 0) = 0 := by decide +kernel
theorem rd5 : loadW rdL1 (atI 4 1 1 0) = useI 1 1 := by decide +kernel
theorem rd6 (bs : List (List Value)) : storeB rdL0 bs 4 (hazI 4 1 0 1) = bs := by
  unfold storeB clearL
  rw [if_neg (show ¬ (((4 : Nat) : Int) ≤ hazI 4 1 0 1 ∧ hazI 4 1 0 1 < 2 * ((4 : Nat) : Int)) by decide +kernel)]
  split <;> rfl
def RdSt (k : Nat) (o : Nat) (L : List (Int × Int)) (C : Array Value) : Prop :=
  (k = 0 ∧ L = rdL0 ∧ C = rdA (some ⟨o, 0, none⟩) 0 0 0 false 0 0 0 (.int .i64 0) (.string ⟨#[]⟩) (.string ⟨#[]⟩) (.bool false) (.int .i64 0) (.slice none 0 0) (.slice none 0 0) (.slice none 0 0)) ∨
  (k = 1 ∧ L = rdL0 ∧ C = rdA (some ⟨o, 0, none⟩) 0 1 0 false 0 16385 0 (.int .i64 0) (.string ⟨#[]⟩) (.string ⟨#[]⟩) (.bool false) (.int .i64 0) (.slice none 0 0) (.slice none 0 0) (.slice none 0 0)) ∨
  (k = 2 ∧ L = rdL1 ∧ C = rdA (some ⟨o, 0, none⟩) 0 2 0 false 0 16385 0 (.int .i64 0) (.string ⟨#[]⟩) (.string ⟨#[]⟩) (.bool false) (.int .i64 0) (.slice none 0 0) (.slice none 0 0) (.slice none 0 0)) ∨
  (k = 3 ∧ L = rdL1 ∧ C = rdA (some ⟨o, 0, none⟩) 0 3 0 true 0 16385 0 (.int .i64 0) (.string ⟨#[]⟩) (.string ⟨#[]⟩) (.bool false) (.int .i64 0) (.slice none 0 0) (.slice none 0 0) (.slice none 0 0)) ∨
  (k = 4 ∧ L = rdL1 ∧ ∃ b1 b2 b3, C = rdA (some ⟨o, 0, none⟩) 0 4 4 false 0 16385 0 (.int .i64 0) (.string ⟨#[]⟩) (.string ⟨#[]⟩) (.bool true) (.int .i64 (-1)) (e0V b1) (e0V b2) (e0V b3))
end Go.Proofs.Ytpempcefgfmniaa.MemP

/-
  read: Next, Tell, Known in any state, with any reply: contracts.
-/
namespace Go.Proofs.Ytpempcefgfmniaa.MemP
open Go.RowKit RefP CellP Dp
set_option linter.unusedVariables false
set_option linter.unusedSimpArgs false
end Go.Proofs.Ytpempcefgfmniaa.MemP

/-
  The types of package api, opened: what a law's arguments of these types are.
-/
namespace Go.Proofs.Ytpempcefgfmniaa.Dp
open Go.RowKit RefP
set_option linter.unusedVariables false
set_option linter.unusedSimpArgs false
structure Ox (P : Program) (t : TypeId) {α : Type} (C : Cod α) : Prop where
  out : ∀ (H : Type) (enc : TypeId × Value → H) (w : World) (base : Nat) (sp : Nat → Bool) (held : Bool) (fuel : Nat) (cs : List Value) (y : DataW H × List MemPlace), DataW.trod enc P w base sp held fuel t cs = some y → ∃ x, C.rep w [] cs x
structure OxAt (P : Program) (fs : List Field) (off : Nat) {α : Type} (C : Cod α) : Prop where
  out : ∀ (H : Type) (enc : TypeId × Value → H) (w : World) (base : Nat) (sp : Nat → Bool) (held : Bool) (fuel : Nat) (cs : List Value), cs.length = off + C.k →
    (∀ f ∈ fs, ∃ y, DataW.trod enc P w base sp held fuel f.type ((cs.drop f.offset).take (P.cellsOf f.type)) = some y) → ∃ x, C.rep w [] (cs.drop off) x
theorem ox_int {P : Program} {t : TypeId} {k : IntKind} (ht : P.underlying t = some (.int k)) : Ox P t (intC k) := ⟨fun H enc w base sp held fuel cs y h => opens_int ht enc w base sp held fuel cs y h⟩
theorem ox_bool {P : Program} {t : TypeId} (ht : P.underlying t = some .bool) : Ox P t boolC := ⟨fun H enc w base sp held fuel cs y h => opens_bool ht enc w base sp held fuel cs y h⟩
theorem ox_str {P : Program} {t : TypeId} (ht : P.underlying t = some .string) : Ox P t strC := ⟨fun H enc w base sp held fuel cs y h => opens_str ht enc w base sp held fuel cs y h⟩
theorem ox_nil {P : Program} {off : Nat} : OxAt P [] off unitC := ⟨fun H enc w base sp held fuel cs hl h => opens_nil enc w base sp held fuel cs hl h⟩
theorem ox_cons {P : Program} {f : Field} {fs : List Field} {off : Nat} {α β : Type} {A : Cod α} {B : Cod β} (ho : f.offset = off) (hk : P.cellsOf f.type = A.k) (hA : Ox P f.type A) (hB : OxAt P fs (off + A.k) B) : OxAt P (f :: fs) off (pairC A B) := by
  refine ⟨fun H enc w base sp held fuel cs hl h => ?_⟩
  obtain ⟨y, hy⟩ := h f (by simp)
  rw [ho, hk] at hy
  obtain ⟨x, hx⟩ := hA.out H enc w base sp held fuel _ y hy
  obtain ⟨z, hz⟩ := hB.out H enc w base sp held fuel cs (by rw [hl]; show off + (A.k + B.k) = _; omega) (fun g hg => h g (by simp [hg]))
  refine ⟨(x, z), _, _, ?_, hx, hz⟩
  rw [← List.drop_drop, List.take_append_drop]
theorem ox_struct {P : Program} {t : TypeId} {fs : Array Field} {α : Type} {C : Cod α} (ht : P.underlying t = some (.struct fs)) (hk : P.cellsOf t = C.k) (h : OxAt P fs.toList 0 C) : Ox P t C := by
  refine ⟨fun H enc w base sp held fuel cs y hy => ?_⟩
  obtain ⟨xs, n, _, _, hl, hxs, hf⟩ := DataW.trod_struct ht hy
  obtain ⟨x, hx⟩ := h.out H enc w base sp held n cs (by omega) (fun f hfm => by
    obtain ⟨i, hi, rfl⟩ := List.getElem_of_mem hfm
    have hi' : i < fs.size := by simpa using hi
    have := hf i fs[i] (by simp [hi'])
    rw [List.getElem?_eq_getElem (by omega)] at this
    exact ⟨_, this⟩)
  exact ⟨x, by simpa using hx⟩
theorem ox_iso {P : Program} {t : TypeId} {α β : Type} {C : Cod α} (f : β → α) (g : α → β) (hg : ∀ x, f (g x) = x) (h : Ox P t C) : Ox P t (isoC C f) := by
  refine ⟨fun H enc w base sp held fuel cs y hy => ?_⟩
  obtain ⟨x, hx⟩ := h.out H enc w base sp held fuel cs y hy
  exact ⟨g x, by show C.rep w [] cs (f (g x)); rw [hg]; exact hx⟩
theorem ox_opens {P : Program} {t : TypeId} {α : Type} {C : Cod α} (h : Ox P t C) : Opens P t C := by
  intro H enc w base sp held fuel cs y hy
  exact h.out H enc w base sp held fuel cs y hy
theorem ox_row {P : Program} {t e : TypeId} {α : Type} {E : Cod α} (ht : P.underlying t = some (.slice e)) (hk : P.cellsOf e = E.k) (hpos : 0 < E.k) (h : Ox P e E) : Ox P t (rowC E) := by
  refine ⟨fun H enc w base sp held fuel cs y hy => ?_⟩
  have := @opens_row P t e α E ht hk hpos (by intro H enc w base sp held fuel cs y hy; exact h.out H enc w base sp held fuel cs y hy) H enc w base sp held fuel cs y hy
  exact this
theorem op_str : Ox Try.prog 9 strC := ox_str Try.underlying9
theorem op_u64 : Ox Try.prog 22 u64C := ox_int Try.underlying22
theorem op_i64 : Ox Try.prog 3 i64C := ox_int Try.underlying3
theorem op_bool : Ox Try.prog 4 boolC := ox_bool Try.underlying4
theorem op_strs : Ox Try.prog 23 (rowC strC) := ox_row Try.underlying23 (by kernel_rfl) (by decide) op_str
theorem op_u64s : Ox Try.prog 24 (rowC u64C) := ox_row Try.underlying24 (by kernel_rfl) (by decide) op_u64
theorem op_i64s : Ox Try.prog 25 (rowC i64C) := ox_row Try.underlying25 (by kernel_rfl) (by decide) op_i64
theorem op_pair : Ox Try.prog 64 pairT := ox_iso _ (fun p => ⟨p.1, p.2.1⟩) (fun _ => rfl) (ox_struct Try.underlying64 (by kernel_rfl)
  (ox_cons rfl (by kernel_rfl) op_str (ox_cons rfl (by kernel_rfl) op_u64 ox_nil)))
theorem op_pairs : Ox Try.prog 28 (rowC pairT) := ox_row Try.underlying28 (by kernel_rfl) (by decide) op_pair
theorem op_step : Ox Try.prog 94 stepT := ox_iso _ (fun p => ⟨p.1, p.2.1, p.2.2.1, p.2.2.2.1, p.2.2.2.2.1⟩) (fun _ => rfl) (ox_struct Try.underlying94 (by kernel_rfl)
  (ox_cons rfl (by kernel_rfl) op_i64 (ox_cons rfl (by kernel_rfl) op_u64 (ox_cons rfl (by kernel_rfl) op_u64 (ox_cons rfl (by kernel_rfl) op_u64 (ox_cons rfl (by kernel_rfl) op_bool ox_nil))))))
theorem op_steps : Ox Try.prog 31 (rowC stepT) := ox_row Try.underlying31 (by kernel_rfl) (by decide) op_step
theorem op_node : Ox Try.prog 27 nodeT := ox_iso _ (fun p => ⟨p.1, p.2.1, p.2.2.1, p.2.2.2.1, p.2.2.2.2.1, p.2.2.2.2.2.1, p.2.2.2.2.2.2.1, p.2.2.2.2.2.2.2.1⟩) (fun _ => rfl) (ox_struct Try.underlying27 (by kernel_rfl)
  (ox_cons rfl (by kernel_rfl) op_i64 (ox_cons rfl (by kernel_rfl) op_str (ox_cons rfl (by kernel_rfl) op_str (ox_cons rfl (by kernel_rfl) op_bool (ox_cons rfl (by kernel_rfl) op_i64 (ox_cons rfl (by kernel_rfl) op_strs (ox_cons rfl (by kernel_rfl) op_u64s (ox_cons rfl (by kernel_rfl) op_i64s ox_nil)))))))))
theorem op_ans : Ox Try.prog 30 ansT := ox_iso _ (fun p => ⟨p.1, p.2.1, p.2.2.1, p.2.2.2.1⟩) (fun _ => rfl) (ox_struct Try.underlying30 (by kernel_rfl)
  (ox_cons rfl (by kernel_rfl) op_i64 (ox_cons rfl (by kernel_rfl) op_str (ox_cons rfl (by kernel_rfl) op_u64 (ox_cons rfl (by kernel_rfl) op_pairs ox_nil)))))
theorem op_plan : Ox Try.prog 33 planT := ox_iso _ (fun p => ⟨p.1, p.2.1, p.2.2.1, p.2.2.2.1⟩) (fun _ => rfl) (ox_struct Try.underlying33 (by kernel_rfl)
  (ox_cons rfl (by kernel_rfl) op_i64 (ox_cons rfl (by kernel_rfl) op_ans (ox_cons rfl (by kernel_rfl) op_steps (ox_cons rfl (by kernel_rfl) op_u64s ox_nil)))))
theorem op_block : Ox Try.prog 35 blockT := ox_iso _ (fun p => ⟨p.1, p.2.1, p.2.2.1, p.2.2.2.1⟩) (fun _ => rfl) (ox_struct Try.underlying35 (by kernel_rfl)
  (ox_cons rfl (by kernel_rfl) op_i64 (ox_cons rfl (by kernel_rfl) op_node (ox_cons rfl (by kernel_rfl) op_plan (ox_cons rfl (by kernel_rfl) op_pairs ox_nil)))))
theorem op_op : Ox Try.prog 37 opT := ox_iso _ (fun p => ⟨p.1, p.2.1, p.2.2.1, p.2.2.2.1, p.2.2.2.2.1⟩) (fun _ => rfl) (ox_struct Try.underlying37 (by kernel_rfl)
  (ox_cons rfl (by kernel_rfl) op_i64 (ox_cons rfl (by kernel_rfl) op_str (ox_cons rfl (by kernel_rfl) op_str (ox_cons rfl (by kernel_rfl) op_u64 (ox_cons rfl (by kernel_rfl) op_i64 ox_nil))))))
theorem op_acc : Ox Try.prog 39 accT := ox_iso _ (fun p => ⟨p.1, p.2.1, p.2.2.1, p.2.2.2.1, p.2.2.2.2.1, p.2.2.2.2.2.1⟩) (fun _ => rfl) (ox_struct Try.underlying39 (by kernel_rfl)
  (ox_cons rfl (by kernel_rfl) op_i64 (ox_cons rfl (by kernel_rfl) op_i64 (ox_cons rfl (by kernel_rfl) op_u64 (ox_cons rfl (by kernel_rfl) op_u64 (ox_cons rfl (by kernel_rfl) op_block (ox_cons rfl (by kernel_rfl) op_op ox_nil)))))))
theorem op_accs : Ox Try.prog 41 (rowC accT) := ox_row Try.underlying41 (by kernel_rfl) (by decide) op_acc
end Go.Proofs.Ytpempcefgfmniaa.Dp

/-
  The types of package api, opened, with the form's bound on how large a slice that came in is.
-/
namespace Go.Proofs.Ytpempcefgfmniaa.Dp
open Go.ChangeShapes Go.WideShapes Go.ChangeAt Go.RowKit Go.Joins Go.Deep RefP
set_option linter.unusedVariables false
set_option linter.unusedSimpArgs false
structure Oz (P : Program) (t : TypeId) {α : Type} (C : Cod α) (Sm : α → Prop) : Prop where
  out : ∀ (H : Type) (enc : TypeId × Value → H) (w : World) (base : Nat) (sp : Nat → Bool) (held : Bool) (fuel : Nat) (cs : List Value) (y : DataW H × List MemPlace), DataW.trod enc P w base sp held fuel t cs = some y → (∀ n ∈ y.1.weights P t, n ≤ reachBytes) → ∃ x, C.rep w [] cs x ∧ Sm x
structure OzAt (P : Program) (fs : List Field) (off : Nat) {α : Type} (C : Cod α) (Sm : α → Prop) : Prop where
  out : ∀ (H : Type) (enc : TypeId × Value → H) (w : World) (base : Nat) (sp : Nat → Bool) (held : Bool) (fuel : Nat) (cs : List Value), cs.length = off + C.k →
    (∀ f ∈ fs, ∃ y, DataW.trod enc P w base sp held fuel f.type ((cs.drop f.offset).take (P.cellsOf f.type)) = some y ∧ ∀ n ∈ y.1.weights P f.type, n ≤ reachBytes) → ∃ x, C.rep w [] (cs.drop off) x ∧ Sm x
theorem oz_leaf {P : Program} {t : TypeId} {α : Type} {C : Cod α} (h : Ox P t C) : Oz P t C (fun _ => True) := ⟨fun H enc w base sp held fuel cs y hy _ => by
  obtain ⟨x, hx⟩ := h.out H enc w base sp held fuel cs y hy
  exact ⟨x, hx, trivial⟩⟩
theorem oz_nil {P : Program} {off : Nat} : OzAt P [] off unitC (fun _ => True) := ⟨fun H enc w base sp held fuel cs hl h => by
  obtain ⟨x, hx⟩ := (ox_nil (P := P) (off := off)).out H enc w base sp held fuel cs hl (fun f hf => by cases hf)
  exact ⟨x, hx, trivial⟩⟩
theorem oz_cons {P : Program} {f : Field} {fs : List Field} {off : Nat} {α β : Type} {A : Cod α} {B : Cod β} {SA : α → Prop} {SB : β → Prop} (ho : f.offset = off) (hk : P.cellsOf f.type = A.k) (hA : Oz P f.type A SA) (hB : OzAt P fs (off + A.k) B SB) : OzAt P (f :: fs) off (pairC A B) (fun x => SA x.1 ∧ SB x.2) := by
  refine ⟨fun H enc w base sp held fuel cs hl h => ?_⟩
  obtain ⟨y, hy, hz⟩ := h f (by simp)
  rw [ho, hk] at hy
  obtain ⟨x, hx, sx⟩ := hA.out H enc w base sp held fuel _ y hy hz
  obtain ⟨z, hz, sz⟩ := hB.out H enc w base sp held fuel cs (by rw [hl]; show off + (A.k + B.k) = _; omega) (fun g hg => h g (by simp [hg]))
  refine ⟨(x, z), ⟨_, _, ?_, hx, hz⟩, sx, sz⟩
  rw [← List.drop_drop, List.take_append_drop]
theorem oz_struct {P : Program} {t : TypeId} {fs : Array Field} {α : Type} {C : Cod α} {Sm : α → Prop} (ht : P.underlying t = some (.struct fs)) (hk : P.cellsOf t = C.k) (h : OzAt P fs.toList 0 C Sm) : Oz P t C Sm := by
  refine ⟨fun H enc w base sp held fuel cs y hy hz => ?_⟩
  obtain ⟨xs, n, _, rfl, hl, hxs, hf⟩ := DataW.trod_struct ht hy
  obtain ⟨x, hx, sx⟩ := h.out H enc w base sp held n cs (by omega) (fun f hfm => by
    obtain ⟨i, hi, rfl⟩ := List.getElem_of_mem hfm
    have hi' : i < fs.size := by simpa using hi
    have h1 := hf i fs[i] (by simp [hi'])
    rw [List.getElem?_eq_getElem (by omega)] at h1
    refine ⟨_, by simpa using h1, fun m hm => hz m ?_⟩
    simp only [DataW.weights, ht]
    exact DataW.weights_mem_each (j := i) (t := fs[i].type) (d := (xs[i]'(by omega)).1) (by simp [hi']) (by simp [show i < xs.length by omega]) m (by simpa using hm))
  exact ⟨x, by simpa using hx, sx⟩
theorem oz_iso {P : Program} {t : TypeId} {α β : Type} {C : Cod α} {Sm : α → Prop} (f : β → α) (g : α → β) (hg : ∀ x, f (g x) = x) (h : Oz P t C Sm) : Oz P t (isoC C f) (fun x => Sm (f x)) := by
  refine ⟨fun H enc w base sp held fuel cs y hy hz => ?_⟩
  obtain ⟨x, hx, sx⟩ := h.out H enc w base sp held fuel cs y hy hz
  exact ⟨g x, by show C.rep w [] cs (f (g x)); rw [hg]; exact hx, by rw [hg]; exact sx⟩
theorem weights_all_mem {H : Type} {P : Program} {e : TypeId} : ∀ {l : List (DataW H)} {d : DataW H}, d ∈ l → ∀ n ∈ d.weights P e, n ∈ DataW.weightsAll P e l
  | d0 :: l, d, hd, n, hn => by
    simp only [DataW.weightsAll, List.mem_append]
    rcases List.mem_cons.1 hd with rfl | hd
    · exact .inl hn
    · exact .inr (weights_all_mem hd n hn)
  | [], _, hd, _, _ => by cases hd
theorem oz_row {P : Program} {t e : TypeId} {α : Type} {E : Cod α} {SE : α → Prop} (B : Nat) (ht : P.underlying t = some (.slice e)) (hk : P.cellsOf e = E.k) (hB : P.bytesOf e = B) (hpos : 0 < E.k) (h : Oz P e E SE) : Oz P t (rowC E) (fun xs => xs.length * B ≤ reachBytes ∧ ∀ x ∈ xs, SE x) := by
  refine ⟨fun H enc w base sp held fuel cs y hy hz => ?_⟩
  rcases Go.Deep.open_slice ht hy with ⟨rfl, _⟩ | ⟨a, len, cap, m, n, D, Pl, rfl, hb, hl, hm, hmm, rfl, hi⟩
  · exact ⟨[], ⟨none, 0, rfl, Nat.le_refl _, Nat.zero_le _, RowRep.nil _ _ _ _⟩, by simp, by simp⟩
  · simp only [DataW.weights, ht, hB, List.length_map, List.length_range] at hz
    have hzl : len * B ≤ reachBytes := by
      have h1 := hz _ (List.mem_cons_self ..)
      exact Nat.le_trans (Nat.mul_le_mul_right _ (Nat.le_add_right _ _)) h1
    have hE : ∀ i, i < len → ∃ x, SE x ∧ ∃ cs', E.rep w [] cs' x ∧ ∀ j v, cs'[j]? = some v → w.cell? (a.add (i * E.k + j)) = some v := by
      intro i hil
      obtain ⟨cs', hc, ht'⟩ := hi i (by rw [hmm]; split <;> omega)
      obtain ⟨x, hx, sx⟩ := h.out H enc w base sp held n cs' _ ht' (fun q hq => hz q (List.mem_cons_of_mem _ (List.mem_append_left _ (weights_all_mem (d := D i) (by simp; exact ⟨i, hil, rfl⟩) q hq))))
      rw [hk] at hc
      obtain ⟨_, hcl, hat⟩ := World.cells?_some hc
      refine ⟨x, sx, cs', hx, fun j v hj => ?_⟩
      have hj' : j < E.k := by
        rw [← hcl]
        exact (List.getElem?_eq_some_iff.1 hj).1
      rw [← Go.Deep.add_add, hat j hj', hj]
    obtain ⟨xs, hxl, hxs⟩ := list_of_get len _ hE
    refine ⟨xs, ⟨some a, cap, by rw [hxl], by rw [hxl]; exact hl, hm, fun h0 => ?_⟩, by rw [hxl]; exact hzl, fun x hx => ?_⟩
    · obtain ⟨_, cs0, hr0, hc0⟩ := hxs 0 (xs[0]'h0) (List.getElem?_eq_getElem h0)
      have hk0 := E.len hr0
      have hc00 := hc0 0 (cs0[0]'(by omega)) (List.getElem?_eq_getElem (by omega))
      obtain ⟨b, off, spot⟩ := a
      have hspot : spot = none := by simpa [Addr.add] using World.cell?_spot hc00
      subst hspot
      have hadd : ∀ i, (⟨b, off, none⟩ : Addr).add i = ⟨b, off + i, none⟩ := by
        intro i
        unfold Addr.add
        by_cases h : i = 0 <;> simp [h]
      rw [hadd] at hc00
      refine ⟨b, off, rfl, block_lt_of_cell hc00, by simp, fun i x hx => ?_⟩
      obtain ⟨_, cs', hr, hc⟩ := hxs i x hx
      refine ⟨cs', hr, fun j v hj => ?_⟩
      have := hc j v hj
      rw [hadd, ← Nat.add_assoc] at this
      exact this
    · obtain ⟨i, hi, rfl⟩ := List.getElem_of_mem hx
      exact (hxs i _ (List.getElem?_eq_getElem hi)).1
abbrev TT {α : Type} (_ : α) : Prop := True
theorem oz_i64 : Oz Try.prog 3 i64C TT := oz_leaf op_i64
theorem oz_u64 : Oz Try.prog 22 u64C TT := oz_leaf op_u64
theorem oz_str : Oz Try.prog 9 strC TT := oz_leaf op_str
theorem oz_bool : Oz Try.prog 4 boolC TT := oz_leaf op_bool
abbrev SmR {α : Type} (B : Nat) (xs : List α) : Prop := xs.length * B ≤ reachBytes ∧ ∀ x ∈ xs, TT x
theorem oz_pairs : Oz Try.prog 28 (rowC pairT) (SmR 24) := oz_row 24 Try.underlying28 (by kernel_rfl) (by kernel_rfl) (by decide) (oz_leaf op_pair)
theorem oz_steps : Oz Try.prog 31 (rowC stepT) (SmR 40) := oz_row 40 Try.underlying31 (by kernel_rfl) (by kernel_rfl) (by decide) (oz_leaf op_step)
theorem oz_words : Oz Try.prog 24 (rowC u64C) (SmR 8) := oz_row 8 Try.underlying24 (by kernel_rfl) (by kernel_rfl) (by decide) oz_u64
theorem oz_weak {P : Program} {t : TypeId} {α : Type} {C : Cod α} {Sm Sm' : α → Prop} (h : Oz P t C Sm) (k : ∀ x, Sm x → Sm' x) : Oz P t C Sm' := ⟨fun H enc w base sp held fuel cs y hy hz => by
  obtain ⟨x, hx, sx⟩ := h.out H enc w base sp held fuel cs y hy hz
  exact ⟨x, hx, k x sx⟩⟩
theorem oz_ans : Oz Try.prog 30 ansT (fun x => x.pairs.length * 24 ≤ reachBytes) := oz_weak (oz_iso _ (fun p => ⟨p.1, p.2.1, p.2.2.1, p.2.2.2.1⟩) (fun _ => rfl) (oz_struct Try.underlying30 (by kernel_rfl)
  (oz_cons rfl (by kernel_rfl) oz_i64 (oz_cons rfl (by kernel_rfl) oz_str (oz_cons rfl (by kernel_rfl) oz_u64 (oz_cons rfl (by kernel_rfl) oz_pairs oz_nil)))))) (fun x h => h.2.2.2.1.1)
theorem oz_plan : Oz Try.prog 33 planT (fun x => x.ans.pairs.length * 24 ≤ reachBytes) := oz_weak (oz_iso _ (fun p => ⟨p.1, p.2.1, p.2.2.1, p.2.2.2.1⟩) (fun _ => rfl) (oz_struct Try.underlying33 (by kernel_rfl)
  (oz_cons rfl (by kernel_rfl) oz_i64 (oz_cons rfl (by kernel_rfl) oz_ans (oz_cons rfl (by kernel_rfl) oz_steps (oz_cons rfl (by kernel_rfl) oz_words oz_nil)))))) (fun x h => h.2.1)
/-- few pairs, as the form bounds them -/
structure SmB (x : BlockV) : Prop where
  ans : x.plan.ans.pairs.length * 24 ≤ reachBytes
  pairs : x.pairs.length * 24 ≤ reachBytes
theorem oz_block : Oz Try.prog 35 blockT SmB := oz_weak (oz_iso _ (fun p => ⟨p.1, p.2.1, p.2.2.1, p.2.2.2.1⟩) (fun _ => rfl) (oz_struct Try.underlying35 (by kernel_rfl)
  (oz_cons rfl (by kernel_rfl) oz_i64 (oz_cons rfl (by kernel_rfl) (oz_leaf op_node) (oz_cons rfl (by kernel_rfl) oz_plan (oz_cons rfl (by kernel_rfl) oz_pairs oz_nil)))))) (fun x h => ⟨h.2.2.1, h.2.2.2.1.1⟩)
theorem oz_op : Oz Try.prog 37 opT (fun _ => True) := oz_leaf op_op
theorem oz_acc : Oz Try.prog 39 accT (fun x => SmB x.block) := oz_weak (oz_iso _ (fun p => ⟨p.1, p.2.1, p.2.2.1, p.2.2.2.1, p.2.2.2.2.1, p.2.2.2.2.2.1⟩) (fun _ => rfl) (oz_struct Try.underlying39 (by kernel_rfl)
  (oz_cons rfl (by kernel_rfl) oz_i64 (oz_cons rfl (by kernel_rfl) oz_i64 (oz_cons rfl (by kernel_rfl) oz_u64 (oz_cons rfl (by kernel_rfl) oz_u64 (oz_cons rfl (by kernel_rfl) oz_block (oz_cons rfl (by kernel_rfl) oz_op oz_nil)))))))) (fun x h => h.2.2.2.2.1)
theorem oz_accs : Oz Try.prog 41 (rowC accT) (fun xs => ∀ x ∈ xs, SmB x.block) := oz_weak (oz_row _ Try.underlying41 (by kernel_rfl) rfl (by decide) oz_acc) (fun x h => h.2)
theorem sized_arg {H : Type} {P : Program} {ts vs : List TypeId} {ds gs : List (DataW H)} (hz : (DataW.weightsEach P (ts ++ vs) (ds ++ gs)).all (· ≤ reachBytes) = true) {j : Nat} {t : TypeId} {d : DataW H} (ht : ts[j]? = some t) (hd : ds[j]? = some d) : ∀ n ∈ d.weights P t, n ≤ reachBytes := fun n hn => by
  have h1 := (List.getElem?_eq_some_iff.1 ht).1
  have h2 := (List.getElem?_eq_some_iff.1 hd).1
  have := List.all_eq_true.1 hz n (DataW.weights_mem_each (j := j) (t := t) (d := d) (by rw [List.getElem?_append_left h1]; exact ht) (by rw [List.getElem?_append_left h2]; exact hd) n hn)
  simpa using this
/-- an argument that is a struct, by value, or a slice -/
theorem oz_agg {P : Program} {t : TypeId} {α : Type} {C : Cod α} {Sm : α → Prop} (h : Oz P t C Sm) {H : Type} {enc : TypeId × Value → H} {W : World} {base base' : Nat} {sp : Nat → Bool} {held : Bool} {v : Value} {d : DataW H} {p : List MemPlace} {fs : Array Field} (ht : P.underlying t = some (.struct fs))
    (hv : Value.okWide P W .any base t v) (hd : DataW.Trod enc P W base' sp held t v d p) (hz : ∀ n ∈ d.weights P t, n ≤ reachBytes) : ∃ cs x, v = .agg cs ∧ C.rep W [] cs.toList x ∧ Sm x := by
  rw [Value.okWide] at hv
  rw [ht] at hv
  obtain ⟨cs, rfl, _, _⟩ := hv
  obtain ⟨fuel, hf⟩ := hd
  obtain ⟨x, hx, sx⟩ := h.out H enc W base' sp held fuel _ _ hf hz
  exact ⟨cs, x, rfl, by simpa [Value.cells] using hx, sx⟩
theorem oz_slice {P : Program} {t e : TypeId} {α : Type} {E : Cod α} {Sm : List α → Prop} (h : Oz P t (rowC E) Sm) {H : Type} {enc : TypeId × Value → H} {W : World} {base base' : Nat} {sp : Nat → Bool} {held : Bool} {v : Value} {d : DataW H} {p : List MemPlace} (ht : P.underlying t = some (.slice e))
    (hv : Value.okWide P W .any base t v) (hd : DataW.Trod enc P W base' sp held t v d p) (hz : ∀ n ∈ d.weights P t, n ≤ reachBytes) : ∃ a c xs, v = .slice a xs.length c ∧ xs.length ≤ c ∧ xs.length ≤ maxLen ∧ RowRep E W [] a xs ∧ Sm xs := by
  obtain ⟨a0, len, cap, rfl⟩ := okWide_slice ht hv
  obtain ⟨fuel, hf⟩ := hd
  obtain ⟨xs, ⟨a, c, e1, h1, h2, h3⟩, sx⟩ := h.out H enc W base' sp held fuel _ _ hf hz
  simp [Value.cells] at e1
  obtain ⟨rfl, rfl, rfl⟩ := e1
  exact ⟨a0, cap, xs, rfl, h1, Nat.le_trans h1 h2, h3, sx⟩
end Go.Proofs.Ytpempcefgfmniaa.Dp

/-
  A memory that was made and told some accesses, and a task of reading beside it.
-/
namespace Go.Proofs.Ytpempcefgfmniaa.MemP
open Go.RowKit RefP CellP Dp
set_option linter.unusedVariables false
set_option linter.unusedSimpArgs false
theorem few_of {x : AccV} (h : lightA x = true) (s : SmB x.block) : Few x.block := by
  have hr : reachBytes = 0x7ffffffff000 := rfl
  have s1 := s.ans
  have s2 := s.pairs
  simp only [lightA, lightN, Bool.and_eq_true, decide_eq_true_eq, List.all_eq_true] at h
  obtain ⟨⟨h1, h2, h3, h4, _⟩, h5, h6, h7⟩ := h
  have hs : (x.block.pairs.length : Int) + x.block.plan.ans.pairs.length ≤ 60 := by
    rw [sumW, IntKind.wrap_i64] at h7; omega
  exact ⟨by omega, by omega, by omega, by omega, by omega, by omega, by omega⟩
theorem few_all {xs : List AccV} (h : lightL xs = true) (s : ∀ x ∈ xs, SmB x.block) : ∀ x ∈ xs, Few x.block := by
  simp only [lightL, Bool.and_eq_true, List.all_eq_true] at h
  exact fun x hx => few_of (h.1 x hx) (s x hx)
theorem light_len {xs : List AccV} (h : lightL xs = true) : xs.length ≤ 60 := by
  simp only [lightL, Bool.and_eq_true, decide_eq_true_eq] at h
  exact h.2
/-- what a new memory has -/
def newV (A T : Nat) (gen : Int) : MemV := ⟨A, T, freshL A T gen, (List.replicate A blockZ).set 0 blockE, List.replicate T opZ⟩
theorem new_is {w : World} {o oc g gb gr A T : Nat} {gen : Int} (h : MemAt w o oc g gb gr A T (freshL A T gen) ((List.replicate A zb).set 0 eb) (List.replicate T zo)) : MemIs w (MemId.own ⟨o, oc, g, gb, gr⟩) ⟨o, oc, g, gb, gr⟩ (newV A T gen) := by
  refine ⟨⟨(List.replicate A zb).set 0 eb, ?_, fun i hi => ?_⟩, by simp [newV], fun x hx => ?_, fun b hb => hb⟩
  · show MemAt w o oc g gb gr A T (freshL A T gen) ((List.replicate A zb).set 0 eb) ((List.replicate T opZ).map opL)
    rw [List.map_replicate]
    exact h
  · have hi' : i < A := hi
    show IsB w _ (((List.replicate A zb).set 0 eb).getD i []) (((List.replicate A blockZ).set 0 blockE).getD i blockZ)
    by_cases h0 : i = 0
    · subst h0
      simp only [List.getD_eq_getElem?_getD, List.getElem?_set_self', List.getElem?_replicate, if_pos hi']
      exact isB_eb w _
    · simp only [List.getD_eq_getElem?_getD, List.getElem?_set_ne (show 0 ≠ i by omega), List.getElem?_replicate, if_pos hi']
      exact isB_zb w _
  · have : x = opZ := (List.mem_replicate.1 hx).2
    rw [this]; exact opZ_ok
theorem fresh_vb (A T : Nat) (gen : Int) : VB (freshL A T gen) 0 := by
  intro p hp
  simp only [freshL, List.mem_map] at hp
  obtain ⟨i, _, rfl⟩ := hp
  simp
/-- a memory, told accesses -/
structure MStep (w0 wr : World) (m : MemId) (M : MemV) (n : Nat) : Prop where
  b : Below w0.heap.size w0 wr
  mem : MemIs wr m.own m M
  sh : M.A = 5 ∧ M.T = 2 ∧ M.L.length = 21
  vb : VB M.L n
  lo : ∀ b ∈ m.own, w0.heap.size ≤ b
theorem MStep.under {w0 wr wx : World} {m : MemId} {M : MemV} {n : Nat} (h : MStep w0 wr m M n) (hb : Below wr.heap.size wr wx) : MStep w0 wx m M n :=
  ⟨below_push2 h.b hb (Nat.le_refl _), h.mem.below hb, h.sh, h.vb, h.lo⟩
theorem did_lo {m : MemId} {B : Nat} (h : ∀ b ∈ m.own, B ≤ b) : ∀ b ∈ [m.g, m.gb, m.gr], B ≤ b := by
  simp only [MemId.own, List.mem_cons, List.not_mem_nil, or_false, forall_eq_or_imp, forall_eq] at h ⊢
  exact ⟨h.2.2.1, h.2.2.2.1, h.2.2.2.2⟩
theorem MStep.did {w0 wr wx : World} {m : MemId} {M : MemV} {n : Nat} {a : AccV} {e : Ending} (h : MStep w0 wr m M n) (hn : n ≤ 100000) (d : Did wr m.own m M a e wx) : MStep w0 wx m (doV M a) (n + 1) :=
  ⟨d.fr.below h.b (Nat.le_refl _) (did_lo h.lo), d.mem, by rw [(doV_A M a).1, (doV_A M a).2, doV_len]; exact h.sh, h.vb.step hn a, h.lo⟩
/-- the cells of a task of reading -/
abbrev rdX (m : Option Addr) (th cell : Int) (x : RS) (q : NodeH) : Array Value := rdA m th x.at_ x.st x.su cell x.word x.ver (.int .i64 x.node.level) (.string x.node.low) (.string x.node.high) (.bool x.node.last) (.int .i64 x.node.next) (.slice q.keys.a x.node.keys.length q.keys.c) (.slice q.vals.a x.node.vals.length q.vals.c) (.slice q.kids.a x.node.kids.length q.kids.c)
theorem NodeOk.more' {w : World} {S S' : List Nat} {q : NodeH} {x : NodeV} (h : NodeOk w S q x) (k : ∀ b ∈ S', b ∈ S ∨ w.heap.size ≤ b) : NodeOk w S' q x := ⟨h.level, h.low, h.high, h.next, h.keys.more k, h.vals.more k, h.kids.more k⟩
theorem RepOk.keep {w w' : World} {S : List Nat} {q : BlockH} {r : ReplyV} (h : RepOk w S q r) (k : Keeps S w w') : RepOk w' S q r := ⟨h.word, h.ver, h.block.keep k, h.few, h.op⟩
theorem RepOk.more {w : World} {S S' : List Nat} {q : BlockH} {r : ReplyV} (h : RepOk w S q r) (k : ∀ b ∈ S', b ∈ S ∨ w.heap.size ≤ b) : RepOk w S' q r := ⟨h.word, h.ver, h.block.more k, h.few, h.op⟩
/-- the task's own access: its reply -/
theorem rs_rep {M : MemV} {A T : Nat} {th cell : Int} {x : RS} (hx : x.at_ ≠ 3) : (rsAcc A T th cell x).kind ≠ 4 ∧ (repV M (rsAcc A T th cell x)).block = blockZ ∧ (repV M (rsAcc A T th cell x)).op = opZ := by
  by_cases h1 : x.at_ = 1
  · have e : rsAcc A T th cell x = ⟨2, hazI A T th 1, 0, x.word, blockZ, opZ⟩ := by simp [rsAcc, h1]
    rw [e]; refine ⟨by simp, ?_, ?_⟩ <;> simp [repV]
  · have e : rsAcc A T th cell x = ⟨1, atI A T 0 cell, 0, 0, blockZ, opZ⟩ := by simp [rsAcc, h1, hx]
    rw [e]; refine ⟨by simp, ?_, ?_⟩ <;> simp [repV]
theorem rs_ok {w : World} {A T : Nat} {th cell : Int} {x : RS} (hA : A ≤ 8192) (hT : T ≤ 16) (h1 : U64 x.word) : AccOk w [] nilH (rsAcc A T th cell x) := by
  have h0 : I64 (atI A T 0 cell) := by
    by_cases hc : 0 ≤ cell ∧ cell < sizeI A T 0
    · rw [atI_yes hc.1 hc.2]
      have h1 := hc.1
      have h2 : cell < (A : Int) := hc.2
      have h3 : fromI A T 0 = 0 := rfl
      rw [h3]; unfold I64; omega
    · rw [atI_no hc]; exact ⟨by decide, by decide⟩
  have h2 : I64 (hazI A T th 1) := by
    unfold hazI I64
    split <;> omega
  have b := blockZ_ok w []
  have i0 : ∀ k : Int, 0 ≤ k → k ≤ 10 → I64 k := fun k _ _ => by unfold I64; omega
  have u0 : U64 0 := ⟨by decide, by decide⟩
  unfold rsAcc
  split
  · exact ⟨i0 2 (by decide) (by decide), h2, u0, h1, b, opZ_ok⟩
  · split
    · exact ⟨i0 4 (by decide) (by decide), i0 0 (by decide) (by decide), u0, h1, b, opZ_ok⟩
    · exact ⟨i0 1 (by decide) (by decide), h0, u0, u0, b, opZ_ok⟩
theorem rs_few {A T : Nat} {th cell : Int} {x : RS} : Few (rsAcc A T th cell x).block := by
  unfold rsAcc
  split
  · exact fewZ
  · split <;> exact fewZ
end Go.Proofs.Ytpempcefgfmniaa.MemP

/-
  Carrying out, the program's and the document's, step by step: plain laws; both beside a memory.
-/
namespace Go.Proofs.Ytpempcefgfmniaa.MemP
open Go.RowKit RefP CellP Dp
set_option linter.unusedVariables false
set_option linter.unusedSimpArgs false
/-- how many accesses are left at most -/
def krem (k : KS) : Nat := if k.at_ = 0 then 67 else if k.at_ = 1 then 66 else if k.at_ = 2 then 65 else if k.at_ = 3 then k.steps.length + 4 else if k.at_ = 4 then 4 else if k.at_ = 5 then 3 else if k.at_ = 6 then 2 else if k.at_ = 7 then 1 else 0
theorem k_rem (p : KP) (k : KS) (r : ReplyV) (h0 : 0 ≤ k.at_) (h1 : k.at_ ≤ 7) (h3 : k.at_ = 3 → 0 < k.steps.length) (hr : r.block.plan.steps.length ≤ 60) : krem (kTell p k r) + 1 ≤ krem k := by
  obtain ⟨at_, steps, done, tu, en⟩ := k
  simp only at h0 h1
  have hc : at_ = 0 ∨ at_ = 1 ∨ at_ = 2 ∨ at_ = 3 ∨ at_ = 4 ∨ at_ = 5 ∨ at_ = 6 ∨ at_ = 7 := by omega
  rcases hc with rfl | rfl | rfl | rfl | rfl | rfl | rfl | rfl
  · simp [kTell, krem]
  · by_cases e : r.ver = p.ver <;> simp [kTell, krem, e]
  · by_cases e : r.ok = true ∧ r.block.kind = 2
    · by_cases hl : r.block.plan.steps = []
      · simp [kTell, krem, e, hl]
      · simp [kTell, krem, e, hl]; omega
    · simp [kTell, krem, e]
  · have := h3 rfl
    simp only at this
    by_cases e : steps.length ≤ 1
    · simp [kTell, krem, e]; omega
    · simp [kTell, krem, e]; omega
  · by_cases e : r.word = 0 <;> simp [kTell, krem, e]
  · by_cases e : r.ver = p.ver <;> simp [kTell, krem, e]
  · simp [kTell, krem]
  · simp [kTell, krem]
theorem k_at (p : KP) (k : KS) (r : ReplyV) (h0 : 0 ≤ k.at_) (h1 : k.at_ ≤ 7) (h3 : k.at_ = 3 → 0 < k.steps.length) : (0 ≤ (kTell p k r).at_ ∧ (kTell p k r).at_ ≤ 8) ∧ ((kTell p k r).at_ = 3 → 0 < (kTell p k r).steps.length) := by
  obtain ⟨at_, steps, done, tu, en⟩ := k
  simp only at h0 h1
  have hc : at_ = 0 ∨ at_ = 1 ∨ at_ = 2 ∨ at_ = 3 ∨ at_ = 4 ∨ at_ = 5 ∨ at_ = 6 ∨ at_ = 7 := by omega
  rcases hc with rfl | rfl | rfl | rfl | rfl | rfl | rfl | rfl
  · simp [kTell]
  · by_cases e : r.ver = p.ver <;> simp [kTell, e]
  · by_cases e : r.ok = true ∧ r.block.kind = 2
    · by_cases hl : r.block.plan.steps = []
      · simp [kTell, e, hl]
      · simp [kTell, e, hl]; exact List.length_pos_iff.2 hl
    · simp [kTell, e]
  · have := h3 rfl
    simp only at this
    by_cases e : steps.length ≤ 1
    · simp [kTell, e]
    · simp [kTell, e]; omega
  · by_cases e : r.word = 0 <;> simp [kTell, e]
  · by_cases e : r.ver = p.ver <;> simp [kTell, e]
  · simp [kTell]
  · simp [kTell]
/-- the document's and the program's -/
structure KSame (k k' : KS) : Prop where
  at_ : k'.at_ = k.at_
  tu : k'.tu = k.tu
  en : k'.en = k.en
  done : k'.done = k.done
  steps : k.at_ ≠ 8 → k'.steps = k.steps
theorem KSame.tell {p : KP} {k k' : KS} (h : KSame k k') (r : ReplyV) (h0 : 0 ≤ k.at_) (h1 : k.at_ ≤ 7) : KSame (kTell p k r) (dkTell p k' r) := by
  have hs := h.steps (by omega)
  obtain ⟨at_, steps, done, tu, en⟩ := k
  obtain ⟨at1, steps1, done1, tu1, en1⟩ := k'
  obtain ⟨e1, e2, e3, e4, _⟩ := h
  simp only at e1 e2 e3 e4 hs
  subst e1 e2 e3 e4 hs
  unfold dkTell
  by_cases hn : at1 = 2 ∧ ¬ (r.ok = true ∧ r.block.kind = 2)
  · rw [if_pos hn]
    obtain ⟨rfl, hn⟩ := hn
    have e : kTell p ⟨2, steps1, done1, tu1, en1⟩ r = ⟨8, r.block.plan.steps, done1, false, en1⟩ := by simp [kTell, hn]
    rw [e]
    exact ⟨rfl, rfl, rfl, rfl, fun e => absurd rfl e⟩
  · rw [if_neg hn]
    exact ⟨rfl, rfl, rfl, rfl, fun _ => rfl⟩
theorem k_done (p : KP) (k : KS) (r : ReplyV) (hd : U64 k.done) (hr : U64 r.ver) : U64 (kTell p k r).done := by
  unfold kTell
  repeat' split
  all_goals first | exact hd | exact hr
theorem i64_at {A T : Nat} {r : Nat} (hA : A ≤ 8192) (hT : T ≤ 16) (hr : r ≤ 6) (i : Int) : I64 (atI A T r i) := by
  have hf : 0 ≤ fromI A T r ∧ fromI A T r ≤ 1000000 ∧ sizeI A T r ≤ 100000 := by
    have : r = 0 ∨ r = 1 ∨ r = 2 ∨ r = 3 ∨ r = 4 ∨ r = 5 ∨ r = 6 := by omega
    rcases this with rfl | rfl | rfl | rfl | rfl | rfl | rfl <;> simp [fromI, sizeI] <;> omega
  by_cases h : 0 ≤ i ∧ i < sizeI A T r
  · rw [atI_yes h.1 h.2]; unfold I64; omega
  · rw [atI_no h]; exact ⟨by decide, by decide⟩
theorem i64_haz {A T : Nat} (hA : A ≤ 8192) (hT : T ≤ 16) (t k : Int) : I64 (hazI A T t k) := by
  unfold hazI I64
  split <;> omega
theorem k_ok {w w1 : World} {S : List Nat} {A T : Nat} {p : KP} {k : KS} {q : Hd} (hA : A ≤ 8192) (hT : T ≤ 16) (P : KPok p) (hd : U64 k.done) (H : HRow Dp.stepT w1 S q k.steps) (h3 : k.at_ = 3 → 0 < k.steps.length) : AccOk w [] nilH (kAcc A T p k) := by
  have b := blockZ_ok w []
  have i0 : ∀ k : Int, 0 ≤ k → k ≤ 10 → I64 k := fun k _ _ => by unfold I64; omega
  have u0 : U64 0 := ⟨by decide, by decide⟩
  have hx := P.x
  have hmx : U64 (maxW p.x) := by
    unfold maxW U64
    obtain ⟨x0, x1⟩ := hx
    split <;> omega
  have hg : I64 (gateI A T) := by rw [← gate_at]; exact i64_at hA hT (by decide) 0
  unfold kAcc
  split
  · exact ⟨i0 2 (by decide) (by decide), i64_haz hA hT _ _, u0, hx, b, opZ_ok⟩
  split
  · exact ⟨i0 4 (by decide) (by decide), i0 0 (by decide) (by decide), u0, hx, b, opZ_ok⟩
  split
  · rename_i h
    obtain ⟨_, _, _, _, _, ho, _⟩ := step_cell H (h3 h)
    exact ⟨i0 3 (by decide) (by decide), i64_at hA hT (by decide) _, ho.ver, ho.new, b, opZ_ok⟩
  split
  · exact ⟨i0 1 (by decide) (by decide), i64_at hA hT (by decide) _, u0, u0, b, opZ_ok⟩
  split
  · exact ⟨i0 3 (by decide) (by decide), i64_at hA hT (by decide) _, hd, hmx, b, opZ_ok⟩
  split
  · exact ⟨i0 3 (by decide) (by decide), hg, P.ver, u0, b, opZ_ok⟩
  · exact ⟨i0 1 (by decide) (by decide), hg, u0, u0, b, opZ_ok⟩
theorem k_few {A T : Nat} {p : KP} {k : KS} : Few (kAcc A T p k).block := by
  unfold kAcc
  repeat' split
  all_goals exact fewZ
/-- both, beside a memory -/
structure KIs (w0 wr : World) (m : MemId) (M : MemV) (Md : MemV) (dd : DH) (t td : Nat) (p : KP) (k k' : KS) (q q' : Hd) : Prop where
  b : Below w0.heap.size w0 wr
  mem : MemIs wr (t :: td :: m.own) m M
  task : Blk wr t (carX m.o p k q) 100
  doc : Blk wr td (dcX Md dd p k' q') 84
  steps : HRow Dp.stepT wr (t :: td :: m.own) q k.steps
  dsteps : HRow Dp.stepT wr (t :: td :: m.own) q' k'.steps
  sh : M.A = 5 ∧ M.T = 2
  dsh : Md.A = 5 ∧ Md.T = 2
  lo : ∀ b ∈ t :: td :: m.own, w0.heap.size ≤ b
  ne : t ≠ td ∧ t ∉ m.own ∧ td ∉ m.own
  same : KSame k k'
  rng : 0 ≤ k.at_ ∧ k.at_ ≤ 8
  h3 : k.at_ = 3 → 0 < k.steps.length
  gate : k.at_ ≠ 8 → KGate p
  done : U64 k.done
theorem KIs.lt {w0 wr : World} {m : MemId} {M Md : MemV} {dd : DH} {t td : Nat} {p : KP} {k k' : KS} {q q' : Hd} (h : KIs w0 wr m M Md dd t td p k k' q q') : ∀ b ∈ t :: td :: m.own, b < wr.heap.size := by
  intro b hb
  rcases List.mem_cons.1 hb with rfl | hb
  · exact h.task.lt
  · rcases List.mem_cons.1 hb with rfl | hb
    · exact h.doc.lt
    · exact h.mem.lt b hb
theorem KIs.keep {w0 wr wx : World} {S' : List Nat} {m : MemId} {M Md : MemV} {dd : DH} {t td : Nat} {p : KP} {k k' : KS} {q q' : Hd} (h : KIs w0 wr m M Md dd t td p k k' q q') (F : Fr S' wr wx) (hS : ∀ b ∈ S', b ∈ [m.g, m.gb, m.gr]) (M' : MemV) (hM : MemIs wx (t :: td :: m.own) m M') (hA : M'.A = 5 ∧ M'.T = 2) : KIs w0 wx m M' Md dd t td p k k' q q' := by
  have h3 : ∀ b ∈ [m.g, m.gb, m.gr], b ∈ m.own := by simp [MemId.own]
  have h4 : ∀ b ∈ S', b ∈ t :: td :: m.own := fun b hb => List.mem_cons_of_mem _ (List.mem_cons_of_mem _ (h3 b (hS b hb)))
  exact ⟨F.below h.b (Nat.le_refl _) (fun b hb => h.lo b (h4 b hb)), hM, F.blk h.task (fun e => h.ne.2.1 (h3 _ (hS _ e))), F.blk h.doc (fun e => h.ne.2.2 (h3 _ (hS _ e))), h.steps.keep (F.keeps.more h4), h.dsteps.keep (F.keeps.more h4), hA, h.dsh, h.lo, h.ne, h.same, h.rng, h.h3, h.gate, h.done⟩
theorem KIs.under {w0 wr wx : World} {m : MemId} {M Md : MemV} {dd : DH} {t td : Nat} {p : KP} {k k' : KS} {q q' : Hd} (h : KIs w0 wr m M Md dd t td p k k' q q') (hb : Below wr.heap.size wr wx) : KIs w0 wx m M Md dd t td p k k' q q' :=
  h.keep (S' := []) (Fr.of_below hb) (by simp) M (h.mem.below hb) h.sh
theorem KIs.did {w0 wr wx : World} {m : MemId} {M Md : MemV} {dd : DH} {t td : Nat} {p : KP} {k k' : KS} {q q' : Hd} {a : AccV} {e : Ending} (h : KIs w0 wr m M Md dd t td p k k' q q') (d : Did wr (t :: td :: m.own) m M a e wx) : KIs w0 wx m (doV M a) Md dd t td p k k' q q' :=
  h.keep d.fr (fun b hb => hb) _ d.mem (by rw [(doV_A M a).1, (doV_A M a).2]; exact h.sh)
/-- Next of both -/
theorem KIs.next {w0 wr : World} {m : MemId} {M Md : MemV} {dd : DH} {t td : Nat} {p : KP} {k k' : KS} {q q' : Hd} (h : KIs w0 wr m M Md dd t td p k k' q q') (P : KPok p) (h8 : k.at_ ≠ 8) :
    Calls Try.prog 36 #[.pointer (some ⟨t, 0, none⟩)] wr fun e w' => e = .returned (.tuple #[.agg (acc26 nilH (kAcc 5 2 p k)).toArray, .bool true]) ∧ Below wr.heap.size wr w' := by
  obtain ⟨bs, hM⟩ := h.mem.at_
  have hr := h.rng
  rw [← h.sh.1, ← h.sh.2]
  exact k_next t p k q wr hM h.task P h.steps hr.1 (by omega) h.h3
theorem KIs.dnext {w0 wr : World} {m : MemId} {M Md : MemV} {dd : DH} {t td : Nat} {p : KP} {k k' : KS} {q q' : Hd} (h : KIs w0 wr m M Md dd t td p k k' q q') (P : KPok p) (h8 : k.at_ ≠ 8) :
    Calls Try.prog 37 #[.agg (dcX Md dd p k' q')] wr fun e w' => e = .returned (.tuple #[.agg (acc26 nilH (kAcc 5 2 p k)).toArray, .bool true]) ∧ Below wr.heap.size wr w' := by
  have hr := h.rng
  have hs := h.same
  have e : kAcc 5 2 p k = kAcc Md.A Md.T p k' := by
    rw [h.dsh.1, h.dsh.2]
    have e1 := hs.at_
    have e2 := hs.steps h8
    have e3 := hs.done
    unfold kAcc KS.hd
    rw [e1, e2, e3]
  rw [e]
  have hA := h.dsh
  exact dk_next Md dd p k' q' wr (by omega) (by omega) P (h.gate h8) h.dsteps (by rw [hs.at_]; exact hr.1) (by rw [hs.at_]; omega) (by rw [hs.at_, hs.steps h8]; exact h.h3)
theorem KIs.over {w0 wr : World} {m : MemId} {M Md : MemV} {dd : DH} {t td : Nat} {p : KP} {k k' : KS} {q q' : Hd} (h : KIs w0 wr m M Md dd t td p k k' q q') (h8 : k.at_ = 8) :
    (Calls Try.prog 36 #[.pointer (some ⟨t, 0, none⟩)] wr fun e w' => e = .returned (.tuple #[.agg (accY 0 0 0 0), .bool false]) ∧ Below wr.heap.size wr w') ∧
    Calls Try.prog 37 #[.agg (dcX Md dd p k' q')] wr fun e w' => e = .returned (.tuple #[.agg (accY 0 0 0 0), .bool false]) ∧ Below wr.heap.size wr w' := by
  obtain ⟨bs, hM⟩ := h.mem.at_
  have hA := h.dsh
  exact ⟨k_over t p k q wr hM h.task h8, dk_over Md dd p k' q' wr (by omega) (by omega) (by rw [h.same.at_]; exact h8)⟩
/-- Tell -/
def KTwo (w0 w : World) (m : MemId) (M Md : MemV) (dd : DH) (t td : Nat) (p : KP) (k k' : KS) (q' : Hd) (X : Nat) (qr : BlockH) (r : ReplyV) (e : Ending) (w' : World) : Prop :=
  e = .returned (.tuple #[]) ∧ Below w0.heap.size w0 w' ∧ MemIs w' (t :: td :: m.own) m M ∧ Blk w' td (dcX Md dd p k' q') 84 ∧ HRow Dp.stepT w' (t :: td :: m.own) q' k'.steps ∧ (∃ q : Hd, Blk w' t (carX m.o p (kTell p k r) q) 100 ∧ HRow Dp.stepT w' (t :: td :: m.own) q (kTell p k r).steps) ∧ Blk w' X (repA qr r) 50 ∧ RepOk w' (t :: td :: m.own) qr r
theorem KIs.tell {w0 wr : World} {m : MemId} {M Md : MemV} {dd : DH} {t td : Nat} {p : KP} {k k' : KS} {q q' : Hd} (h : KIs w0 wr m M Md dd t td p k k' q q') (h8 : k.at_ ≠ 8) {X : Nat} {qr : BlockH} {r : ReplyV} (BQ : Blk wr X (repA qr r) 50) (hX : X ≠ t) (hr : RepOk wr (t :: td :: m.own) qr r) :
    Calls Try.prog 40 #[.pointer (some ⟨t, 0, none⟩), .agg (repA qr r)] wr (KTwo w0 wr m M Md dd t td p k k' q' X qr r) := by
  obtain ⟨bs, hM⟩ := h.mem.at_
  have hrg := h.rng
  have hdis : ¬ m.o = t ∧ ¬ m.oc = t ∧ ¬ m.g = t ∧ ¬ m.gb = t ∧ ¬ m.gr = t := by
    have := h.ne.2.1
    simp only [MemId.own, List.mem_cons, List.not_mem_nil, or_false, not_or] at this
    exact ⟨fun e => this.1 e.symm, fun e => this.2.1 e.symm, fun e => this.2.2.1 e.symm, fun e => this.2.2.2.1 e.symm, fun e => this.2.2.2.2 e.symm⟩
  refine (k_tell (S := t :: td :: m.own) t p k q qr r wr hM hdis h.task h.steps (by simp) hr hrg.1 (by omega) h.h3).mono ?_
  rintro e w' ⟨rfl, q2, B2, H2, F⟩
  have h1 : ∀ b ∈ [t], b ∈ t :: td :: m.own := by simp
  refine ⟨rfl, F.below h.b (Nat.le_refl _) (fun b hb => h.lo b (h1 b hb)), h.mem.keep F h1 (fun b hb e => h.ne.2.1 (by simp only [List.mem_singleton] at e; exact e ▸ hb)), F.blk h.doc (by simpa using fun e => h.ne.1 e.symm), h.dsteps.keep (F.keeps.more h1), ⟨q2, B2, H2⟩, F.blk BQ (by simpa using hX), hr.keep (F.keeps.more h1)⟩
/-- both told -/
theorem KIs.told {w0 wr w1 w2 : World} {m : MemId} {M Md : MemV} {dd : DH} {t td : Nat} {p : KP} {k k' : KS} {q q' q2 q3 : Hd} {r : ReplyV} (h : KIs w0 wr m M Md dd t td p k k' q q') (h8 : k.at_ ≠ 8) (hv : U64 r.ver)
    (hb : Below w0.heap.size w0 w1) (hmem : MemIs w1 (t :: td :: m.own) m M) (BT : Blk w1 t (carX m.o p (kTell p k r) q2) 100) (HT : HRow Dp.stepT w1 (t :: td :: m.own) q2 (kTell p k r).steps) (BD : Blk w1 td (dcX Md dd p k' q') 84) (HD : HRow Dp.stepT w1 (t :: td :: m.own) q3 (dkTell p k' r).steps) (hb2 : Below w1.heap.size w1 w2) :
    KIs w0 (w2.setRow td (dcX Md dd p (dkTell p k' r) q3)) m M Md dd t td p (kTell p k r) (dkTell p k' r) q2 q3 := by
  have hrg := h.rng
  have hk := k_at p k r hrg.1 (by omega) h.h3
  have FSx := Fr.row (S := [td]) (w := w2) td (dcX Md dd p (dkTell p k' r) q3) (by simp)
  have h1 : ∀ b ∈ [td], b ∈ t :: td :: m.own := by simp
  refine ⟨FSx.below (below_push2 hb hb2 (Nat.le_refl _)) (Nat.le_refl _) (fun b hb => h.lo b (h1 b hb)), (hmem.below hb2).keep FSx h1 (fun b hb e => h.ne.2.2 (by simp only [List.mem_singleton] at e; exact e ▸ hb)), FSx.blk (BT.below hb2) (by simpa using h.ne.1), Blk.row (BD.below hb2) _, (HT.keep (Keeps.of_below hb2)).keep (FSx.keeps.more h1), (HD.keep (Keeps.of_below hb2)).keep (FSx.keeps.more h1), h.sh, h.dsh, h.lo, h.ne, h.same.tell r hrg.1 (by omega), hk.1, hk.2, fun _ => h.gate h8, k_done p k r h.done hv⟩
end Go.Proofs.Ytpempcefgfmniaa.MemP

/-
  CarryGoes: the walk.
-/
namespace Go.Proofs.Ytpempcefgfmniaa.carryGoes
open Go.ChangeShapes Go.WideShapes Go.ChangeAt Go.RowKit RefP CellP MemP Dp
set_option linter.unusedVariables false
set_option linter.unusedSimpArgs false
theorem kis_start {w wr W : World} {m : MemId} {M Md : MemV} {dd : DH} {n t td : Nat} {p : KP} (h : MStep w wr m M n) (hA : Md.A = 5) (hT : Md.T = 2) (hb : Below wr.heap.size wr W) (BT : Blk W t (carX m.o p (kNew 2 p) Hd.nil) 100) (BD : Blk W td (dcX Md dd p (kNew 2 p) Hd.nil) 84) (h1 : wr.heap.size ≤ t) (h2 : wr.heap.size ≤ td) (h3 : t ≠ td) : KIs w W m M Md dd t td p (kNew 2 p) (kNew 2 p) Hd.nil Hd.nil := by
  have hl := h.mem.lt
  have hs := h.b.size
  have hn : ∀ b ∈ m.own, b ≠ t ∧ b ≠ td := fun b hb => by have := hl b hb; omega
  refine ⟨below_push2 h.b hb (Nat.le_refl _), (h.mem.more (S' := t :: td :: m.own) (fun b hb => ?_) (fun b hb => List.mem_cons_of_mem _ (List.mem_cons_of_mem _ hb))).below hb, BT, BD, HRow.nil _ _ _, HRow.nil _ _ _, ⟨h.sh.1, h.sh.2.1⟩, ⟨hA, hT⟩, ?_, ⟨h3, fun e => (hn t e).1 rfl, fun e => (hn td e).2 rfl⟩, ⟨rfl, rfl, rfl, rfl, fun _ => rfl⟩, ?_, ?_, ?_, ⟨Int.le_refl 0, (by decide : (0 : Int) ≤ 18446744073709551615)⟩⟩
  · rcases List.mem_cons.1 hb with rfl | hb
    · exact .inr h1
    · rcases List.mem_cons.1 hb with rfl | hb
      · exact .inr h2
      · exact .inl hb
  · intro b hb
    rcases List.mem_cons.1 hb with rfl | hb
    · omega
    · rcases List.mem_cons.1 hb with rfl | hb
      · omega
      · exact h.lo b hb
  · show 0 ≤ kNewAt 2 p ∧ kNewAt 2 p ≤ 8
    unfold kNewAt
    repeat' split
    all_goals omega
  · show kNewAt 2 p = 3 → _
    unfold kNewAt
    intro e
    repeat' split at e
    all_goals omega
  · show kNewAt 2 p ≠ 8 → _
    unfold kNewAt
    intro e
    split at e
    · rename_i h; exact ⟨h.1, h.2.1⟩
    · exact absurd rfl e
theorem krem_new (p : KP) : krem (kNew 2 p) ≤ 67 := by
  have h : kNewAt 2 p = 0 ∨ kNewAt 2 p = 4 ∨ kNewAt 2 p = 8 := by
    unfold kNewAt
    repeat' split
    all_goals simp
  rcases h with h | h | h <;> simp [krem, kNew, h]
set_option maxRecDepth 100000 in
set_option maxHeartbeats 6400000 in
theorem walk (a : Option Addr) (c : Nat) (xs : List AccV) (p : KP) (a' : Option Addr) (c' : Nat) (ys : List AccV) (w : World) (H : RowRep accT w [] a xs) (H' : RowRep accT w [] a' ys) (hm : xs.length ≤ 9223372036854775807) (hm' : ys.length ≤ 9223372036854775807) (sx : ∀ x ∈ xs, SmB x.block) (sy : ∀ x ∈ ys, SmB x.block) (P : KPok p) :
    Calls Try.prog 7 #[.slice a xs.length c, .int .i64 p.hp, .agg #[.int .i64 p.s, .int .i64 p.th, .int .u64 p.x], .int .u64 p.ver, .slice a' ys.length c'] w fun e w' => e = .returned (.bool true) ∧ Below w.heap.size w w' := by
  have hbG : Below w.heap.size w (w.alloc (.cells #[.int .i64 p.s, .int .i64 p.th, .int .u64 p.x] 79)) := by (repeat (first | exact Below.refl _ _ | assumption | refine below_alloc2 ?_ (by first | exact Nat.le_refl _ | omega) _ | refine Below.drew ?_ | refine below_drewN ?_ _ | refine below_push2 ?_ ‹_› (by first | exact Nat.le_refl _ | omega) | refine Below.setCell ?_ (by first | (simp; done) | (simp; omega) | omega) _))
  have BG := Blk.new w #[.int .i64 p.s, .int .i64 p.th, .int .u64 p.x] 79
  obtain ⟨G, hG⟩ : ∃ G, G = w.heap.size := ⟨_, rfl⟩
  go_enter Try.func7, Try.ntmps7
  go_upto_region 1 with (fail)
  rw [← hG] at BG ⊢
  replace hG := Lib.hid hG
  generalize w.alloc (.cells #[.int .i64 p.s, .int .i64 p.th, .int .u64 p.x] 79) = wg at hbG BG ⊢
  go_wp2_with fail
  refine (light_any [] a c xs wg (H.keep (Keeps.of_below hbG)) hm).mono ?_
  rintro e w1 ⟨rfl, hb1⟩
  have hB1 := below_push2 hbG hb1 (Nat.le_refl _)
  replace BG := BG.below hb1
  cases hL : lightL xs
  · go_wp2_with fail
    refine (carLives_any _).mono ?_
    rintro e w3 ⟨rfl, hb3⟩
    go_wp2_with fail
    go_ret
    exact ⟨rfl, below_push2 hB1 hb3 (Nat.le_refl _)⟩
  go_wp2_with fail
  refine (light_any [] a' c' ys w1 (H'.keep (Keeps.of_below hB1)) hm').mono ?_
  rintro e w2 ⟨rfl, hb2⟩
  have hB2 := below_push2 hB1 hb2 (Nat.le_refl _)
  replace BG := BG.below hb2
  clear hb1 hb2 hbG hB1
  cases hL' : lightL ys
  · go_wp2_with fail
    refine (carLives_any _).mono ?_
    rintro e w3 ⟨rfl, hb3⟩
    go_wp2_with fail
    go_ret
    exact ⟨rfl, below_push2 hB2 hb3 (Nat.le_refl _)⟩
  have fx := few_all hL sx
  have fy := few_all hL' sy
  have lx := light_len hL
  have ly := light_len hL'
  clear hL hL' sx sy hm hm'
  go_wp2_with fail
  refine (mnew_yes 5 2 0 _ (by omega) (by omega) (by omega) (by omega) (by omega) (by omega)).mono ?_
  rintro e w3 ⟨o, oc, g, gb, gr, rfl, hM, hb3, ho, hoc, hg, hgb, hgr⟩
  have hs2 := hB2.size
  have hGlt := BG.lt
  have hR0 : MStep w w3 ⟨o, oc, g, gb, gr⟩ (newV 5 2 0) 0 := ⟨below_push2 hB2 hb3 (Nat.le_refl _), new_is hM, ⟨rfl, rfl, by simp [newV, freshL]⟩, fresh_vb _ _ _, by simp only [MemId.own, List.mem_cons, List.not_mem_nil, or_false, forall_eq_or_imp, forall_eq]; omega⟩
  have hGo : G ∉ MemId.own ⟨o, oc, g, gb, gr⟩ := by simp only [MemId.own, List.mem_cons, List.not_mem_nil, or_false]; omega
  obtain ⟨m, hm⟩ : ∃ m : MemId, m = ⟨o, oc, g, gb, gr⟩ := ⟨_, rfl⟩
  have ho' : o = m.o := by rw [hm]
  rw [← hm] at hR0 hGo
  clear hm
  subst ho'
  generalize newV 5 2 0 = M0 at hR0
  replace BG := BG.below hb3
  clear hM hb3 ho hoc hg hgb hgr hs2 hB2 hGlt
  go_wp2_with fail
  refine (show Calls _ _ _ _ _ from dmnew 5 2 0 w3 (by omega) (by omega) (by omega) (by omega) (by omega) (by omega)).mono ?_
  rintro e w4 ⟨⟨a1, n1, c1, a2, n2, c2, a3, n3, c3, rfl⟩, hb4⟩
  obtain ⟨Md, dd, hA, hT, hdm⟩ := dm_as (A := 5) (T := 2) a1 n1 c1 a2 n2 c2 a3 n3 c3
  rw [hdm]
  clear hdm
  have hbx : Below w4.heap.size w4 (w4.alloc (.cells (dmX Md dd) 69)) := (Below.refl _ w4).alloc (Nat.le_refl _) _
  have BL := Blk.new w4 (dmX Md dd) 69
  replace hR0 := hR0.under hb4
  have hLo : w4.heap.size ∉ m.own := fun e => by have := hR0.mem.lt _ e; omega
  replace hR0 := hR0.under hbx
  replace BG := (BG.below hb4).below hbx
  generalize hW : w4.alloc (.cells (dmX Md dd) 69) = w5 at hR0 BL BG
  replace hW := Lib.hid hW
  clear hbx hb4
  go_upto_region 6 with (refine wpList_store_row rfl 69 _ _ rfl _ _ rfl rfl 69 _ (Blk.new w4 _ _).h (by kernel_rfl) (by rfl) (by kernel_rfl) ?_; rw [World.setRow_alloc_new, hW.out])
  clear hW
  generalize w4.heap.size = Y at BL hLo ⊢
  go_wp2_with fail
  go_loopw [40] (fun i wr => ∃ (k : Nat) (M : MemV), k ≤ xs.length ∧ i = .int .i64 k ∧ MStep w wr m M k ∧ Blk wr G #[.int .i64 p.s, .int .i64 p.th, .int .u64 p.x] 79 ∧ Blk wr Y (dmX Md dd) 69) (fun i _ => xs.length - (intOf i).toNat)
  case atStart => exact ⟨0, M0, Nat.zero_le _, rfl, hR0, BG, BL⟩
  case round =>
    clear hR0 BG BL
    obtain ⟨k, M, hk, rfl, hR, BG, BL⟩ := hrel
    by_cases hlt : k < xs.length
    · have hlt' : (k : Int) < (xs.length : Int) := by omega
      obtain ⟨b, off, qa, hxa, hbl, hcs, hok⟩ := acc_cell (H.keep (Keeps.of_below hR.b)) k hlt
      obtain rfl := hxa
      have hfa := fx _ (List.getElem_mem hlt)
      generalize xs[k] = ac at hcs hok hfa
      have BX := Blk.new wr (acc26 qa ac).toArray 39
      have hbx : Below wr.heap.size wr (wr.alloc (.cells (acc26 qa ac).toArray 39)) := (Below.refl _ wr).alloc (Nat.le_refl _) _
      have hok1 := hok.keep (Keeps.of_below hbx)
      have hR1 := hR.under hbx
      have hlw := hR.mem.lt
      go_wp2_with (first
        | (refine wpList_load_mid rfl 39 _ rfl b (off + k * 26) rfl (acc26 qa ac) _ hcs Try.underlying39 rfl (by kernel_rfl) ?_)
        | (refine wpList_load_row rfl 39 _ rfl wr.heap.size rfl 39 _ (0, 0) _ BX.h Try.underlying39 rfl (by kernel_rfl) ?_)
        | (refine wpList_store_row rfl 39 _ _ rfl _ _ rfl rfl 39 _ (Blk.new wr _ _).h (by kernel_rfl) (by rfl) (by kernel_rfl) ?_; rw [World.setRow_alloc_new]))
      refine (show Calls _ _ _ _ _ from do_any ac qa _ hR1.mem (fun b hb => by have := hlw b hb; simp; omega) hok1 hfa).mono ?_
      intro e w5 hD
      obtain ⟨⟨qr, rfl, _, _⟩, _, _⟩ := id hD
      have hR2 := hR1.did (by omega) hD
      have hS3 : ∀ b ∈ [m.g, m.gb, m.gr], b ∈ m.own := by simp [MemId.own]
      have BG2 := hD.fr.blk (BG.below hbx) (fun e => hGo (hS3 _ e))
      have BL2 := hD.fr.blk (BL.below hbx) (fun e => hLo (hS3 _ e))
      clear hR hR1 hD hok hok1 hcs BX hbx BG BL hS3
      go_wp2_with fail
      go_roundw
      case rel => exact ⟨k + 1, _, by omega, by go_num, hR2, BG2, BL2⟩
      case measure => simp [intOf]; omega
    obtain rfl : k = xs.length := by omega
    clear hlt fx H
    go_upto_region 11 with (fail)
    obtain ⟨bs, hMA⟩ := hR.mem.at_
    rw [hR.sh.1, hR.sh.2.1] at hMA
    replace hA := Lib.hid hA
    replace hT := Lib.hid hT
    go_cut [15, 16] (fun v15 v16 W => ∃ t td : Nat, v15 = .pointer (some ⟨t, 0, none⟩) ∧ v16 = .pointer (some ⟨td, 0, none⟩) ∧ KIs w W m M Md dd t td p (kNew 2 p) (kNew 2 p) Hd.nil Hd.nil)
    case first =>
      refine wp_region_held_drew (S := fun w' => w'.cell? ⟨G, 0, none⟩ = some (.int .i64 p.s) ∧ w'.cell? ⟨G, 1, none⟩ = some (.int .i64 p.th) ∧ w'.cell? ⟨G, 2, none⟩ = some (.int .u64 p.x) ∧ w'.cell? ⟨Y, 0, none⟩ = some (.int .i64 Md.A) ∧ w'.cell? ⟨Y, 1, none⟩ = some (.int .i64 Md.T) ∧ w'.cell? ⟨Y, 2, none⟩ = some (.slice dd.h1.a Md.L.length dd.h1.c) ∧ w'.cell? ⟨Y, 3, none⟩ = some (.slice dd.h2.a Md.B.length dd.h2.c) ∧ w'.cell? ⟨Y, 4, none⟩ = some (.slice dd.h3.a Md.R.length dd.h3.c)) (by kernel_rfl) ?_ (fun hHeld => ?_)
      · exact ⟨BG.at 0 rfl, BG.at 1 rfl, BG.at 2 rfl, BL.at 0 rfl, BL.at 1 rfl, BL.at 2 rfl, BL.at 3 rfl, BL.at 4 rfl⟩
      have hb0 : Below wr.heap.size wr wr.drew := (Below.refl _ wr).drew
      refine wpAnyH_take (i := 0) (oi := ⟨_, _, _, _, _, _⟩) (v := ?_) rfl (by kernel_rfl) (by kernel_rfl) (by kernel_rfl) (fun _ _ _ h => h) (Or.inl ⟨by rfl, ?_⟩) (by assumption) ?_
      rotate_left
      · intro wS hSw
        try dsimp only at hSw
        go_simp
        try with_reducible rfl
      try simp only [Act.put, List.setIfInBounds_toArray, List.set_cons_zero, List.set_cons_succ]
      refine wpAnyH_take (i := 1) (oi := ⟨_, _, _, _, _, _⟩) (v := ?_) rfl (by kernel_rfl) (by kernel_rfl) (by kernel_rfl) (fun _ _ _ h => h) (Or.inl ⟨by rfl, ?_⟩) (by assumption) ?_
      rotate_left
      · intro wS hSw
        try dsimp only at hSw
        go_simp
        try with_reducible rfl
      try simp only [Act.put, List.setIfInBounds_toArray, List.set_cons_zero, List.set_cons_succ]
      refine wpAnyH_take (i := 2) (oi := ⟨_, _, _, _, _, _⟩) (v := ?_) rfl (by kernel_rfl) (by kernel_rfl) (by kernel_rfl) (fun _ _ _ h => h) (Or.inl ⟨by rfl, ?_⟩) (by assumption) ?_
      rotate_left
      · intro wS hSw
        try dsimp only at hSw
        go_simp
        try with_reducible rfl
      try simp only [Act.put, List.setIfInBounds_toArray, List.set_cons_zero, List.set_cons_succ]
      refine wpAnyH_take (i := 3) (oi := ⟨_, _, _, _, _, _⟩) (v := ?_) rfl (by kernel_rfl) (by kernel_rfl) (by kernel_rfl) (fun _ _ _ h => h) (Or.inl ⟨by rfl, ?_⟩) (by assumption) ?_
      rotate_left
      · intro wS hSw
        try dsimp only at hSw
        go_simp
        try with_reducible rfl
      try simp only [Act.put, List.setIfInBounds_toArray, List.set_cons_zero, List.set_cons_succ]
      refine wpAnyH_take (i := 5) (oi := ⟨_, _, _, _, _, _⟩) (v := ?_) rfl (by kernel_rfl) (by kernel_rfl) (by kernel_rfl) (fun _ _ _ h => h) (Or.inl ⟨by rfl, ?_⟩) (by assumption) ?_
      rotate_left
      · intro wS hSw
        try dsimp only at hSw
        go_simp
        try with_reducible rfl
      try simp only [Act.put, List.setIfInBounds_toArray, List.set_cons_zero, List.set_cons_succ]
      refine wpAnyH_take (i := 6) (oi := ⟨_, _, _, _, _, _⟩) (v := ?_) rfl (by kernel_rfl) (by kernel_rfl) (by kernel_rfl) (fun _ _ _ h => h) (Or.inl ⟨by rfl, ?_⟩) (by assumption) ?_
      rotate_left
      · intro wS hSw
        try dsimp only at hSw
        go_simp
        try with_reducible rfl
      try simp only [Act.put, List.setIfInBounds_toArray, List.set_cons_zero, List.set_cons_succ]
      refine wpAnyH_take (i := 7) (oi := ⟨_, _, _, _, _, _⟩) (v := ?_) rfl (by kernel_rfl) (by kernel_rfl) (by kernel_rfl) (fun _ _ _ h => h) (Or.inl ⟨by rfl, ?_⟩) (by assumption) ?_
      rotate_left
      · intro wS hSw
        try dsimp only at hSw
        go_simp
        try with_reducible rfl
      try simp only [Act.put, List.setIfInBounds_toArray, List.set_cons_zero, List.set_cons_succ]
      refine wpAnyH_take (i := 8) (oi := ⟨_, _, _, _, _, _⟩) (v := ?_) rfl (by kernel_rfl) (by kernel_rfl) (by kernel_rfl) (fun _ _ _ h => h) (Or.inl ⟨by rfl, ?_⟩) (by assumption) ?_
      rotate_left
      · intro wS hSw
        try dsimp only at hSw
        go_simp
        try with_reducible rfl
      try simp only [Act.put, List.setIfInBounds_toArray, List.set_cons_zero, List.set_cons_succ]
      refine wpAnyH_ready (rs := [4, 10]) (by kernel_rfl) (by simp) ?_
      refine AllReadyH.cons rfl (fun K hK => ?_) (AllReadyH.cons rfl (fun K hK => ?_) AllReadyH.nil)
      · go_simp
        refine (k_new p _ (hMA.below hb0) P).mono ?_
        rintro e W1 ⟨rfl, BT, hb1⟩
        have hbW1 := below_push2 hb0 hb1 (Nat.le_refl _)
        refine hK.out _ _ ⟨(BG.below hbW1).at 0 rfl, (BG.below hbW1).at 1 rfl, (BG.below hbW1).at 2 rfl, (BL.below hbW1).at 0 rfl, (BL.below hbW1).at 1 rfl, (BL.below hbW1).at 2 rfl, (BL.below hbW1).at 3 rfl, (BL.below hbW1).at 4 rfl⟩ (fun hHeld => ?_)
        clear hK K
        have hle : wr.heap.size ≤ wr.drew.heap.size + 1 := by simp
        have hlt1 := BT.lt
        generalize wr.drew.heap.size + 1 = t at BT hle hlt1 ⊢
        have hle' : wr.heap.size ≤ t := hle
        refine wpAnyH_ready (rs := [9, 10]) (by kernel_rfl) (by simp) ?_
        refine AllReadyH.cons rfl (fun K hK => ?_) (AllReadyH.cons rfl (fun K hK => ?_) AllReadyH.nil)
        · go_simp
          refine (show Calls _ _ _ _ _ from dk_new Md dd p _ P).mono ?_
          rintro e W2 ⟨rfl, hb2⟩
          have hbW2 := below_push2 hbW1 hb2 (Nat.le_refl _)
          rw [hT.out]
          refine hK.out _ _ ⟨(BG.below hbW2).at 0 rfl, (BG.below hbW2).at 1 rfl, (BG.below hbW2).at 2 rfl, (BL.below hbW2).at 0 rfl, (BL.below hbW2).at 1 rfl, (BL.below hbW2).at 2 rfl, (BL.below hbW2).at 3 rfl, (BL.below hbW2).at 4 rfl⟩ (fun hHeld => ?_)
          clear hK K
          have BT2 := BT.below hb2
          have hlt2 := hb2.size
          clear hb2
          refine wpAnyH_ready (rs := [10]) (by kernel_rfl) (by simp) ?_
          refine AllReadyH.cons rfl (fun K hK => ?_) AllReadyH.nil
          go_simp
          have hbx : Below W2.heap.size W2 (W2.alloc (.cells dcZ 84)) := (Below.refl _ W2).alloc (Nat.le_refl _) _
          have hbW3 := below_push2 hbW2 hbx (Nat.le_refl _)
          have BD := Blk.new W2 dcZ 84
          have BT3 := BT2.below hbx
          have hge := hbW2.size
          refine hK.out _ _ ⟨(BG.below hbW3).at 0 rfl, (BG.below hbW3).at 1 rfl, (BG.below hbW3).at 2 rfl, (BL.below hbW3).at 0 rfl, (BL.below hbW3).at 1 rfl, (BL.below hbW3).at 2 rfl, (BL.below hbW3).at 3 rfl, (BL.below hbW3).at 4 rfl⟩ (fun hHeld => ?_)
          clear hK K hbx
          have hne : t ≠ W2.heap.size := by omega
          refine wpAnyH_take (i := 11) (oi := ⟨_, _, _, _, _, _⟩) (v := ?_) rfl (by kernel_rfl) (by kernel_rfl) (by kernel_rfl) (fun _ _ _ h => h) (Or.inl ⟨by rfl, ?_⟩) (by assumption) ?_
          rotate_left
          · intro wS hSw
            try dsimp only at hSw
            go_simp
            try with_reducible rfl
          try simp only [Act.put, List.setIfInBounds_toArray, List.set_cons_zero, List.set_cons_succ]
          have hbF := below_setRow hbW3 (hge) (dcX Md dd p (kNew 2 p) Hd.nil)
          have FF := Fr.row (S := [W2.heap.size]) (w := W2.alloc (.cells dcZ 84)) (W2.heap.size) (dcX Md dd p (kNew 2 p) Hd.nil) (by simp)
          have BTF := FF.blk BT3 (by simpa using hne)
          have BDF := Blk.row BD (dcX Md dd p (kNew 2 p) Hd.nil)
          refine wpAnyH_ready (rs := [12]) (by kernel_rfl) (by simp) ?_
          refine AllReadyH.cons rfl (fun K hK => ?_) AllReadyH.nil
          rw [if_pos (by rfl)]
          refine wp_store_row 84 _ _ rfl (W2.heap.size) _ rfl rfl 84 _ (BD).h (by kernel_rfl) (by rfl) (by kernel_rfl) ?_
          refine hK.out _ _ ⟨(BG.below hbF).at 0 rfl, (BG.below hbF).at 1 rfl, (BG.below hbF).at 2 rfl, (BL.below hbF).at 0 rfl, (BL.below hbF).at 1 rfl, (BL.below hbF).at 2 rfl, (BL.below hbF).at 3 rfl, (BL.below hbF).at 4 rfl⟩ (fun hHeld => ?_)
          clear hK K
          refine wpAnyH_done (by kernel_rfl) ?_ _
          have hfin := kis_start hR hA.out hT.out hbF BTF BDF (hle') (hge) (hne)
          go_wp2_with fail
          go_meet
          exact ⟨_, _, rfl, rfl, hfin⟩
        · go_simp
          have hbx : Below W1.heap.size W1 (W1.alloc (.cells dcZ 84)) := (Below.refl _ W1).alloc (Nat.le_refl _) _
          have hbW2 := below_push2 hbW1 hbx (Nat.le_refl _)
          have BD := Blk.new W1 dcZ 84
          have BT2 := BT.below hbx
          have hge := hbW1.size
          refine hK.out _ _ ⟨(BG.below hbW2).at 0 rfl, (BG.below hbW2).at 1 rfl, (BG.below hbW2).at 2 rfl, (BL.below hbW2).at 0 rfl, (BL.below hbW2).at 1 rfl, (BL.below hbW2).at 2 rfl, (BL.below hbW2).at 3 rfl, (BL.below hbW2).at 4 rfl⟩ (fun hHeld => ?_)
          clear hK K hbx
          generalize W1.alloc (.cells dcZ 84) = W2 at hbW2 BD BT2 ⊢
          refine wpAnyH_ready (rs := [9]) (by kernel_rfl) (by simp) ?_
          refine AllReadyH.cons rfl (fun K hK => ?_) AllReadyH.nil
          go_simp
          refine (show Calls _ _ _ _ _ from dk_new Md dd p _ P).mono ?_
          rintro e W3 ⟨rfl, hb2⟩
          have hbW3 := below_push2 hbW2 hb2 (Nat.le_refl _)
          rw [hT.out]
          refine hK.out _ _ ⟨(BG.below hbW3).at 0 rfl, (BG.below hbW3).at 1 rfl, (BG.below hbW3).at 2 rfl, (BL.below hbW3).at 0 rfl, (BL.below hbW3).at 1 rfl, (BL.below hbW3).at 2 rfl, (BL.below hbW3).at 3 rfl, (BL.below hbW3).at 4 rfl⟩ (fun hHeld => ?_)
          clear hK K
          have BT3 := BT2.below hb2
          have BD3 := BD.below hb2
          clear hb2
          have hne : t ≠ W1.heap.size := by omega
          refine wpAnyH_take (i := 11) (oi := ⟨_, _, _, _, _, _⟩) (v := ?_) rfl (by kernel_rfl) (by kernel_rfl) (by kernel_rfl) (fun _ _ _ h => h) (Or.inl ⟨by rfl, ?_⟩) (by assumption) ?_
          rotate_left
          · intro wS hSw
            try dsimp only at hSw
            go_simp
            try with_reducible rfl
          try simp only [Act.put, List.setIfInBounds_toArray, List.set_cons_zero, List.set_cons_succ]
          have hbF := below_setRow hbW3 (hge) (dcX Md dd p (kNew 2 p) Hd.nil)
          have FF := Fr.row (S := [W1.heap.size]) (w := W3) (W1.heap.size) (dcX Md dd p (kNew 2 p) Hd.nil) (by simp)
          have BTF := FF.blk BT3 (by simpa using hne)
          have BDF := Blk.row BD3 (dcX Md dd p (kNew 2 p) Hd.nil)
          refine wpAnyH_ready (rs := [12]) (by kernel_rfl) (by simp) ?_
          refine AllReadyH.cons rfl (fun K hK => ?_) AllReadyH.nil
          rw [if_pos (by rfl)]
          refine wp_store_row 84 _ _ rfl (W1.heap.size) _ rfl rfl 84 _ (BD3).h (by kernel_rfl) (by rfl) (by kernel_rfl) ?_
          refine hK.out _ _ ⟨(BG.below hbF).at 0 rfl, (BG.below hbF).at 1 rfl, (BG.below hbF).at 2 rfl, (BL.below hbF).at 0 rfl, (BL.below hbF).at 1 rfl, (BL.below hbF).at 2 rfl, (BL.below hbF).at 3 rfl, (BL.below hbF).at 4 rfl⟩ (fun hHeld => ?_)
          clear hK K
          refine wpAnyH_done (by kernel_rfl) ?_ _
          have hfin := kis_start hR hA.out hT.out hbF BTF BDF (hle') (hge) (hne)
          go_wp2_with fail
          go_meet
          exact ⟨_, _, rfl, rfl, hfin⟩
      · go_simp
        have hbW1 : Below wr.heap.size wr ((wr.alloc (.cells dcZ 84)).drew) := ((Below.refl _ wr).alloc (Nat.le_refl _) _).drew
        have BD := (Blk.new wr dcZ 84).drew
        refine hK.out _ _ ⟨(BG.below hbW1).at 0 rfl, (BG.below hbW1).at 1 rfl, (BG.below hbW1).at 2 rfl, (BL.below hbW1).at 0 rfl, (BL.below hbW1).at 1 rfl, (BL.below hbW1).at 2 rfl, (BL.below hbW1).at 3 rfl, (BL.below hbW1).at 4 rfl⟩ (fun hHeld => ?_)
        clear hK K
        have hsz : wr.heap.size < ((wr.alloc (.cells dcZ 84)).drew).heap.size := BD.lt
        generalize (wr.alloc (.cells dcZ 84)).drew = W0 at hbW1 BD hsz ⊢
        refine wpAnyH_ready (rs := [4]) (by kernel_rfl) (by simp) ?_
        refine AllReadyH.cons rfl (fun K hK => ?_) AllReadyH.nil
        go_simp
        refine (k_new p _ (hMA.below hbW1) P).mono ?_
        rintro e W1 ⟨rfl, BT, hb1⟩
        have hbW2 := below_push2 hbW1 hb1 (Nat.le_refl _)
        refine hK.out _ _ ⟨(BG.below hbW2).at 0 rfl, (BG.below hbW2).at 1 rfl, (BG.below hbW2).at 2 rfl, (BL.below hbW2).at 0 rfl, (BL.below hbW2).at 1 rfl, (BL.below hbW2).at 2 rfl, (BL.below hbW2).at 3 rfl, (BL.below hbW2).at 4 rfl⟩ (fun hHeld => ?_)
        clear hK K
        have BD2 := BD.below hb1
        have hle : wr.heap.size ≤ W0.heap.size + 1 := by omega
        have hne : W0.heap.size + 1 ≠ wr.heap.size := by omega
        generalize W0.heap.size + 1 = t at BT hle hne ⊢
        refine wpAnyH_ready (rs := [9]) (by kernel_rfl) (by simp) ?_
        refine AllReadyH.cons rfl (fun K hK => ?_) AllReadyH.nil
        go_simp
        refine (show Calls _ _ _ _ _ from dk_new Md dd p _ P).mono ?_
        rintro e W3 ⟨rfl, hb2⟩
        have hbW3 := below_push2 hbW2 hb2 (Nat.le_refl _)
        rw [hT.out]
        refine hK.out _ _ ⟨(BG.below hbW3).at 0 rfl, (BG.below hbW3).at 1 rfl, (BG.below hbW3).at 2 rfl, (BL.below hbW3).at 0 rfl, (BL.below hbW3).at 1 rfl, (BL.below hbW3).at 2 rfl, (BL.below hbW3).at 3 rfl, (BL.below hbW3).at 4 rfl⟩ (fun hHeld => ?_)
        clear hK K
        have BT3 := BT.below hb2
        have BD3 := BD2.below hb2
        clear hb2 hb1
        refine wpAnyH_take (i := 11) (oi := ⟨_, _, _, _, _, _⟩) (v := ?_) rfl (by kernel_rfl) (by kernel_rfl) (by kernel_rfl) (fun _ _ _ h => h) (Or.inl ⟨by rfl, ?_⟩) (by assumption) ?_
        rotate_left
        · intro wS hSw
          try dsimp only at hSw
          go_simp
          try with_reducible rfl
        try simp only [Act.put, List.setIfInBounds_toArray, List.set_cons_zero, List.set_cons_succ]
        have hbF := below_setRow hbW3 (Nat.le_refl _) (dcX Md dd p (kNew 2 p) Hd.nil)
        have FF := Fr.row (S := [wr.heap.size]) (w := W3) (wr.heap.size) (dcX Md dd p (kNew 2 p) Hd.nil) (by simp)
        have BTF := FF.blk BT3 (by simpa using hne)
        have BDF := Blk.row BD3 (dcX Md dd p (kNew 2 p) Hd.nil)
        refine wpAnyH_ready (rs := [12]) (by kernel_rfl) (by simp) ?_
        refine AllReadyH.cons rfl (fun K hK => ?_) AllReadyH.nil
        rw [if_pos (by rfl)]
        refine wp_store_row 84 _ _ rfl (wr.heap.size) _ rfl rfl 84 _ (BD3).h (by kernel_rfl) (by rfl) (by kernel_rfl) ?_
        refine hK.out _ _ ⟨(BG.below hbF).at 0 rfl, (BG.below hbF).at 1 rfl, (BG.below hbF).at 2 rfl, (BL.below hbF).at 0 rfl, (BL.below hbF).at 1 rfl, (BL.below hbF).at 2 rfl, (BL.below hbF).at 3 rfl, (BL.below hbF).at 4 rfl⟩ (fun hHeld => ?_)
        clear hK K
        refine wpAnyH_done (by kernel_rfl) ?_ _
        have hfin := kis_start hR hA.out hT.out hbF BTF BDF (hle) (Nat.le_refl _) (hne)
        go_wp2_with fail
        go_meet
        exact ⟨_, _, rfl, rfl, hfin⟩
    case rest =>
      obtain ⟨t, td, rfl, rfl, hK0⟩ := hcut
      have hr0 : krem (kNew 2 p) ≤ 67 := krem_new p
      generalize kNew 2 p = k0 at hK0 hr0
      clear hR BG BL hMA
      go_wp2_with fail
      go_loopw [58] (fun i wr => ∃ (i' : Nat) (M : MemV) (k k' : KS) (q q' : Hd), i = .int .i64 i' ∧ i' + krem k ≤ 67 ∧ KIs w wr m M Md dd t td p k k' q q') (fun i _ => 80 - (intOf i).toNat)
      case atStart => exact ⟨0, M, k0, k0, Hd.nil, Hd.nil, rfl, by omega, hK0⟩
      case round =>
        clear hK0 hr0
        obtain ⟨i, M, k, k', q, q', rfl, hrem, hR⟩ := hrel
        have hlt' : (i : Int) < 80 := by omega
        by_cases h8 : k.at_ = 8
        · have hN := (hR.over h8).1
          go_wp2_with fail
          refine hN.mono ?_
          rintro e w6 ⟨rfl, hb6⟩
          have hbx : Below w6.heap.size w6 (w6.alloc (.cells (accY 0 0 0 0) 39)) := (Below.refl _ w6).alloc (Nat.le_refl _) _
          have BX := Blk.new w6 (accY 0 0 0 0) 39
          replace hR := (hR.under hb6).under hbx
          generalize hW : w6.alloc (.cells (accY 0 0 0 0) 39) = w7 at hR BX
          replace hW := Lib.hid hW
          clear hbx hb6 hN
          have BD := hR.doc
          go_wp2_with (first
            | (refine wpList_store_row rfl 39 _ _ rfl _ _ rfl rfl 39 _ (Blk.new w6 _ _).h (by kernel_rfl) (by rfl) (by kernel_rfl) ?_; rw [World.setRow_alloc_new, hW.out])
            | (refine wpList_load_row rfl 84 _ rfl td rfl 84 _ (0, 0) _ BD.h Try.underlying84 rfl (by kernel_rfl) ?_))
          clear BD
          have hN := (hR.over h8).2
          refine (show Calls _ _ _ _ _ from hN).mono ?_
          rintro e w8 ⟨rfl, hb8⟩
          have hbx : Below w8.heap.size w8 (w8.alloc (.cells (accY 0 0 0 0) 39)) := (Below.refl _ w8).alloc (Nat.le_refl _) _
          have BY := Blk.new w8 (accY 0 0 0 0) 39
          replace hR := (hR.under hb8).under hbx
          replace BX := (BX.below hb8).below hbx
          clear hW
          generalize hW : w8.alloc (.cells (accY 0 0 0 0) 39) = w9 at hR BX BY
          replace hW := Lib.hid hW
          clear hbx hb8 hN
          go_upto_region 17 with (refine wpList_store_row rfl 39 _ _ rfl _ _ rfl rfl 39 _ (Blk.new w8 _ _).h (by kernel_rfl) (by rfl) (by kernel_rfl) ?_; rw [World.setRow_alloc_new, hW.out])
          try simp only [Act.put]
          have hT := hR.task
          have hD := hR.doc
          have ka0 := fun dd os => cell_regrown (BX.at 0 rfl) dd os
          have ka1 := fun dd os => cell_regrown (BX.at 1 rfl) dd os
          have ka2 := fun dd os => cell_regrown (BX.at 2 rfl) dd os
          have ka3 := fun dd os => cell_regrown (BX.at 3 rfl) dd os
          have kb0 := fun dd os => cell_regrown (BY.at 0 rfl) dd os
          have kb1 := fun dd os => cell_regrown (BY.at 1 rfl) dd os
          have kb2 := fun dd os => cell_regrown (BY.at 2 rfl) dd os
          have kb3 := fun dd os => cell_regrown (BY.at 3 rfl) dd os
          have kd13 := fun dd os => cell_regrown (show w9.cell? ⟨td, 13, none⟩ = some (.bool k.tu) from by rw [← hR.same.tu]; exact hD.at 13 rfl) dd os
          have kd14 := fun dd os => cell_regrown (show w9.cell? ⟨td, 14, none⟩ = some (.bool k.en) from by rw [← hR.same.en]; exact hD.at 14 rfl) dd os
          have kU := fun dd os => Calls.regrown_of ((cTurned_any t _ _ _ _ _ _ _ _ _ _ _ (Go.Sort.grow (redrawn w9 dd) os) (hT.below (below_regrown w9 dd os))).mono fun e w' h => ⟨h.1, h.2 ▸ Below.refl _ _⟩)
          have kE := fun dd os => Calls.regrown_of ((cEnded_any t _ _ _ _ _ _ _ _ _ _ _ (Go.Sort.grow (redrawn w9 dd) os) (hT.below (below_regrown w9 dd os))).mono fun e w' h => ⟨h.1, h.2 ▸ Below.refl _ _⟩)
          refine wp_region_quiet_below (by kernel_rfl) (by kernel_rfl) ?_
          iterate 45 (go_big_quiet_step (first | exact kU _ _ | exact kE _ _))
          refine wpQuiet_nil ?_
          intro w12 hw'
          have hb12 := RefP.below_of_regrown hw'
          clear hw' ka0 ka1 ka2 ka3 kb0 kb1 kb2 kb3 kd13 kd14 kU kE hT hD hW
          replace hR := hR.under hb12
          replace BX := BX.below hb12
          clear hb12 BY
          have hRb := hR.b
          clear hR BX
          go_wp2_with fail
          refine (carLives_any _).mono ?_
          rintro e w3 ⟨rfl, hb3⟩
          go_wp2_with fail
          go_ret
          exact ⟨rfl, below_push2 hRb hb3 (Nat.le_refl _)⟩
        · have hacc : ∀ W, AccOk W [] nilH (kAcc 5 2 p k) := fun W => k_ok (by omega) (by omega) P hR.done hR.steps hR.h3
          have hfew : Few (kAcc 5 2 p k).block := k_few
          obtain ⟨ac, hac⟩ : ∃ ac, ac = kAcc 5 2 p k := ⟨_, rfl⟩
          rw [← hac] at hacc hfew
          replace hac := Lib.hid hac
          have hN := hR.next P h8
          rw [← hac.out] at hN
          go_wp2_with fail
          refine hN.mono ?_
          rintro e w6 ⟨rfl, hb6⟩
          have hbx : Below w6.heap.size w6 (w6.alloc (.cells ((acc26 nilH ac).toArray) 39)) := (Below.refl _ w6).alloc (Nat.le_refl _) _
          have BX := Blk.new w6 ((acc26 nilH ac).toArray) 39
          replace hR := (hR.under hb6).under hbx
          generalize hW : w6.alloc (.cells ((acc26 nilH ac).toArray) 39) = w7 at hR BX
          replace hW := Lib.hid hW
          clear hbx hb6 hN
          have BD := hR.doc
          go_wp2_with (first
            | (refine wpList_store_row rfl 39 _ _ rfl _ _ rfl rfl 39 _ (Blk.new w6 _ _).h (by kernel_rfl) (by rfl) (by kernel_rfl) ?_; rw [World.setRow_alloc_new, hW.out])
            | (refine wpList_load_row rfl 84 _ rfl td rfl 84 _ (0, 0) _ BD.h Try.underlying84 rfl (by kernel_rfl) ?_))
          clear BD
          have hN := hR.dnext P h8
          rw [← hac.out] at hN
          refine (show Calls _ _ _ _ _ from hN).mono ?_
          rintro e w8 ⟨rfl, hb8⟩
          have hbx : Below w8.heap.size w8 (w8.alloc (.cells ((acc26 nilH ac).toArray) 39)) := (Below.refl _ w8).alloc (Nat.le_refl _) _
          have BY := Blk.new w8 ((acc26 nilH ac).toArray) 39
          replace hR := (hR.under hb8).under hbx
          replace BX := (BX.below hb8).below hbx
          clear hW
          generalize hW : w8.alloc (.cells ((acc26 nilH ac).toArray) 39) = w9 at hR BX BY
          replace hW := Lib.hid hW
          clear hbx hb8 hN
          go_upto_region 17 with (refine wpList_store_row rfl 39 _ _ rfl _ _ rfl rfl 39 _ (Blk.new w8 _ _).h (by kernel_rfl) (by rfl) (by kernel_rfl) ?_; rw [World.setRow_alloc_new, hW.out])
          try simp only [Act.put]
          have hT := hR.task
          have hD := hR.doc
          have ka0 := fun dd os => cell_regrown (BX.at 0 rfl) dd os
          have ka1 := fun dd os => cell_regrown (BX.at 1 rfl) dd os
          have ka2 := fun dd os => cell_regrown (BX.at 2 rfl) dd os
          have ka3 := fun dd os => cell_regrown (BX.at 3 rfl) dd os
          have kb0 := fun dd os => cell_regrown (BY.at 0 rfl) dd os
          have kb1 := fun dd os => cell_regrown (BY.at 1 rfl) dd os
          have kb2 := fun dd os => cell_regrown (BY.at 2 rfl) dd os
          have kb3 := fun dd os => cell_regrown (BY.at 3 rfl) dd os
          have kd13 := fun dd os => cell_regrown (show w9.cell? ⟨td, 13, none⟩ = some (.bool k.tu) from by rw [← hR.same.tu]; exact hD.at 13 rfl) dd os
          have kd14 := fun dd os => cell_regrown (show w9.cell? ⟨td, 14, none⟩ = some (.bool k.en) from by rw [← hR.same.en]; exact hD.at 14 rfl) dd os
          have kU := fun dd os => Calls.regrown_of ((cTurned_any t _ _ _ _ _ _ _ _ _ _ _ (Go.Sort.grow (redrawn w9 dd) os) (hT.below (below_regrown w9 dd os))).mono fun e w' h => ⟨h.1, h.2 ▸ Below.refl _ _⟩)
          have kE := fun dd os => Calls.regrown_of ((cEnded_any t _ _ _ _ _ _ _ _ _ _ _ (Go.Sort.grow (redrawn w9 dd) os) (hT.below (below_regrown w9 dd os))).mono fun e w' h => ⟨h.1, h.2 ▸ Below.refl _ _⟩)
          refine wp_region_quiet_below (by kernel_rfl) (by kernel_rfl) ?_
          iterate 45 (go_big_quiet_step (first | exact kU _ _ | exact kE _ _))
          refine wpQuiet_nil ?_
          intro w12 hw'
          have hb12 := RefP.below_of_regrown hw'
          clear hw' ka0 ka1 ka2 ka3 kb0 kb1 kb2 kb3 kd13 kd14 kU kE hT hD hW
          replace hR := hR.under hb12
          replace BX := BX.below hb12
          clear hb12 BY
          go_upto_region 21 with (fail)
          try simp only [Act.put]
          go_wp2_with (refine wpList_load_row rfl 39 _ rfl w6.heap.size rfl 39 _ (0, 0) _ BX.h Try.underlying39 rfl (by kernel_rfl) ?_)
          refine (show Calls _ _ _ _ _ from do_any ac nilH _ hR.mem hR.lt (hacc _) hfew).mono ?_
          intro e w13 hD
          have hlw := hR.lt
          obtain ⟨⟨qr, rfl, hrep, hz⟩, _, _⟩ := id hD
          replace hrep := hrep.more (S' := t :: td :: m.own) (fun b hb => .inl (by simpa using hlw b hb))
          replace hR := hR.did hD
          have hlt13 : t < w13.heap.size ∧ td < w13.heap.size := ⟨hR.task.lt, hR.doc.lt⟩
          clear hD BX hlw hacc hfew hz hac
          generalize doV M ac = M' at hR
          generalize repV M ac = r at hrep ⊢
          have hbx : Below w13.heap.size w13 (w13.alloc (.cells (repA qr r) 50)) := (Below.refl _ w13).alloc (Nat.le_refl _) _
          have BQ := Blk.new w13 (repA qr r) 50
          replace hR := hR.under hbx
          replace hrep := hrep.keep (Keeps.of_below hbx)
          generalize hW : w13.alloc (.cells (repA qr r) 50) = w14 at hR BQ hrep
          replace hW := Lib.hid hW
          clear hbx
          go_upto_region 22 with (refine wpList_store_row rfl 50 _ _ rfl _ _ rfl rfl 50 _ (Blk.new w13 _ _).h (by kernel_rfl) (by rfl) (by kernel_rfl) ?_; rw [World.setRow_alloc_new, hW.out])
          try simp only [Act.put]
          clear hW
          have c17 : w14.cell? ⟨w13.heap.size, 17, none⟩ = some (.slice qr.plan.steps.a r.block.plan.steps.length qr.plan.steps.c) := BQ.at 17 rfl
          by_cases h60 : 60 < r.block.plan.steps.length
          · have q60 : decide (60 < (r.block.plan.steps.length : Int)) = true := by simp; omega
            have q61 : (60 : Int) < (r.block.plan.steps.length : Int) := by omega
            have hRb := hR.b
            clear hR hrep BQ h60
            go_wp2_with fail
            refine (carLives_any _).mono ?_
            rintro e w3 ⟨rfl, hb3⟩
            go_wp2_with fail
            go_ret
            exact ⟨rfl, below_push2 hRb hb3 (Nat.le_refl _)⟩
          have q60 : decide (60 < (r.block.plan.steps.length : Int)) = false := by simp; omega
          have q61 : (r.block.plan.steps.length : Int) ≤ 60 := by omega
          have hrm := k_rem p k r hR.rng.1 (by have := hR.rng; omega) hR.h3 (by omega)
          clear h60
          have hqt : w13.heap.size ≠ t ∧ w13.heap.size ≠ td := by omega
          go_wp2_with (refine wpList_load_row rfl 50 _ rfl w13.heap.size rfl 50 _ (0, 0) _ BQ.h Try.underlying50 rfl (by kernel_rfl) ?_)
          refine (show Calls _ _ _ _ _ from hR.tell h8 BQ hqt.1 hrep).mono ?_
          intro e w15 hT
          obtain ⟨rfl, hb15, hm15, BD15, HD15, ⟨q2, BT15, HT15⟩, BQ15, hrep15⟩ := hT
          have hv := hrep15.ver
          have hdt := dk_tell (S := t :: td :: m.own) Md dd p k' q' qr r w15 HD15 hrep15 (by rw [hR.same.at_]; exact hR.rng.1) (by rw [hR.same.at_]; have := hR.rng; omega) (by rw [hR.same.at_, hR.same.steps h8]; exact hR.h3)
          clear c17 q60 q61 hrep15 hrep BQ
          go_wp2_with (first
            | (refine wpList_load_row rfl 84 _ rfl td rfl 84 _ (0, 0) _ BD15.h Try.underlying84 rfl (by kernel_rfl) ?_)
            | (refine wpList_load_row rfl 50 _ rfl w13.heap.size rfl 50 _ (0, 0) _ BQ15.h Try.underlying50 rfl (by kernel_rfl) ?_))
          refine (show Calls _ _ _ _ _ from hdt).mono ?_
          rintro e w16 ⟨q3, rfl, HD16, hb16⟩
          have hRn := hR.told h8 hv hb15 hm15 BT15 HT15 BD15 HD16 hb16
          have BD16 := BD15.below hb16
          clear hR hdt hb15 hm15 BD15 HD15 BT15 HT15 BQ15 HD16 hb16 hqt hv
          generalize hW : w16.setRow td (dcX Md dd p (dkTell p k' r) q3) = w17 at hRn
          replace hW := Lib.hid hW
          go_wp2_with (refine wpList_store_row rfl 84 _ _ rfl td _ rfl rfl 84 _ BD16.h (by kernel_rfl) (by rfl) (by kernel_rfl) ?_; rw [hW.out])
          clear hW BD16
          generalize kTell p k r = kn at hRn hrm
          generalize dkTell p k' r = kn' at hRn
          go_loopw [137] (fun j wr => ∃ (j' : Nat) (M : MemV), j' ≤ ys.length ∧ j = .int .i64 j' ∧ KIs w wr m M Md dd t td p kn kn' q2 q3) (fun j _ => ys.length - (intOf j).toNat)
          case atStart => exact ⟨0, M', Nat.zero_le _, rfl, hRn⟩
          case round =>
            clear hRn
            obtain ⟨k, M1, hk, rfl, hR⟩ := hrel
            by_cases hlt : k < ys.length
            · have hlt' : (k : Int) < (ys.length : Int) := by omega
              obtain ⟨b, off, qa, hxa, hbl, hcs, hok⟩ := acc_cell (H'.keep (Keeps.of_below hR.b)) k hlt
              obtain rfl := hxa
              have hfa := fy _ (List.getElem_mem hlt)
              generalize ys[k] = ac at hcs hok hfa
              have BX := Blk.new wr (acc26 qa ac).toArray 39
              have hbx : Below wr.heap.size wr (wr.alloc (.cells (acc26 qa ac).toArray 39)) := (Below.refl _ wr).alloc (Nat.le_refl _) _
              have hok1 := hok.keep (Keeps.of_below hbx)
              have hR1 := hR.under hbx
              have hlw := hR.mem.lt
              by_cases hc : k % 8 = i
              · have q0 : (k : Int).tmod 8 = (k : Int) % 8 := Int.tmod_eq_emod_of_nonneg (by omega)
                have q1 : ((k : Int).tmod 8 == (i : Int)) = true := by rw [q0]; simp; omega
                have q2 : ((k : Int) % 8 == (i : Int)) = true := by simp; omega
                have q3 : decide ((k : Int) % 8 = (i : Int)) = true := by simp; omega
                clear hc hok
                go_wp2_with (first
                  | (refine wpList_load_mid rfl 39 _ rfl b (off + k * 26) rfl (acc26 qa ac) _ hcs Try.underlying39 rfl (by kernel_rfl) ?_)
                  | (refine wpList_load_row rfl 39 _ rfl wr.heap.size rfl 39 _ (0, 0) _ BX.h Try.underlying39 rfl (by kernel_rfl) ?_)
                  | (refine wpList_store_row rfl 39 _ _ rfl _ _ rfl rfl 39 _ (Blk.new wr _ _).h (by kernel_rfl) (by rfl) (by kernel_rfl) ?_; rw [World.setRow_alloc_new]))
                refine (show Calls _ _ _ _ _ from do_any ac qa _ hR1.mem hR1.lt hok1 hfa).mono ?_
                intro e w5 hD
                obtain ⟨⟨qr, rfl, _, _⟩, _, _⟩ := id hD
                have hR2 := hR1.did hD
                clear hR hR1 hD hok1 hcs BX hbx q0 q1 q2 q3
                go_wp2_with fail
                go_roundw
                case rel => exact ⟨k + 1, _, by omega, by go_num, hR2⟩
                case measure => simp [intOf]; omega
              · have q0 : (k : Int).tmod 8 = (k : Int) % 8 := Int.tmod_eq_emod_of_nonneg (by omega)
                have q1 : ((k : Int).tmod 8 == (i : Int)) = false := by rw [q0]; simp; omega
                have q2 : ((k : Int) % 8 == (i : Int)) = false := by simp; omega
                have q3 : decide ((k : Int) % 8 = (i : Int)) = false := by simp; omega
                clear hc hok hok1 hR
                go_wp2_with (first
                  | (refine wpList_load_mid rfl 39 _ rfl b (off + k * 26) rfl (acc26 qa ac) _ hcs Try.underlying39 rfl (by kernel_rfl) ?_)
                  | (refine wpList_store_row rfl 39 _ _ rfl _ _ rfl rfl 39 _ (Blk.new wr _ _).h (by kernel_rfl) (by rfl) (by kernel_rfl) ?_; rw [World.setRow_alloc_new]))
                clear q0 q1 q2 q3
                go_roundw
                case rel => exact ⟨k + 1, _, by omega, by go_num, hR1⟩
                case measure => simp [intOf]; omega
            obtain rfl : k = ys.length := by omega
            go_wp2_with fail
            go_roundw
            case rel => exact ⟨i + 1, M1, kn, kn', _, _, by go_num, by omega, hR⟩
            case measure => simp [intOf]; omega
end Go.Proofs.Ytpempcefgfmniaa.carryGoes
