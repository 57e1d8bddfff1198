/-
  carry.New on a memory: contract.
-/
import Derived.Test.YtpempcefgfmniaaRows
import Derived.WalkLawsBesides
import Derived.WalkSpells
import Derived.Outline
import Derived.BigQuiet
import Derived.LoopTactic
import Derived.Lib.MinMax
import Derived.Lib.QuietBelow
import Derived.Deep.RegionLaw
import Derived.Deep.MidRow
import Derived.StillTailTactics
import Derived.Deep.DeepCutAuto
import Derived.Laws.OwnMore
import Derived.Laws.MakeOwn
import Derived.Deep.RegionHeld
import Derived.Laws.IdiomCopy
import Derived.Test.YtpempcefgfmniaaCarryOncePack5

namespace Go.Proofs.Ytpempcefgfmniaa.MemP
open Go.RowKit RefP CellP Dp
set_option linter.unusedVariables false
set_option linter.unusedSimpArgs false
/-- where a new task is -/
def kNewAt (T : Nat) (p : KP) : Int := if gateB p.s p.th p.x = true ∧ 2 ≤ p.s ∧ 0 ≤ p.hp ∧ p.hp < (T : Int) ∧ p.th < (T : Int) then (if p.s = 3 then 4 else 0) else 8
def kNew (T : Nat) (p : KP) : KS := ⟨kNewAt T p, [], 0, false, false⟩
theorem shut_ne {s t x : Int} (h : gateB s t x = true) (hx : 0 ≤ x) : (shutI s t x == 18446744073709551615) = false := by
  obtain ⟨h1, h2, h3⟩ := gateB_yes h
  have h4 := gateB_bounds h hx
  rw [shutI_yes h]
  rcases h3 with ⟨rfl, rfl, rfl⟩ | ⟨hs, rfl⟩ | ⟨rfl, _⟩
  · rfl
  · simp; omega
  · simp; omega
set_option maxRecDepth 100000 in
set_option maxHeartbeats 3200000 in
theorem k_new {o oc g gb gr A T : Nat} {L : List (Int × Int)} {bs rs : List (List Value)} (p : KP) (w : World) (h : MemAt w o oc g gb gr A T L bs rs) (P : KPok p) :
    Calls Try.prog 34 #[.pointer (some ⟨o, 0, none⟩), .int .i64 p.hp, .agg #[.int .i64 p.s, .int .i64 p.th, .int .u64 p.x], .int .u64 p.ver] w fun e w' => e = .returned (.pointer (some ⟨w.heap.size + 1, 0, none⟩)) ∧ Blk w' (w.heap.size + 1) (carX o p (kNew T p) Hd.nil) 100 ∧ Below w.heap.size w w' := by
  obtain ⟨hp, s, t, x, ver⟩ := p
  obtain ⟨s0, s1⟩ := P.s
  obtain ⟨t0, t1⟩ := P.th
  obtain ⟨x0, x1⟩ := P.x
  simp only at s0 s1 t0 t1 x0 x1 ⊢
  clear P
  obtain ⟨at_, hK⟩ : ∃ a, a = kNewAt T ⟨hp, s, t, x, ver⟩ := ⟨_, rfl⟩
  have hk : kNew T ⟨hp, s, t, x, ver⟩ = ⟨at_, [], 0, false, false⟩ := by rw [hK]; rfl
  rw [hk]
  clear hk
  simp only [kNewAt] at hK
  cases hg : gateB s t x
  · have q1 : (shutI s t x == 18446744073709551615) = true := by rw [shutI_no hg]; rfl
    have hK : Hid (at_ = 8) := by rw [hK, if_neg (by rw [hg]; simp)]; exact rfl
    clear hg
    have hb2 : Below w.heap.size w ((w.alloc (.cells #[.int .i64 s, .int .i64 t, .int .u64 x] 82)).alloc (.cells (carA (some ⟨o, 0, none⟩) hp s t x ver 0 (.slice none 0 0) 0 false false) 100)) := by (repeat (first | exact Below.refl _ _ | assumption | refine below_alloc2 ?_ (by first | exact Nat.le_refl _ | omega) _ | refine Below.drew ?_ | refine below_drewN ?_ _ | refine below_push2 ?_ ‹_› (by first | exact Nat.le_refl _ | omega) | refine Below.setCell ?_ (by first | (simp; done) | (simp; omega) | omega) _))
    have BG := (Blk.new w #[.int .i64 s, .int .i64 t, .int .u64 x] 82).alloc (.cells (carA (some ⟨o, 0, none⟩) hp s t x ver 0 (.slice none 0 0) 0 false false) 100)
    have BT : Blk ((w.alloc (.cells #[.int .i64 s, .int .i64 t, .int .u64 x] 82)).alloc (.cells (carA (some ⟨o, 0, none⟩) hp s t x ver 0 (.slice none 0 0) 0 false false) 100)) (w.heap.size + 1) (carA (some ⟨o, 0, none⟩) hp s t x ver 0 (.slice none 0 0) 0 false false) 100 := by
      have := Blk.new (w.alloc (.cells #[.int .i64 s, .int .i64 t, .int .u64 x] 82)) (carA (some ⟨o, 0, none⟩) hp s t x ver 0 (.slice none 0 0) 0 false false) 100
      simpa using this
    have hs := shut_any s t x
    have hM := h.below hb2
    go_enter Try.func34, Try.ntmps34
    go_wp2_with fail
    generalize hW : ((w.alloc (.cells #[.int .i64 s, .int .i64 t, .int .u64 x] 82)).alloc (.cells (carA (some ⟨o, 0, none⟩) hp s t x ver 0 (.slice none 0 0) 0 false false) 100)) = w0 at hb2 BG BT hM ⊢
    refine (hs _ s0 s1 t0 t1 x0 x1).mono ?_
    rintro e w1 ⟨rfl, hb1⟩
    have hB1 := below_push2 hb2 hb1 (Nat.le_refl _)
    replace BG := BG.below hb1
    replace BT := BT.below hb1
    replace hM := hM.below hb1
    clear hW hb2 hb1 hs
    have g0 : w1.cell? ⟨w.heap.size, 0, none⟩ = some (.int .i64 s) := BG.at 0 rfl
    have g1 : w1.cell? ⟨w.heap.size, 1, none⟩ = some (.int .i64 t) := BG.at 1 rfl
    have f6 := BT.free 6
    have c6 : w1.cell? ⟨w.heap.size + 1, 6, none⟩ = some (.int .i64 0) := BT.at 6 rfl
    go_wp2_with fail
    go_ret
    refine ⟨rfl, ?_, hB1.setCell (by simp) _⟩
    rw [hK.out]
    exact (show Blk _ _ (carA (some ⟨o, 0, none⟩) hp s t x ver 8 (.slice none 0 0) 0 false false) _ by simpa [carA] using BT.set 6 (.int .i64 8))
  · have q1 := shut_ne hg x0
    have hbd := gateB_bounds hg x0
    by_cases h2 : s < 2
    · have q2 : decide (s < 2) = true := by simpa using h2
      have hK : Hid (at_ = 8) := by rw [hK, if_neg (by omega)]; exact rfl
      clear h2 hbd hg
      have hb2 : Below w.heap.size w ((w.alloc (.cells #[.int .i64 s, .int .i64 t, .int .u64 x] 82)).alloc (.cells (carA (some ⟨o, 0, none⟩) hp s t x ver 0 (.slice none 0 0) 0 false false) 100)) := by (repeat (first | exact Below.refl _ _ | assumption | refine below_alloc2 ?_ (by first | exact Nat.le_refl _ | omega) _ | refine Below.drew ?_ | refine below_drewN ?_ _ | refine below_push2 ?_ ‹_› (by first | exact Nat.le_refl _ | omega) | refine Below.setCell ?_ (by first | (simp; done) | (simp; omega) | omega) _))
      have BG := (Blk.new w #[.int .i64 s, .int .i64 t, .int .u64 x] 82).alloc (.cells (carA (some ⟨o, 0, none⟩) hp s t x ver 0 (.slice none 0 0) 0 false false) 100)
      have BT : Blk ((w.alloc (.cells #[.int .i64 s, .int .i64 t, .int .u64 x] 82)).alloc (.cells (carA (some ⟨o, 0, none⟩) hp s t x ver 0 (.slice none 0 0) 0 false false) 100)) (w.heap.size + 1) (carA (some ⟨o, 0, none⟩) hp s t x ver 0 (.slice none 0 0) 0 false false) 100 := by
        have := Blk.new (w.alloc (.cells #[.int .i64 s, .int .i64 t, .int .u64 x] 82)) (carA (some ⟨o, 0, none⟩) hp s t x ver 0 (.slice none 0 0) 0 false false) 100
        simpa using this
      have hs := shut_any s t x
      have hM := h.below hb2
      go_enter Try.func34, Try.ntmps34
      go_wp2_with fail
      generalize hW : ((w.alloc (.cells #[.int .i64 s, .int .i64 t, .int .u64 x] 82)).alloc (.cells (carA (some ⟨o, 0, none⟩) hp s t x ver 0 (.slice none 0 0) 0 false false) 100)) = w0 at hb2 BG BT hM ⊢
      refine (hs _ s0 s1 t0 t1 x0 x1).mono ?_
      rintro e w1 ⟨rfl, hb1⟩
      have hB1 := below_push2 hb2 hb1 (Nat.le_refl _)
      replace BG := BG.below hb1
      replace BT := BT.below hb1
      replace hM := hM.below hb1
      clear hW hb2 hb1 hs
      have g0 : w1.cell? ⟨w.heap.size, 0, none⟩ = some (.int .i64 s) := BG.at 0 rfl
      have g1 : w1.cell? ⟨w.heap.size, 1, none⟩ = some (.int .i64 t) := BG.at 1 rfl
      have f6 := BT.free 6
      have c6 : w1.cell? ⟨w.heap.size + 1, 6, none⟩ = some (.int .i64 0) := BT.at 6 rfl
      go_wp2_with fail
      go_ret
      refine ⟨rfl, ?_, hB1.setCell (by simp) _⟩
      rw [hK.out]
      exact (show Blk _ _ (carA (some ⟨o, 0, none⟩) hp s t x ver 8 (.slice none 0 0) 0 false false) _ by simpa [carA] using BT.set 6 (.int .i64 8))
    · have q2 : decide (s < 2) = false := by simpa using h2
      by_cases h3 : 0 ≤ hp ∧ hp < (T : Int)
      · have e1 : hazI A T hp 0 = 2 * A + 3 * T + 2 * hp := by
          unfold hazI
          rw [if_pos (by omega)]; omega
        have q3 : decide (2 * (A : Int) + 3 * T + 2 * hp < 0) = false := by simp; omega
        replace e1 := Lib.hid e1
        by_cases h4 : t < (T : Int)
        · have e2 : atI A T 3 t = 2 * A + T + t := by rw [atI_yes (by omega) (by simp [sizeI]; omega)]; simp [fromI]
          have q4 : decide (2 * (A : Int) + T + t < 0) = false := by simp; omega
          replace e2 := Lib.hid e2
          by_cases h5 : s = 3
          · have q5 : (s == 3) = true := by simpa using h5
            have hK : Hid (at_ = 4) := by rw [hK, if_pos ⟨hg, by omega, by omega, by omega, by omega⟩, if_pos h5]; exact rfl
            clear h2 hbd hg h3 h4 h5
            have hb2 : Below w.heap.size w ((w.alloc (.cells #[.int .i64 s, .int .i64 t, .int .u64 x] 82)).alloc (.cells (carA (some ⟨o, 0, none⟩) hp s t x ver 0 (.slice none 0 0) 0 false false) 100)) := by (repeat (first | exact Below.refl _ _ | assumption | refine below_alloc2 ?_ (by first | exact Nat.le_refl _ | omega) _ | refine Below.drew ?_ | refine below_drewN ?_ _ | refine below_push2 ?_ ‹_› (by first | exact Nat.le_refl _ | omega) | refine Below.setCell ?_ (by first | (simp; done) | (simp; omega) | omega) _))
            have BG := (Blk.new w #[.int .i64 s, .int .i64 t, .int .u64 x] 82).alloc (.cells (carA (some ⟨o, 0, none⟩) hp s t x ver 0 (.slice none 0 0) 0 false false) 100)
            have BT : Blk ((w.alloc (.cells #[.int .i64 s, .int .i64 t, .int .u64 x] 82)).alloc (.cells (carA (some ⟨o, 0, none⟩) hp s t x ver 0 (.slice none 0 0) 0 false false) 100)) (w.heap.size + 1) (carA (some ⟨o, 0, none⟩) hp s t x ver 0 (.slice none 0 0) 0 false false) 100 := by
              have := Blk.new (w.alloc (.cells #[.int .i64 s, .int .i64 t, .int .u64 x] 82)) (carA (some ⟨o, 0, none⟩) hp s t x ver 0 (.slice none 0 0) 0 false false) 100
              simpa using this
            have hs := shut_any s t x
            have hM := h.below hb2
            go_enter Try.func34, Try.ntmps34
            go_wp2_with fail
            generalize hW : ((w.alloc (.cells #[.int .i64 s, .int .i64 t, .int .u64 x] 82)).alloc (.cells (carA (some ⟨o, 0, none⟩) hp s t x ver 0 (.slice none 0 0) 0 false false) 100)) = w0 at hb2 BG BT hM ⊢
            refine (hs _ s0 s1 t0 t1 x0 x1).mono ?_
            rintro e w1 ⟨rfl, hb1⟩
            have hB1 := below_push2 hb2 hb1 (Nat.le_refl _)
            replace BG := BG.below hb1
            replace BT := BT.below hb1
            replace hM := hM.below hb1
            clear hW hb2 hb1 hs
            have g0 : w1.cell? ⟨w.heap.size, 0, none⟩ = some (.int .i64 s) := BG.at 0 rfl
            have g1 : w1.cell? ⟨w.heap.size, 1, none⟩ = some (.int .i64 t) := BG.at 1 rfl
            have f6 := BT.free 6
            have c6 : w1.cell? ⟨w.heap.size + 1, 6, none⟩ = some (.int .i64 0) := BT.at 6 rfl
            go_wp2_with fail
            refine (haz_any hp 0 _ hM).mono ?_
            rw [e1.out]
            rintro e w2 ⟨rfl, hb2⟩
            replace hB1 := below_push2 hB1 hb2 (Nat.le_refl _)
            replace BG := BG.below hb2
            replace BT := BT.below hb2
            replace hM := hM.below hb2
            clear hb2 g0 g1 f6 c6
            have g0 : w2.cell? ⟨w.heap.size, 0, none⟩ = some (.int .i64 s) := BG.at 0 rfl
            have g1 : w2.cell? ⟨w.heap.size, 1, none⟩ = some (.int .i64 t) := BG.at 1 rfl
            have f6 := BT.free 6
            have c6 : w2.cell? ⟨w.heap.size + 1, 6, none⟩ = some (.int .i64 0) := BT.at 6 rfl
            go_wp2_with fail
            refine (done_any t _ hM t0 t1).mono ?_
            rw [e2.out]
            rintro e w3 ⟨rfl, hb3⟩
            replace hB1 := below_push2 hB1 hb3 (Nat.le_refl _)
            replace BG := BG.below hb3
            replace BT := BT.below hb3
            clear hb3 g0 g1 f6 c6
            have g0 : w3.cell? ⟨w.heap.size, 0, none⟩ = some (.int .i64 s) := BG.at 0 rfl
            have g1 : w3.cell? ⟨w.heap.size, 1, none⟩ = some (.int .i64 t) := BG.at 1 rfl
            have f6 := BT.free 6
            have c6 : w3.cell? ⟨w.heap.size + 1, 6, none⟩ = some (.int .i64 0) := BT.at 6 rfl
            go_wp2_with fail
            go_ret
            refine ⟨rfl, ?_, hB1.setCell (by simp) _⟩
            rw [hK.out]
            exact (show Blk _ _ (carA (some ⟨o, 0, none⟩) hp s t x ver 4 (.slice none 0 0) 0 false false) _ by simpa [carA] using BT.set 6 (.int .i64 4))
          · have q5 : (s == 3) = false := by simpa using h5
            have hK : Hid (at_ = 0) := by rw [hK, if_pos ⟨hg, by omega, by omega, by omega, by omega⟩, if_neg h5]; exact rfl
            clear h2 hbd hg h3 h4 h5
            have hb2 : Below w.heap.size w ((w.alloc (.cells #[.int .i64 s, .int .i64 t, .int .u64 x] 82)).alloc (.cells (carA (some ⟨o, 0, none⟩) hp s t x ver 0 (.slice none 0 0) 0 false false) 100)) := by (repeat (first | exact Below.refl _ _ | assumption | refine below_alloc2 ?_ (by first | exact Nat.le_refl _ | omega) _ | refine Below.drew ?_ | refine below_drewN ?_ _ | refine below_push2 ?_ ‹_› (by first | exact Nat.le_refl _ | omega) | refine Below.setCell ?_ (by first | (simp; done) | (simp; omega) | omega) _))
            have BG := (Blk.new w #[.int .i64 s, .int .i64 t, .int .u64 x] 82).alloc (.cells (carA (some ⟨o, 0, none⟩) hp s t x ver 0 (.slice none 0 0) 0 false false) 100)
            have BT : Blk ((w.alloc (.cells #[.int .i64 s, .int .i64 t, .int .u64 x] 82)).alloc (.cells (carA (some ⟨o, 0, none⟩) hp s t x ver 0 (.slice none 0 0) 0 false false) 100)) (w.heap.size + 1) (carA (some ⟨o, 0, none⟩) hp s t x ver 0 (.slice none 0 0) 0 false false) 100 := by
              have := Blk.new (w.alloc (.cells #[.int .i64 s, .int .i64 t, .int .u64 x] 82)) (carA (some ⟨o, 0, none⟩) hp s t x ver 0 (.slice none 0 0) 0 false false) 100
              simpa using this
            have hs := shut_any s t x
            have hM := h.below hb2
            go_enter Try.func34, Try.ntmps34
            go_wp2_with fail
            generalize hW : ((w.alloc (.cells #[.int .i64 s, .int .i64 t, .int .u64 x] 82)).alloc (.cells (carA (some ⟨o, 0, none⟩) hp s t x ver 0 (.slice none 0 0) 0 false false) 100)) = w0 at hb2 BG BT hM ⊢
            refine (hs _ s0 s1 t0 t1 x0 x1).mono ?_
            rintro e w1 ⟨rfl, hb1⟩
            have hB1 := below_push2 hb2 hb1 (Nat.le_refl _)
            replace BG := BG.below hb1
            replace BT := BT.below hb1
            replace hM := hM.below hb1
            clear hW hb2 hb1 hs
            have g0 : w1.cell? ⟨w.heap.size, 0, none⟩ = some (.int .i64 s) := BG.at 0 rfl
            have g1 : w1.cell? ⟨w.heap.size, 1, none⟩ = some (.int .i64 t) := BG.at 1 rfl
            have f6 := BT.free 6
            have c6 : w1.cell? ⟨w.heap.size + 1, 6, none⟩ = some (.int .i64 0) := BT.at 6 rfl
            go_wp2_with fail
            refine (haz_any hp 0 _ hM).mono ?_
            rw [e1.out]
            rintro e w2 ⟨rfl, hb2⟩
            replace hB1 := below_push2 hB1 hb2 (Nat.le_refl _)
            replace BG := BG.below hb2
            replace BT := BT.below hb2
            replace hM := hM.below hb2
            clear hb2 g0 g1 f6 c6
            have g0 : w2.cell? ⟨w.heap.size, 0, none⟩ = some (.int .i64 s) := BG.at 0 rfl
            have g1 : w2.cell? ⟨w.heap.size, 1, none⟩ = some (.int .i64 t) := BG.at 1 rfl
            have f6 := BT.free 6
            have c6 : w2.cell? ⟨w.heap.size + 1, 6, none⟩ = some (.int .i64 0) := BT.at 6 rfl
            go_wp2_with fail
            refine (done_any t _ hM t0 t1).mono ?_
            rw [e2.out]
            rintro e w3 ⟨rfl, hb3⟩
            replace hB1 := below_push2 hB1 hb3 (Nat.le_refl _)
            replace BG := BG.below hb3
            replace BT := BT.below hb3
            clear hb3 g0 g1 f6 c6
            have g0 : w3.cell? ⟨w.heap.size, 0, none⟩ = some (.int .i64 s) := BG.at 0 rfl
            have g1 : w3.cell? ⟨w.heap.size, 1, none⟩ = some (.int .i64 t) := BG.at 1 rfl
            have f6 := BT.free 6
            have c6 : w3.cell? ⟨w.heap.size + 1, 6, none⟩ = some (.int .i64 0) := BT.at 6 rfl
            go_wp2_with fail
            go_ret
            refine ⟨rfl, ?_, hB1⟩
            rw [hK.out]
            exact BT
        · have e2 : atI A T 3 t = -1 := atI_no (by simp [sizeI]; omega)
          replace e2 := Lib.hid e2
          have hK : Hid (at_ = 8) := by rw [hK, if_neg (by omega)]; exact rfl
          clear h2 hbd hg h3 h4
          have hb2 : Below w.heap.size w ((w.alloc (.cells #[.int .i64 s, .int .i64 t, .int .u64 x] 82)).alloc (.cells (carA (some ⟨o, 0, none⟩) hp s t x ver 0 (.slice none 0 0) 0 false false) 100)) := by (repeat (first | exact Below.refl _ _ | assumption | refine below_alloc2 ?_ (by first | exact Nat.le_refl _ | omega) _ | refine Below.drew ?_ | refine below_drewN ?_ _ | refine below_push2 ?_ ‹_› (by first | exact Nat.le_refl _ | omega) | refine Below.setCell ?_ (by first | (simp; done) | (simp; omega) | omega) _))
          have BG := (Blk.new w #[.int .i64 s, .int .i64 t, .int .u64 x] 82).alloc (.cells (carA (some ⟨o, 0, none⟩) hp s t x ver 0 (.slice none 0 0) 0 false false) 100)
          have BT : Blk ((w.alloc (.cells #[.int .i64 s, .int .i64 t, .int .u64 x] 82)).alloc (.cells (carA (some ⟨o, 0, none⟩) hp s t x ver 0 (.slice none 0 0) 0 false false) 100)) (w.heap.size + 1) (carA (some ⟨o, 0, none⟩) hp s t x ver 0 (.slice none 0 0) 0 false false) 100 := by
            have := Blk.new (w.alloc (.cells #[.int .i64 s, .int .i64 t, .int .u64 x] 82)) (carA (some ⟨o, 0, none⟩) hp s t x ver 0 (.slice none 0 0) 0 false false) 100
            simpa using this
          have hs := shut_any s t x
          have hM := h.below hb2
          go_enter Try.func34, Try.ntmps34
          go_wp2_with fail
          generalize hW : ((w.alloc (.cells #[.int .i64 s, .int .i64 t, .int .u64 x] 82)).alloc (.cells (carA (some ⟨o, 0, none⟩) hp s t x ver 0 (.slice none 0 0) 0 false false) 100)) = w0 at hb2 BG BT hM ⊢
          refine (hs _ s0 s1 t0 t1 x0 x1).mono ?_
          rintro e w1 ⟨rfl, hb1⟩
          have hB1 := below_push2 hb2 hb1 (Nat.le_refl _)
          replace BG := BG.below hb1
          replace BT := BT.below hb1
          replace hM := hM.below hb1
          clear hW hb2 hb1 hs
          have g0 : w1.cell? ⟨w.heap.size, 0, none⟩ = some (.int .i64 s) := BG.at 0 rfl
          have g1 : w1.cell? ⟨w.heap.size, 1, none⟩ = some (.int .i64 t) := BG.at 1 rfl
          have f6 := BT.free 6
          have c6 : w1.cell? ⟨w.heap.size + 1, 6, none⟩ = some (.int .i64 0) := BT.at 6 rfl
          go_wp2_with fail
          refine (haz_any hp 0 _ hM).mono ?_
          rw [e1.out]
          rintro e w2 ⟨rfl, hb2⟩
          replace hB1 := below_push2 hB1 hb2 (Nat.le_refl _)
          replace BG := BG.below hb2
          replace BT := BT.below hb2
          replace hM := hM.below hb2
          clear hb2 g0 g1 f6 c6
          have g0 : w2.cell? ⟨w.heap.size, 0, none⟩ = some (.int .i64 s) := BG.at 0 rfl
          have g1 : w2.cell? ⟨w.heap.size, 1, none⟩ = some (.int .i64 t) := BG.at 1 rfl
          have f6 := BT.free 6
          have c6 : w2.cell? ⟨w.heap.size + 1, 6, none⟩ = some (.int .i64 0) := BT.at 6 rfl
          go_wp2_with fail
          refine (done_any t _ hM t0 t1).mono ?_
          rw [e2.out]
          rintro e w3 ⟨rfl, hb3⟩
          replace hB1 := below_push2 hB1 hb3 (Nat.le_refl _)
          replace BG := BG.below hb3
          replace BT := BT.below hb3
          clear hb3 g0 g1 f6 c6
          have g0 : w3.cell? ⟨w.heap.size, 0, none⟩ = some (.int .i64 s) := BG.at 0 rfl
          have g1 : w3.cell? ⟨w.heap.size, 1, none⟩ = some (.int .i64 t) := BG.at 1 rfl
          have f6 := BT.free 6
          have c6 : w3.cell? ⟨w.heap.size + 1, 6, none⟩ = some (.int .i64 0) := BT.at 6 rfl
          go_wp2_with fail
          go_ret
          refine ⟨rfl, ?_, hB1.setCell (by simp) _⟩
          rw [hK.out]
          exact (show Blk _ _ (carA (some ⟨o, 0, none⟩) hp s t x ver 8 (.slice none 0 0) 0 false false) _ by simpa [carA] using BT.set 6 (.int .i64 8))
      · have e1 : hazI A T hp 0 = -1 := hazI_no (by omega)
        replace e1 := Lib.hid e1
        have hK : Hid (at_ = 8) := by rw [hK, if_neg (by omega)]; exact rfl
        clear h2 hbd hg h3
        have hb2 : Below w.heap.size w ((w.alloc (.cells #[.int .i64 s, .int .i64 t, .int .u64 x] 82)).alloc (.cells (carA (some ⟨o, 0, none⟩) hp s t x ver 0 (.slice none 0 0) 0 false false) 100)) := by (repeat (first | exact Below.refl _ _ | assumption | refine below_alloc2 ?_ (by first | exact Nat.le_refl _ | omega) _ | refine Below.drew ?_ | refine below_drewN ?_ _ | refine below_push2 ?_ ‹_› (by first | exact Nat.le_refl _ | omega) | refine Below.setCell ?_ (by first | (simp; done) | (simp; omega) | omega) _))
        have BG := (Blk.new w #[.int .i64 s, .int .i64 t, .int .u64 x] 82).alloc (.cells (carA (some ⟨o, 0, none⟩) hp s t x ver 0 (.slice none 0 0) 0 false false) 100)
        have BT : Blk ((w.alloc (.cells #[.int .i64 s, .int .i64 t, .int .u64 x] 82)).alloc (.cells (carA (some ⟨o, 0, none⟩) hp s t x ver 0 (.slice none 0 0) 0 false false) 100)) (w.heap.size + 1) (carA (some ⟨o, 0, none⟩) hp s t x ver 0 (.slice none 0 0) 0 false false) 100 := by
          have := Blk.new (w.alloc (.cells #[.int .i64 s, .int .i64 t, .int .u64 x] 82)) (carA (some ⟨o, 0, none⟩) hp s t x ver 0 (.slice none 0 0) 0 false false) 100
          simpa using this
        have hs := shut_any s t x
        have hM := h.below hb2
        go_enter Try.func34, Try.ntmps34
        go_wp2_with fail
        generalize hW : ((w.alloc (.cells #[.int .i64 s, .int .i64 t, .int .u64 x] 82)).alloc (.cells (carA (some ⟨o, 0, none⟩) hp s t x ver 0 (.slice none 0 0) 0 false false) 100)) = w0 at hb2 BG BT hM ⊢
        refine (hs _ s0 s1 t0 t1 x0 x1).mono ?_
        rintro e w1 ⟨rfl, hb1⟩
        have hB1 := below_push2 hb2 hb1 (Nat.le_refl _)
        replace BG := BG.below hb1
        replace BT := BT.below hb1
        replace hM := hM.below hb1
        clear hW hb2 hb1 hs
        have g0 : w1.cell? ⟨w.heap.size, 0, none⟩ = some (.int .i64 s) := BG.at 0 rfl
        have g1 : w1.cell? ⟨w.heap.size, 1, none⟩ = some (.int .i64 t) := BG.at 1 rfl
        have f6 := BT.free 6
        have c6 : w1.cell? ⟨w.heap.size + 1, 6, none⟩ = some (.int .i64 0) := BT.at 6 rfl
        go_wp2_with fail
        refine (haz_any hp 0 _ hM).mono ?_
        rw [e1.out]
        rintro e w2 ⟨rfl, hb2⟩
        replace hB1 := below_push2 hB1 hb2 (Nat.le_refl _)
        replace BG := BG.below hb2
        replace BT := BT.below hb2
        replace hM := hM.below hb2
        clear hb2 g0 g1 f6 c6
        have g0 : w2.cell? ⟨w.heap.size, 0, none⟩ = some (.int .i64 s) := BG.at 0 rfl
        have g1 : w2.cell? ⟨w.heap.size, 1, none⟩ = some (.int .i64 t) := BG.at 1 rfl
        have f6 := BT.free 6
        have c6 : w2.cell? ⟨w.heap.size + 1, 6, none⟩ = some (.int .i64 0) := BT.at 6 rfl
        go_wp2_with fail
        go_ret
        refine ⟨rfl, ?_, hB1.setCell (by simp) _⟩
        rw [hK.out]
        exact (show Blk _ _ (carA (some ⟨o, 0, none⟩) hp s t x ver 8 (.slice none 0 0) 0 false false) _ by simpa [carA] using BT.set 6 (.int .i64 8))
end Go.Proofs.Ytpempcefgfmniaa.MemP

/-
  Rows that a caller copies by append, and writes: what it has then.
-/
namespace Go.Proofs.Ytpempcefgfmniaa.Dp
open Go.RowKit RefP MemP
set_option linter.unusedVariables false
set_option linter.unusedSimpArgs false
/-- a row that was copied by append behind an empty one -/
structure AppRow {α : Type} (P : Program) (C : Cod α) (L : α → List Value) (T E : TypeId) (w : World) (h : Hd) (xs : List α) (g cap : Nat) (w' : World) : Prop where
  run : Hid (∀ ty, (Builtin.append_ #[T, T] ty #[.slice (some ⟨w.heap.size, 0, none⟩) 0 0, .slice h.a xs.length h.c]).run P (w.alloc (.cells #[] E)) = .ok (.slice (some ⟨g, 0, none⟩) xs.length cap) w')
  below : Below w.heap.size w w'
  ge : w.heap.size ≤ g
  blk : ∃ cur, Blk w' g cur E ∧ ∀ i (hi : i < xs.length) j v, (L xs[i])[j]? = some v → cur[i * C.k + j]? = some v
  row : HRow C w' (List.range w.heap.size) ⟨some ⟨g, 0, none⟩, cap⟩ xs
theorem app_strs {w : World} {S : List Nat} {h : Hd} {xs : List (ByteArray)} (H : HRow strC w S h xs) (hl : xs.length ≤ 1000) : ∃ g cap w', AppRow Try.prog strC (fun s => [.string s]) 23 9 w h xs g cap w' := by
  have hm : (maxLen : Nat) = 9223372036854775807 := by unfold maxLen; rfl
  have hb1 : Below w.heap.size w (w.alloc (.cells #[] 9)) := (Below.refl _ w).alloc (Nat.le_refl _) _
  have O := OwnR.empty 1 (flatF (fun s => [.string s])) ⟨#[]⟩ w w.heap.size 9 (Nat.le_refl _)
  have R := (flat_str).recs ⟨#[]⟩ (H.keep (Keeps.of_below hb1))
  obtain ⟨i0, hi, hz0, hz1, hz2⟩ := info_parts' infoS
  have A : ∃ g cap w', AddedR Try.prog 1 (flatF (fun s => [.string s])) ⟨#[]⟩ (w.alloc (.cells #[] 9)) w.heap.size 23 9 (some ⟨w.heap.size, 0, none⟩) 0 [] (.slice h.a xs.length h.c) xs.length xs g cap w' := by
    by_cases hx : 0 < xs.length
    · exact addRecs (c' := h.c) w.heap.size 23 9 i0 _ 16 Try.underlying23 hi hz0 hz1 hz2 (by simp [Value.cells]) (by decide) (flat_str).oneF O R hx (by simp; omega) (by simp; omega) (by simp)
    · obtain rfl : xs = [] := List.eq_nil_of_length_eq_zero (by omega)
      exact ⟨_, _, _, addRecs_zero w.heap.size w.heap.size 23 9 i0 Try.underlying23 hi O h.a h.c⟩
  obtain ⟨g, cap, wa, A⟩ := A
  have hrun := fun ty => A.run ty
  simp only [List.length_nil, Nat.zero_add] at hrun
  have hb2 : Below w.heap.size w wa := A.keeps (fun k e => (O.lt k e).1) w w.heap.size (Nat.le_refl _) hb1 (by simp)
  have hcap : xs.length ≤ cap ∧ cap ≤ maxLen ∧ ∃ cur, Blk wa g cur 9 ∧ cur.toList.take (xs.length * 1) = rowL (xs.length * 1) (recF 1 (flatF (fun s => [.string s])) ⟨#[]⟩ xs) := by
    rcases A.own.own.2 with ⟨q, _⟩ | ⟨g', cap', cur, q, _, hh, h1, h2, _, h4⟩
    · cases q
    · injection q with q1 _ q3
      subst q3
      injection q1 with q1
      injection q1 with q1
      subst q1
      exact ⟨h1, h2, cur, ⟨hh⟩, h4⟩
  obtain ⟨hc1, hc2, cur, BG, hcur⟩ := hcap
  refine ⟨g, cap, wa, Lib.hid hrun, hb2, A.ge, ⟨cur, BG, fun i hi j v hj => ?_⟩, (flat_str).back A.own.read H.all (fun b off e => ?_) hc1 hc2⟩
  · have hjk : j < 1 := by
      have := (flat_str).len xs[i]
      have h3 := (List.getElem?_eq_some_iff.1 hj).1
      rw [this] at h3; exact h3
    have hlt := rec_lt hi hjk
    have e1 : (cur.toList.take (xs.length * 1))[i * 1 + j]? = (rowL (xs.length * 1) (recF 1 (flatF (fun s => [.string s])) ⟨#[]⟩ xs))[i * 1 + j]? := by rw [hcur]
    rw [List.getElem?_take_of_lt hlt, rowL_at _ _ _ hlt, recF_at _ _ _ _ _ hjk] at e1
    have e2 : xs.getD i ⟨#[]⟩ = xs[i] := by simp [List.getD_eq_getElem?_getD, hi]
    rw [e2] at e1
    show cur[i * 1 + j]? = some v
    rw [← Array.getElem?_toList, e1, ← (flat_str).getD xs[i] j hjk, hj]
  · injection e with e
    injection e with e1
    subst e1
    have := A.ge
    simp
    omega
theorem app_pairs {w : World} {S : List Nat} {h : Hd} {xs : List (PairV)} (H : HRow pairT w S h xs) (hl : xs.length ≤ 1000) : ∃ g cap w', AppRow Try.prog pairT pairL 28 64 w h xs g cap w' := by
  have hm : (maxLen : Nat) = 9223372036854775807 := by unfold maxLen; rfl
  have hb1 : Below w.heap.size w (w.alloc (.cells #[] 64)) := (Below.refl _ w).alloc (Nat.le_refl _) _
  have O := OwnR.empty 2 (flatF pairL) ⟨⟨#[]⟩, 0⟩ w w.heap.size 64 (Nat.le_refl _)
  have R := (flat_pair).recs ⟨⟨#[]⟩, 0⟩ (H.keep (Keeps.of_below hb1))
  obtain ⟨i0, hi, hz0, hz1, hz2⟩ := info_parts' infoPair
  have A : ∃ g cap w', AddedR Try.prog 2 (flatF pairL) ⟨⟨#[]⟩, 0⟩ (w.alloc (.cells #[] 64)) w.heap.size 28 64 (some ⟨w.heap.size, 0, none⟩) 0 [] (.slice h.a xs.length h.c) xs.length xs g cap w' := by
    by_cases hx : 0 < xs.length
    · exact addRecs (c' := h.c) w.heap.size 28 64 i0 _ 24 Try.underlying28 hi hz0 hz1 hz2 (by simp [Value.cells]) (by decide) (flat_pair).oneF O R hx (by simp; omega) (by simp; omega) (by simp)
    · obtain rfl : xs = [] := List.eq_nil_of_length_eq_zero (by omega)
      exact ⟨_, _, _, addRecs_zero w.heap.size w.heap.size 28 64 i0 Try.underlying28 hi O h.a h.c⟩
  obtain ⟨g, cap, wa, A⟩ := A
  have hrun := fun ty => A.run ty
  simp only [List.length_nil, Nat.zero_add] at hrun
  have hb2 : Below w.heap.size w wa := A.keeps (fun k e => (O.lt k e).1) w w.heap.size (Nat.le_refl _) hb1 (by simp)
  have hcap : xs.length ≤ cap ∧ cap ≤ maxLen ∧ ∃ cur, Blk wa g cur 64 ∧ cur.toList.take (xs.length * 2) = rowL (xs.length * 2) (recF 2 (flatF pairL) ⟨⟨#[]⟩, 0⟩ xs) := by
    rcases A.own.own.2 with ⟨q, _⟩ | ⟨g', cap', cur, q, _, hh, h1, h2, _, h4⟩
    · cases q
    · injection q with q1 _ q3
      subst q3
      injection q1 with q1
      injection q1 with q1
      subst q1
      exact ⟨h1, h2, cur, ⟨hh⟩, h4⟩
  obtain ⟨hc1, hc2, cur, BG, hcur⟩ := hcap
  refine ⟨g, cap, wa, Lib.hid hrun, hb2, A.ge, ⟨cur, BG, fun i hi j v hj => ?_⟩, (flat_pair).back A.own.read H.all (fun b off e => ?_) hc1 hc2⟩
  · have hjk : j < 2 := by
      have := (flat_pair).len xs[i]
      have h3 := (List.getElem?_eq_some_iff.1 hj).1
      rw [this] at h3; exact h3
    have hlt := rec_lt hi hjk
    have e1 : (cur.toList.take (xs.length * 2))[i * 2 + j]? = (rowL (xs.length * 2) (recF 2 (flatF pairL) ⟨⟨#[]⟩, 0⟩ xs))[i * 2 + j]? := by rw [hcur]
    rw [List.getElem?_take_of_lt hlt, rowL_at _ _ _ hlt, recF_at _ _ _ _ _ hjk] at e1
    have e2 : xs.getD i ⟨⟨#[]⟩, 0⟩ = xs[i] := by simp [List.getD_eq_getElem?_getD, hi]
    rw [e2] at e1
    show cur[i * 2 + j]? = some v
    rw [← Array.getElem?_toList, e1, ← (flat_pair).getD xs[i] j hjk, hj]
  · injection e with e
    injection e with e1
    subst e1
    have := A.ge
    simp
    omega
end Go.Proofs.Ytpempcefgfmniaa.Dp

/-
  Rows of anything that are copied by append, and written in one place: plain laws, and the document's memory as it lies.
-/
namespace Go.Proofs.Ytpempcefgfmniaa.MemP
open Go.RowKit RefP CellP Dp
set_option linter.unusedVariables false
set_option linter.unusedSimpArgs false
abbrev rowF (R : List (List Value)) (k : Nat) (j : Nat) : Value := (R.getD (j / k) []).getD (j % k) undef
theorem rowF_at {R : List (List Value)} {k i j : Nat} {cs : List Value} {v : Value} (hk : j < k) (hi : R[i]? = some cs) (hj : cs[j]? = some v) : rowF R k (i * k + j) = v := by
  have h1 : (i * k + j) / k = i := by
    rw [Nat.mul_comm, Nat.mul_add_div (by omega), Nat.div_eq_of_lt hk]; omega
  have h2 : (i * k + j) % k = j := by
    rw [Nat.mul_comm, Nat.mul_add_mod, Nat.mod_eq_of_lt hk]
  simp [rowF, h1, h2, List.getD_eq_getElem?_getD, hi, hj]
/-- a row, as raw cells -/
theorem row_raw {α : Type} {E : Cod α} {w : World} {S : List Nat} {a : Option Addr} {xs : List α} (hk : 0 < E.k) (H : RowRep E w S a xs) : ∃ R : List (List Value), R.length = xs.length ∧ (∀ (i : Nat) (x : α), xs[i]? = some x → ∃ cs : List Value, R[i]? = some cs ∧ E.rep w S cs x) ∧ Holds w a (xs.length * E.k) (rowF R E.k) := by
  by_cases h0 : 0 < xs.length
  · obtain ⟨b, off, rfl, hb, hS, hc⟩ := H h0
    obtain ⟨R, hl, hR⟩ := list_of_get xs.length (fun i cs => ∃ x, xs[i]? = some x ∧ E.rep w S cs x ∧ ∀ j v, cs[j]? = some v → w.cell? ⟨b, off + i * E.k + j, none⟩ = some v) (fun i hi => by
      obtain ⟨cs, h1, h2⟩ := hc i xs[i] (List.getElem?_eq_getElem hi)
      exact ⟨cs, xs[i], List.getElem?_eq_getElem hi, h1, h2⟩)
    refine ⟨R, hl, fun i x hx => ?_, ⟨fun _ => ⟨b, off, rfl, hb, fun m hm => ?_⟩⟩⟩
    · have hi : i < xs.length := (List.getElem?_eq_some_iff.1 hx).1
      obtain ⟨x', e, h1, _⟩ := hR i (R[i]'(by omega)) (List.getElem?_eq_getElem (by omega))
      rw [hx] at e
      cases e
      exact ⟨_, List.getElem?_eq_getElem (by omega), h1⟩
    · have hi : m / E.k < xs.length := Nat.div_lt_of_lt_mul (by rw [Nat.mul_comm]; exact hm)
      obtain ⟨x', e, h1, h2⟩ := hR (m / E.k) (R[m / E.k]'(by omega)) (List.getElem?_eq_getElem (by omega))
      have hlen := E.len h1
      have hj : m % E.k < E.k := Nat.mod_lt _ hk
      have h3 := h2 (m % E.k) ((R[m / E.k]'(by omega))[m % E.k]'(by omega)) (List.getElem?_eq_getElem (by omega))
      rw [show off + m / E.k * E.k + m % E.k = off + m by have := Nat.div_add_mod m E.k; rw [Nat.mul_comm] at this; omega] at h3
      rw [h3]
      simp [rowF, List.getD_eq_getElem?_getD, List.getElem?_eq_getElem (show m / E.k < R.length by omega), List.getElem?_eq_getElem (show m % E.k < (R[m / E.k]'(by omega)).length by omega)]
  · obtain rfl : xs = [] := List.eq_nil_of_length_eq_zero (by omega)
    exact ⟨[], rfl, fun i x hx => by simp at hx, by simp only [List.length_nil, Nat.zero_mul]; exact Holds.nil _ _ _⟩
theorem row_of_blk {α : Type} {E : Cod α} {w : World} {S : List Nat} {g : Nat} {cur : Array Value} {T : TypeId} {xs : List α} (B : Blk w g cur T) (hg : g ∉ S) (h : ∀ (i : Nat) (x : α), xs[i]? = some x → ∃ cs, E.rep w S cs x ∧ ∀ j v, cs[j]? = some v → cur[i * E.k + j]? = some v) : RowRep E w S (some ⟨g, 0, none⟩) xs := by
  intro _
  refine ⟨g, 0, rfl, B.lt, hg, fun i x hx => ?_⟩
  obtain ⟨cs, h1, h2⟩ := h i x hx
  exact ⟨cs, h1, fun j v hj => by rw [Nat.zero_add]; exact B.at _ (h2 j v hj)⟩
/-- a row copied by append: what stands in the new block -/
structure CopyRow {α : Type} (P : Program) (E : Cod α) (T t : TypeId) (w : World) (S : List Nat) (a : Option Addr) (c : Nat) (xs : List α) (g cap : Nat) (w' : World) : Prop where
  run : Hid (∀ ty, (Builtin.append_ #[T, T] ty #[.slice (some ⟨w.heap.size, 0, none⟩) 0 0, .slice a xs.length c]).run P (w.alloc (.cells #[] t)) = .ok (.slice (some ⟨g, 0, none⟩) xs.length cap) w')
  below : Below w.heap.size w w'
  ge : w.heap.size ≤ g
  blk : ∃ cur, Blk w' g cur t ∧ xs.length * E.k ≤ cur.size ∧ ∀ (i : Nat) (x : α), xs[i]? = some x → ∃ cs, E.rep w' (g :: S) cs x ∧ ∀ j v, cs[j]? = some v → cur[i * E.k + j]? = some v
theorem copy_row {α : Type} {P : Program} {E : Cod α} (T t : TypeId) (i0 : TypeInfo) (z : Value) (bytes : Nat) (ht : P.underlying T = some (.slice t)) (hi : P.info? t = some i0) (hz : i0.zero = some z) (hsize : i0.size = E.k) (hby : i0.bytes = bytes) (hzs : z.cells.size = E.k) (hk : 0 < E.k)
    {w : World} {S : List Nat} {a : Option Addr} {c : Nat} {xs : List α} (H : RowRep E w S a xs) (h0 : 0 < xs.length) (hm : xs.length ≤ maxLen) (hb : xs.length * bytes ≤ 140737488355328) :
    ∃ g cap w', CopyRow P E T t w S a c xs g cap w' := by
  obtain ⟨R, hl, hR, hH⟩ := row_raw hk H
  have hb1 : Below w.heap.size w (w.alloc (.cells #[] t)) := (Below.refl _ w).alloc (Nat.le_refl _) _
  obtain ⟨b, off, rfl, hbl, hcell⟩ := hH.get (Nat.mul_pos h0 hk)
  obtain ⟨g, cap, w1, A⟩ := appended (P := P) (w := w.alloc (.cells #[] t)) (c' := c) T w.heap.size t i0 z E.k bytes ht hi hz hsize hby hzs hk
    (Owns.empty w w.heap.size _ E.k (fun _ => undef) (Nat.le_refl _)) (m := xs.length) (hH.below hb1) (fun m hm => by
      have hi : m / E.k < xs.length := Nat.div_lt_of_lt_mul (by rw [Nat.mul_comm]; exact hm)
      obtain ⟨cs, e1, e2⟩ := hR (m / E.k) xs[m / E.k] (List.getElem?_eq_getElem hi)
      have hj : m % E.k < cs.length := by rw [E.len e2]; exact Nat.mod_lt _ hk
      have : rowF R E.k m = cs[m % E.k] := by simp [rowF, List.getD_eq_getElem?_getD, e1, List.getElem?_eq_getElem hj]
      rw [this]
      exact E.one e2 _ (List.getElem_mem hj)) h0 (by omega) (by rw [Nat.zero_add]; exact hb) (by simp)
  have hrun := A.run
  simp only [Nat.zero_add] at hrun
  have hB := A.below w hb1 (by simp)
  refine ⟨g, cap, w1, Lib.hid hrun, hB, A.own.blk g 0 rfl, ?_⟩
  rcases A.own.2 with ⟨q, _⟩ | ⟨g', cap', cur, q, _, hh, h1, h2, h3, h4⟩
  · cases q
  · injection q with q1 _ q3
    subst q3
    injection q1 with q1
    injection q1 with q1
    subst q1
    have hlen : xs.length * E.k ≤ cur.size := by
      have := congrArg List.length h4
      simp only [List.length_take, rowL_length, Nat.zero_add, Array.length_toList] at this
      omega
    refine ⟨cur, ⟨hh⟩, hlen, fun i x hx => ?_⟩
    obtain ⟨cs, e1, e2⟩ := hR i x hx
    refine ⟨cs, E.keep (E.more e2 (fun b hb => by rcases List.mem_cons.1 hb with rfl | hb; exact .inr (A.own.blk _ 0 rfl); exact .inl hb)) (Keeps.of_below hB), fun j v hj => ?_⟩
    have hi : i < xs.length := (List.getElem?_eq_some_iff.1 hx).1
    have hjk : j < E.k := by
      have := (List.getElem?_eq_some_iff.1 hj).1
      rw [E.len e2] at this; exact this
    have hlt : i * E.k + j < xs.length * E.k := by
      have : (i + 1) * E.k ≤ xs.length * E.k := Nat.mul_le_mul_right _ hi
      rw [Nat.add_mul] at this
      omega
    have e3 : (cur.toList.take ((0 + xs.length) * E.k))[i * E.k + j]? = some v := by
      rw [h4, rowL_at _ _ _ (by rw [Nat.zero_add]; exact hlt)]
      simp only [Nat.zero_mul, Nat.not_lt_zero, if_false, Nat.sub_zero]
      rw [rowF_at hjk e1 hj]
    rw [List.getElem?_take_of_lt (by rw [Nat.zero_add]; exact hlt)] at e3
    rw [← Array.getElem?_toList]
    exact e3
theorem CopyRow.row {α : Type} {P : Program} {E : Cod α} {T t : TypeId} {w : World} {S : List Nat} {a : Option Addr} {c : Nat} {xs : List α} {g cap : Nat} {w' : World} (A : CopyRow P E T t w S a c xs g cap w') (hS : ∀ b ∈ S, b < w.heap.size) : RowRep E w' S (some ⟨g, 0, none⟩) xs := by
  obtain ⟨cur, B, _, h⟩ := A.blk
  refine row_of_blk B (fun e => by have := hS g e; have := A.ge; omega) (fun i x hx => ?_)
  obtain ⟨cs, e1, e2⟩ := h i x hx
  exact ⟨cs, E.more e1 (fun b hb => .inl (List.mem_cons_of_mem _ hb)), e2⟩
/-- one place of it written -/
theorem set_row {α : Type} {E : Cod α} {w : World} {S : List Nat} {g : Nat} {cur : Array Value} {T : TypeId} {xs : List α} (B : Blk w g cur T) (hg : g ∉ S) (hsz : xs.length * E.k ≤ cur.size) (h : ∀ (i : Nat) (x : α), xs[i]? = some x → ∃ cs, E.rep w (g :: S) cs x ∧ ∀ j v, cs[j]? = some v → cur[i * E.k + j]? = some v)
    (i : Nat) (hi : i < xs.length) (x : α) (cs : List Value) (hx : E.rep w (g :: S) cs x) : RowRep E (w.setCells g (i * E.k) cs) S (some ⟨g, 0, none⟩) (xs.set i x) := by
  have F := fr_sets' (S := [g]) (b := g) (by simp) cs (i * E.k) w
  have K : Keeps (g :: S) w (w.setCells g (i * E.k) cs) := F.keeps.more (by simp)
  have hlen := E.len hx
  have hle : i * E.k + E.k ≤ cur.size := by
    have : (i + 1) * E.k ≤ xs.length * E.k := Nat.mul_le_mul_right _ hi
    rw [Nat.add_mul] at this
    omega
  refine row_of_blk (blk_sets' cs (i * E.k) _ _ B) hg (fun m y hy => ?_)
  by_cases he : i = m
  · subst he
    rw [List.getElem?_set_self hi] at hy
    cases hy
    refine ⟨cs, E.more (E.keep hx K) (fun b hb => .inl (List.mem_cons_of_mem _ hb)), fun j v hj => ?_⟩
    have hjl : j < cs.length := (List.getElem?_eq_some_iff.1 hj).1
    rw [sets_at cs _ _ j hjl (by omega)]; exact hj
  · rw [List.getElem?_set_ne he] at hy
    obtain ⟨cs', e1, e2⟩ := h m y hy
    refine ⟨cs', E.more (E.keep e1 K) (fun b hb => .inl (List.mem_cons_of_mem _ hb)), fun j v hj => ?_⟩
    have hjl : j < cs'.length := (List.getElem?_eq_some_iff.1 hj).1
    rw [E.len e1] at hjl
    rw [sets_off cs _ _ _ ?_]
    · exact e2 j v hj
    · rcases Nat.lt_or_gt_of_ne he with hlt | hlt
      · right
        have : (i + 1) * E.k ≤ m * E.k := Nat.mul_le_mul_right _ hlt
        rw [Nat.add_mul] at this
        omega
      · left
        have : (m + 1) * E.k ≤ i * E.k := Nat.mul_le_mul_right _ hlt
        rw [Nat.add_mul] at this
        omega
/-- a cell: word and version -/
def cellT : Cod (Int × Int) := isoC (pairC u64C (pairC u64C unitC)) (fun p => (p.1, p.2, ()))
theorem cellT_of {w : World} {S : List Nat} {cs : List Value} {p : Int × Int} (h : cellT.rep w S cs p) : cs = [.int .u64 p.1, .int .u64 p.2] ∧ (U64 p.1 ∧ U64 p.2) := by
  obtain ⟨_, _, rfl, ⟨rfl, h0⟩, _, _, rfl, ⟨rfl, h1⟩, rfl⟩ := h
  exact ⟨rfl, U64.of h0, U64.of h1⟩
theorem cellT_mk {w : World} {S : List Nat} {p : Int × Int} (h0 : U64 p.1) (h1 : U64 p.2) : cellT.rep w S [.int .u64 p.1, .int .u64 p.2] p :=
  ⟨[_], _, rfl, ⟨rfl, wf_u64 h0⟩, [_], [], rfl, ⟨rfl, wf_u64 h1⟩, rfl⟩
/-- where the rows of a document's memory lie -/
structure DH where
  h1 : Hd
  h2 : Hd
  h3 : Hd
abbrev dmX (M : MemV) (d : DH) : Array Value := #[.int .i64 M.A, .int .i64 M.T, .slice d.h1.a M.L.length d.h1.c, .slice d.h2.a M.B.length d.h2.c, .slice d.h3.a M.R.length d.h3.c]
structure DMem (w : World) (S : List Nat) (d : DH) (M : MemV) : Prop where
  cells : RowRep cellT w S d.h1.a M.L
  blocks : RowRep blockT w S d.h2.a M.B
  recs : RowRep opT w S d.h3.a M.R
  len : M.L.length = 2 * M.A + 5 * M.T + 1
  lb : M.B.length = M.A
  lr : M.R.length = M.T
  a1 : 1 ≤ M.A ∧ M.A ≤ 8192
  t1 : 1 ≤ M.T ∧ M.T ≤ 16
theorem DMem.keep {w w' : World} {S : List Nat} {d : DH} {M : MemV} (h : DMem w S d M) (k : Keeps S w w') : DMem w' S d M := ⟨h.cells.keep k, h.blocks.keep k, h.recs.keep k, h.len, h.lb, h.lr, h.a1, h.t1⟩
theorem DMem.below {w w' : World} {S : List Nat} {d : DH} {M : MemV} (h : DMem w S d M) (hb : Below w.heap.size w w') : DMem w' S d M := h.keep (Keeps.of_below hb)
theorem DMem.more {w : World} {S S' : List Nat} {d : DH} {M : MemV} (h : DMem w S d M) (k : ∀ b ∈ S', b ∈ S ∨ w.heap.size ≤ b) : DMem w S' d M := ⟨h.cells.more k, h.blocks.more k, h.recs.more k, h.len, h.lb, h.lr, h.a1, h.t1⟩
/-- a cell of it -/
theorem DMem.cell {w : World} {S : List Nat} {d : DH} {M : MemV} (h : DMem w S d M) (i : Nat) (hi : i < M.L.length) : ∃ b off, d.h1.a = some ⟨b, off, none⟩ ∧ b < w.heap.size ∧ b ∉ S ∧ w.cell? ⟨b, off + i * 2, none⟩ = some (.int .u64 (at2 M.L i).1) ∧ w.cell? ⟨b, off + i * 2 + 1, none⟩ = some (.int .u64 (at2 M.L i).2) ∧ U64 (at2 M.L i).1 ∧ U64 (at2 M.L i).2 := by
  obtain ⟨b, off, ha, hb, hS, hc⟩ := h.cells (by omega)
  obtain ⟨cs, h1, h2⟩ := hc i M.L[i] (List.getElem?_eq_getElem hi)
  obtain ⟨rfl, h3, h4⟩ := cellT_of h1
  have e : at2 M.L i = M.L[i] := by simp [at2, List.getElem?_eq_getElem hi]
  rw [e]
  exact ⟨b, off, ha, hb, hS, h2 0 _ rfl, h2 1 _ rfl, h3, h4⟩
theorem DMem.rng {w : World} {S : List Nat} {d : DH} {M : MemV} (h : DMem w S d M) : Rng M.L := by
  intro p hp
  obtain ⟨i, hi, rfl⟩ := List.getElem_of_mem hp
  obtain ⟨b, off, _, _, _, _, _, h1, h2⟩ := h.cell i hi
  have e : at2 M.L i = M.L[i] := by simp [at2, List.getElem?_eq_getElem hi]
  rw [e] at h1 h2
  exact ⟨h1, h2⟩
theorem DMem.pairs {w : World} {S : List Nat} {d : DH} {M : MemV} (h : DMem w S d M) : PairsS w d.h1.a M.L := by
  refine ⟨⟨fun h0 => ?_⟩, h.rng, by have := h.len; have := h.a1; have := h.t1; omega⟩
  obtain ⟨b, off, ha, hb, _⟩ := h.cell 0 (by omega)
  refine ⟨b, off, ha, hb, fun m hm => ?_⟩
  obtain ⟨b', off', ha', _, _, e0, e1, _⟩ := h.cell (m / 2) (by omega)
  rw [ha] at ha'
  cases ha'
  unfold pairF
  by_cases hp : m % 2 = 0
  · rw [if_pos hp, show off + m = off + m / 2 * 2 by omega, e0]
  · rw [if_neg hp, show off + m = off + m / 2 * 2 + 1 by omega, e1]
theorem pairs_row {w : World} {S : List Nat} {a : Option Addr} {l : List (Int × Int)} (h : PairsS w a l) (hS : ∀ b off, a = some ⟨b, off, none⟩ → b ∉ S) : RowRep cellT w S a l := by
  intro h0
  obtain ⟨b, off, ha, hb, _⟩ := h.cell 0 h0
  refine ⟨b, off, ha, hb, hS b off ha, fun i p hp => ?_⟩
  have hi : i < l.length := (List.getElem?_eq_some_iff.1 hp).1
  obtain ⟨b', off', ha', _, e0, e1⟩ := h.cell i hi
  rw [ha] at ha'
  cases ha'
  have hr := h.rng.at i
  have e : at2 l i = p := by simp [at2, hp]
  rw [e] at e0 e1 hr
  refine ⟨_, cellT_mk hr.1 hr.2, fun j v hj => ?_⟩
  have hj2 : j < 2 := (List.getElem?_eq_some_iff.1 hj).1
  obtain rfl | rfl : j = 0 ∨ j = 1 := by omega
  · cases hj; exact e0
  · cases hj; exact e1
end Go.Proofs.Ytpempcefgfmniaa.MemP

/-
  bowerref26: Place, Named, set: contracts.
-/
namespace Go.Proofs.Ytpempcefgfmniaa.MemP
open Go.RowKit RefP CellP Dp
set_option linter.unusedVariables false
set_option linter.unusedSimpArgs false
set_option maxRecDepth 100000 in
set_option maxHeartbeats 1600000 in
theorem dpl_0 (M : MemV) (d : DH) (i k : Int) (w : World) (hA : M.A ≤ 8192) (hT : M.T ≤ 16) :
    Calls Try.prog 61 #[.agg (dmX M d), .int .i64 0, .int .i64 i, .int .i64 k] w fun e w' => e = .returned (.int .i64 (atI M.A M.T 0 i)) ∧ Below w.heap.size w w' := by
  have hb0 : Below w.heap.size w (w.alloc (.cells (dmX M d) 69)) := by (repeat (first | exact Below.refl _ _ | assumption | refine below_alloc2 ?_ (by first | exact Nat.le_refl _ | omega) _ | refine Below.drew ?_ | refine below_drewN ?_ _ | refine below_push2 ?_ ‹_› (by first | exact Nat.le_refl _ | omega) | refine Below.setCell ?_ (by first | (simp; done) | (simp; omega) | omega) _))
  by_cases h0 : i < 0
  · have hR : Hid (atI M.A M.T 0 i = -1) := atI_no (by omega)
    have q1 := h0
    go_enter Try.func61, Try.ntmps61
    go_wp2_with fail
    go_ret
    exact ⟨ret_int hR.out.symm, hb0⟩
  by_cases h1 : i < (M.A : Int)
  · have hR : Hid (atI M.A M.T 0 i = i) := by
      show atI M.A M.T 0 i = _
      rw [atI_yes (by omega) (by simp [sizeI]; omega)]; simp [fromI]; try omega
    have h0' : 0 ≤ i := by omega
    go_enter Try.func61, Try.ntmps61
    go_wp2_with fail
    go_ret
    exact ⟨ret_int hR.out.symm, hb0⟩
  · have hR : Hid (atI M.A M.T 0 i = -1) := atI_no (by simp [sizeI]; omega)
    have q1 : (M.A : Int) ≤ i := by omega
    go_enter Try.func61, Try.ntmps61
    go_wp2_with fail
    go_ret
    exact ⟨ret_int hR.out.symm, hb0⟩
set_option maxRecDepth 100000 in
set_option maxHeartbeats 1600000 in
theorem dpl_1 (M : MemV) (d : DH) (i k : Int) (w : World) (hA : M.A ≤ 8192) (hT : M.T ≤ 16) :
    Calls Try.prog 61 #[.agg (dmX M d), .int .i64 1, .int .i64 i, .int .i64 k] w fun e w' => e = .returned (.int .i64 (atI M.A M.T 1 i)) ∧ Below w.heap.size w w' := by
  have hb0 : Below w.heap.size w (w.alloc (.cells (dmX M d) 69)) := by (repeat (first | exact Below.refl _ _ | assumption | refine below_alloc2 ?_ (by first | exact Nat.le_refl _ | omega) _ | refine Below.drew ?_ | refine below_drewN ?_ _ | refine below_push2 ?_ ‹_› (by first | exact Nat.le_refl _ | omega) | refine Below.setCell ?_ (by first | (simp; done) | (simp; omega) | omega) _))
  by_cases h0 : i < 0
  · have hR : Hid (atI M.A M.T 1 i = -1) := atI_no (by omega)
    have q1 := h0
    go_enter Try.func61, Try.ntmps61
    go_wp2_with fail
    go_ret
    exact ⟨ret_int hR.out.symm, hb0⟩
  by_cases h1 : i < (M.A : Int)
  · have hR : Hid (atI M.A M.T 1 i = (M.A : Int) + i) := by
      show atI M.A M.T 1 i = _
      rw [atI_yes (by omega) (by simp [sizeI]; omega)]; simp [fromI]; try omega
    have h0' : 0 ≤ i := by omega
    go_enter Try.func61, Try.ntmps61
    go_wp2_with fail
    go_ret
    exact ⟨ret_int hR.out.symm, hb0⟩
  · have hR : Hid (atI M.A M.T 1 i = -1) := atI_no (by simp [sizeI]; omega)
    have q1 : (M.A : Int) ≤ i := by omega
    go_enter Try.func61, Try.ntmps61
    go_wp2_with fail
    go_ret
    exact ⟨ret_int hR.out.symm, hb0⟩
set_option maxRecDepth 100000 in
set_option maxHeartbeats 1600000 in
theorem dpl_2 (M : MemV) (d : DH) (i k : Int) (w : World) (hA : M.A ≤ 8192) (hT : M.T ≤ 16) :
    Calls Try.prog 61 #[.agg (dmX M d), .int .i64 2, .int .i64 i, .int .i64 k] w fun e w' => e = .returned (.int .i64 (atI M.A M.T 2 i)) ∧ Below w.heap.size w w' := by
  have hb0 : Below w.heap.size w (w.alloc (.cells (dmX M d) 69)) := by (repeat (first | exact Below.refl _ _ | assumption | refine below_alloc2 ?_ (by first | exact Nat.le_refl _ | omega) _ | refine Below.drew ?_ | refine below_drewN ?_ _ | refine below_push2 ?_ ‹_› (by first | exact Nat.le_refl _ | omega) | refine Below.setCell ?_ (by first | (simp; done) | (simp; omega) | omega) _))
  by_cases h0 : i < 0
  · have hR : Hid (atI M.A M.T 2 i = -1) := atI_no (by omega)
    have q1 := h0
    go_enter Try.func61, Try.ntmps61
    go_wp2_with fail
    go_ret
    exact ⟨ret_int hR.out.symm, hb0⟩
  by_cases h1 : i < (M.T : Int)
  · have hR : Hid (atI M.A M.T 2 i = 2 * (M.A : Int) + i) := by
      show atI M.A M.T 2 i = _
      rw [atI_yes (by omega) (by simp [sizeI]; omega)]; simp [fromI]; try omega
    have h0' : 0 ≤ i := by omega
    go_enter Try.func61, Try.ntmps61
    go_wp2_with fail
    go_ret
    exact ⟨ret_int hR.out.symm, hb0⟩
  · have hR : Hid (atI M.A M.T 2 i = -1) := atI_no (by simp [sizeI]; omega)
    have q1 : (M.T : Int) ≤ i := by omega
    go_enter Try.func61, Try.ntmps61
    go_wp2_with fail
    go_ret
    exact ⟨ret_int hR.out.symm, hb0⟩
set_option maxRecDepth 100000 in
set_option maxHeartbeats 1600000 in
theorem dpl_3 (M : MemV) (d : DH) (i k : Int) (w : World) (hA : M.A ≤ 8192) (hT : M.T ≤ 16) :
    Calls Try.prog 61 #[.agg (dmX M d), .int .i64 3, .int .i64 i, .int .i64 k] w fun e w' => e = .returned (.int .i64 (atI M.A M.T 3 i)) ∧ Below w.heap.size w w' := by
  have hb0 : Below w.heap.size w (w.alloc (.cells (dmX M d) 69)) := by (repeat (first | exact Below.refl _ _ | assumption | refine below_alloc2 ?_ (by first | exact Nat.le_refl _ | omega) _ | refine Below.drew ?_ | refine below_drewN ?_ _ | refine below_push2 ?_ ‹_› (by first | exact Nat.le_refl _ | omega) | refine Below.setCell ?_ (by first | (simp; done) | (simp; omega) | omega) _))
  by_cases h0 : i < 0
  · have hR : Hid (atI M.A M.T 3 i = -1) := atI_no (by omega)
    have q1 := h0
    go_enter Try.func61, Try.ntmps61
    go_wp2_with fail
    go_ret
    exact ⟨ret_int hR.out.symm, hb0⟩
  by_cases h1 : i < (M.T : Int)
  · have hR : Hid (atI M.A M.T 3 i = 2 * (M.A : Int) + (M.T : Int) + i) := by
      show atI M.A M.T 3 i = _
      rw [atI_yes (by omega) (by simp [sizeI]; omega)]; simp [fromI]; try omega
    have h0' : 0 ≤ i := by omega
    go_enter Try.func61, Try.ntmps61
    go_wp2_with fail
    go_ret
    exact ⟨ret_int hR.out.symm, hb0⟩
  · have hR : Hid (atI M.A M.T 3 i = -1) := atI_no (by simp [sizeI]; omega)
    have q1 : (M.T : Int) ≤ i := by omega
    go_enter Try.func61, Try.ntmps61
    go_wp2_with fail
    go_ret
    exact ⟨ret_int hR.out.symm, hb0⟩
set_option maxRecDepth 100000 in
set_option maxHeartbeats 1600000 in
theorem dpl_4 (M : MemV) (d : DH) (i k : Int) (w : World) (hA : M.A ≤ 8192) (hT : M.T ≤ 16) :
    Calls Try.prog 61 #[.agg (dmX M d), .int .i64 4, .int .i64 i, .int .i64 k] w fun e w' => e = .returned (.int .i64 (atI M.A M.T 4 i)) ∧ Below w.heap.size w w' := by
  have hb0 : Below w.heap.size w (w.alloc (.cells (dmX M d) 69)) := by (repeat (first | exact Below.refl _ _ | assumption | refine below_alloc2 ?_ (by first | exact Nat.le_refl _ | omega) _ | refine Below.drew ?_ | refine below_drewN ?_ _ | refine below_push2 ?_ ‹_› (by first | exact Nat.le_refl _ | omega) | refine Below.setCell ?_ (by first | (simp; done) | (simp; omega) | omega) _))
  by_cases h0 : i < 0
  · have hR : Hid (atI M.A M.T 4 i = -1) := atI_no (by omega)
    have q1 := h0
    go_enter Try.func61, Try.ntmps61
    go_wp2_with fail
    go_ret
    exact ⟨ret_int hR.out.symm, hb0⟩
  by_cases h1 : i < (M.T : Int)
  · have hR : Hid (atI M.A M.T 4 i = 2 * (M.A : Int) + 2 * (M.T : Int) + i) := by
      show atI M.A M.T 4 i = _
      rw [atI_yes (by omega) (by simp [sizeI]; omega)]; simp [fromI]; try omega
    have h0' : 0 ≤ i := by omega
    go_enter Try.func61, Try.ntmps61
    go_wp2_with fail
    go_ret
    exact ⟨ret_int hR.out.symm, hb0⟩
  · have hR : Hid (atI M.A M.T 4 i = -1) := atI_no (by simp [sizeI]; omega)
    have q1 : (M.T : Int) ≤ i := by omega
    go_enter Try.func61, Try.ntmps61
    go_wp2_with fail
    go_ret
    exact ⟨ret_int hR.out.symm, hb0⟩
set_option maxRecDepth 100000 in
set_option maxHeartbeats 1600000 in
theorem dpl_6 (M : MemV) (d : DH) (w : World) (hA : M.A ≤ 8192) (hT : M.T ≤ 16) :
    Calls Try.prog 61 #[.agg (dmX M d), .int .i64 6, .int .i64 0, .int .i64 0] w fun e w' => e = .returned (.int .i64 (atI M.A M.T 6 0)) ∧ Below w.heap.size w w' := by
  have hb0 : Below w.heap.size w (w.alloc (.cells (dmX M d) 69)) := by (repeat (first | exact Below.refl _ _ | assumption | refine below_alloc2 ?_ (by first | exact Nat.le_refl _ | omega) _ | refine Below.drew ?_ | refine below_drewN ?_ _ | refine below_push2 ?_ ‹_› (by first | exact Nat.le_refl _ | omega) | refine Below.setCell ?_ (by first | (simp; done) | (simp; omega) | omega) _))
  have hR : Hid (atI M.A M.T 6 0 = 2 * (M.A : Int) + 5 * (M.T : Int)) := by
    show atI M.A M.T 6 0 = _
    rw [atI_yes (by omega) (by simp [sizeI])]; simp [fromI]
  go_enter Try.func61, Try.ntmps61
  go_wp2_with fail
  go_ret
  exact ⟨ret_int hR.out.symm, hb0⟩
set_option maxRecDepth 100000 in
set_option maxHeartbeats 1600000 in
theorem dpl_5 (M : MemV) (d : DH) (i k : Int) (w : World) (hA : M.A ≤ 8192) (hT : M.T ≤ 16) :
    Calls Try.prog 61 #[.agg (dmX M d), .int .i64 5, .int .i64 i, .int .i64 k] w fun e w' => e = .returned (.int .i64 (hazI M.A M.T i k)) ∧ Below w.heap.size w w' := by
  have hb0 : Below w.heap.size w (w.alloc (.cells (dmX M d) 69)) := by (repeat (first | exact Below.refl _ _ | assumption | refine below_alloc2 ?_ (by first | exact Nat.le_refl _ | omega) _ | refine Below.drew ?_ | refine below_drewN ?_ _ | refine below_push2 ?_ ‹_› (by first | exact Nat.le_refl _ | omega) | refine Below.setCell ?_ (by first | (simp; done) | (simp; omega) | omega) _))
  by_cases h0 : i < 0
  · have hR : Hid (hazI M.A M.T i k = -1) := hazI_no (by omega)
    have q1 := h0
    go_enter Try.func61, Try.ntmps61
    go_wp2_with fail
    go_ret
    exact ⟨ret_int hR.out.symm, hb0⟩
  by_cases h1 : i < (M.T : Int)
  · have h0' : 0 ≤ i := by omega
    by_cases h2 : k < 0
    · have hR : Hid (hazI M.A M.T i k = -1) := hazI_no (by omega)
      have q1 := h2
      go_enter Try.func61, Try.ntmps61
      go_wp2_with fail
      go_ret
      exact ⟨ret_int hR.out.symm, hb0⟩
    by_cases h3 : k < 2
    · have hR : Hid (hazI M.A M.T i k = 2 * (M.A : Int) + 3 * (M.T : Int) + 2 * i + k) := by
        show hazI M.A M.T i k = _
        unfold hazI
        rw [if_pos (by omega)]; omega
      have h2' : 0 ≤ k := by omega
      have h3' : k ≤ 1 := by omega
      go_enter Try.func61, Try.ntmps61
      go_wp2_with fail
      go_ret
      exact ⟨ret_int hR.out.symm, hb0⟩
    · have hR : Hid (hazI M.A M.T i k = -1) := hazI_no (by omega)
      have q1 : 1 < k := by omega
      go_enter Try.func61, Try.ntmps61
      go_wp2_with fail
      go_ret
      exact ⟨ret_int hR.out.symm, hb0⟩
  · have hR : Hid (hazI M.A M.T i k = -1) := hazI_no (by omega)
    have q1 : (M.T : Int) ≤ i := by omega
    go_enter Try.func61, Try.ntmps61
    go_wp2_with fail
    go_ret
    exact ⟨ret_int hR.out.symm, hb0⟩
end Go.Proofs.Ytpempcefgfmniaa.MemP

/-
  Who is ahead, which phase is behind others: plain laws.
-/
namespace Go.Proofs.Ytpempcefgfmniaa.GateP
open RefP
set_option linter.unusedVariables false
set_option linter.unusedSimpArgs false

def maxL (xs : List Int) : Int := xs.foldl max 0
def afterI (xs : List Int) : Int := if maxL xs = 18446744073709551615 then maxL xs else maxL xs + 1

theorem maxL_snoc (xs : List Int) (k : Nat) (h : k < xs.length) : maxL (xs.take (k + 1)) = max (maxL (xs.take k)) (at0 xs k) := by
  unfold maxL
  rw [take_succ_at0 xs k h, List.foldl_append]; rfl
theorem foldl_max_ge (xs : List Int) : ∀ a : Int, a ≤ xs.foldl max a := by
  induction xs with
  | nil => intro a; exact Int.le_refl _
  | cons x xs ih => intro a; exact Int.le_trans (Int.le_max_left a x) (ih (max a x))
theorem foldl_max_mem (xs : List Int) : ∀ a : Int, ∀ x ∈ xs, x ≤ xs.foldl max a := by
  induction xs with
  | nil => intro a x h; cases h
  | cons y ys ih =>
    intro a x h
    rcases List.mem_cons.1 h with rfl | h
    · exact Int.le_trans (Int.le_max_right a x) (foldl_max_ge ys _)
    · exact ih _ x h
theorem foldl_max_le (xs : List Int) (m : Int) : ∀ a : Int, a ≤ m → (∀ x ∈ xs, x ≤ m) → xs.foldl max a ≤ m := by
  induction xs with
  | nil => intro a h _; exact h
  | cons y ys ih =>
    intro a h k
    exact ih _ (Int.max_le.2 ⟨h, k y (by simp)⟩) (fun x hx => k x (by simp [hx]))
theorem maxL_lo (xs : List Int) : 0 ≤ maxL xs := foldl_max_ge xs 0
theorem maxL_hi (xs : List Int) (h : ∀ x ∈ xs, 0 ≤ x ∧ x ≤ 18446744073709551615) : maxL xs ≤ 18446744073709551615 := foldl_max_le xs _ 0 (by omega) (fun x hx => (h x hx).2)
theorem maxL_take_hi (xs : List Int) (k : Nat) (h : ∀ x ∈ xs, 0 ≤ x ∧ x ≤ 18446744073709551615) : maxL (xs.take k) ≤ 18446744073709551615 := maxL_hi _ (fun x hx => h x (List.mem_of_mem_take hx))
theorem maxL_mem (xs : List Int) (x : Int) (h : x ∈ xs) : x ≤ maxL xs := foldl_max_mem xs 0 x h

/-- is one ahead of another? -/
def aheadB (t p u q : Int) : Bool := decide (p < q ∨ p = q ∧ t < u)

def ahead (a b : Int × Int) : Bool := aheadB a.1 a.2 b.1 b.2
theorem ahead_iff (a b : Int × Int) : ahead a b = true ↔ (a.2 < b.2 ∨ a.2 = b.2 ∧ a.1 < b.1) := by simp [ahead, aheadB]
theorem ahead_no (a b : Int × Int) : ahead a b = false ↔ ¬ (a.2 < b.2 ∨ a.2 = b.2 ∧ a.1 < b.1) := by rw [← ahead_iff]; simp
theorem ahead_irrefl (a : Int × Int) : ahead a a = false := by rw [ahead_no]; omega
theorem ahead_eq {a b : Int × Int} (h : ahead a b = false) (k : ahead b a = false) : a = b := by
  rw [ahead_no] at h k
  exact Prod.ext (by omega) (by omega)

/-- who is first so far -/
def pick (b c : Int × Int) : Int × Int := if ahead c b = true then c else b
def bestTo (l : List (Int × Int)) (k : Nat) : Int × Int := (l.take k).foldl pick (at2 l 0)
theorem bestTo_zero (l : List (Int × Int)) : bestTo l 0 = at2 l 0 := rfl
theorem bestTo_succ (l : List (Int × Int)) (k : Nat) (h : k < l.length) : bestTo l (k + 1) = pick (bestTo l k) (at2 l k) := by
  unfold bestTo
  rw [take_succ_at2 l k h, List.foldl_append]; rfl
theorem bestTo_mem (l : List (Int × Int)) (h : 0 < l.length) : ∀ k, k ≤ l.length → bestTo l k ∈ l := by
  intro k
  induction k with
  | zero => intro _; exact at2_mem l 0 h
  | succ k ih =>
    intro hk
    rw [bestTo_succ l k (by omega)]
    unfold pick
    split
    · exact at2_mem l k (by omega)
    · exact ih (by omega)
theorem bestTo_min (l : List (Int × Int)) : ∀ k, k ≤ l.length → ∀ i, i < k → ahead (at2 l i) (bestTo l k) = false := by
  intro k
  induction k with
  | zero => intro _ i hi; omega
  | succ k ih =>
    intro hk i hi
    rw [bestTo_succ l k (by omega)]
    unfold pick
    by_cases c : ahead (at2 l k) (bestTo l k) = true
    · rw [if_pos c]
      by_cases e : i = k
      · subst e; exact ahead_irrefl _
      · have h1 := ih (by omega) i (by omega)
        rw [ahead_no] at h1 ⊢
        rw [ahead_iff] at c
        omega
    · rw [if_neg c]
      by_cases e : i = k
      · subst e; simpa using c
      · exact ih (by omega) i (by omega)
def firstT (l : List (Int × Int)) : Int := if l.length = 0 then 0 else (bestTo l l.length).1
def firstB (l : List (Int × Int)) : Bool := !(l.length == 0)
end Go.Proofs.Ytpempcefgfmniaa.GateP

/-
  gate.After, gate.Ahead and the document's: contracts.
-/
namespace Go.Proofs.Ytpempcefgfmniaa.GateP
open Go.RowKit RefP
set_option linter.unusedVariables false
set_option linter.unusedSimpArgs false
theorem ret_after {xs : List Int} : Hid (maxL xs = 18446744073709551615 → afterI xs = maxL xs) ∧ Hid (maxL xs ≠ 18446744073709551615 → afterI xs = maxL xs + 1) :=
  ⟨fun h => if_pos h, fun h => if_neg h⟩
theorem aheadB_def (t p u q : Int) : aheadB t p u q = decide (p < q ∨ p = q ∧ t < u) := rfl
end Go.Proofs.Ytpempcefgfmniaa.GateP

/-
  gate.First: contract. The example of chapter 32 is true.
-/
namespace Go.Proofs.Ytpempcefgfmniaa.GateP
open Go.RowKit RefP
set_option linter.unusedVariables false
set_option linter.unusedSimpArgs false

theorem ret_ib {a b : Int} {x y : Bool} (h : a = b) (k : x = y) : Ending.returned (.tuple #[.int .i64 a, .bool x]) = .returned (.tuple #[.int .i64 b, .bool y]) := by rw [h, k]
end Go.Proofs.Ytpempcefgfmniaa.GateP

/-
  Choosing: the task as a plain thing; what stays where a world changes above a base.
-/
namespace Go.Proofs.Ytpempcefgfmniaa.MemP
open Go.RowKit RefP CellP GateP
set_option linter.unusedVariables false
set_option linter.unusedSimpArgs false
theorem OwnR.heap {α : Type} {k : Nat} {f : α → Nat → Value} {d : α} {w w' : World} {base : Nat} {e : TypeId} {a : Option Addr} {c : Nat} {l : List α} (h : OwnR k f d w base e a c l) (hk : ∀ g, (Value.slice a l.length c).ownBlock = some g → w'.heap[g]? = w.heap[g]?) : OwnR k f d w' base e a c l := by
  refine ⟨⟨h.own.1, ?_⟩⟩
  rcases h.own.2 with q | ⟨g, cap, cur, e', hg, hh, r⟩
  · exact .inl q
  · refine .inr ⟨g, cap, cur, e', hg, ?_, r⟩
    rw [hk g (by rw [e']; rfl)]; exact hh
theorem OwnR.fr {α : Type} {k : Nat} {f : α → Nat → Value} {d : α} {w w' : World} {S : List Nat} {base : Nat} {e : TypeId} {a : Option Addr} {c : Nat} {l : List α} (h : OwnR k f d w base e a c l) (F : Fr S w w') (hS : ∀ g ∈ S, g < base) : OwnR k f d w' base e a c l :=
  OwnR.heap h fun g hg => F.block g (OwnR.lt h g hg).2 (fun hm => by have := hS g hm; have := (OwnR.lt h g hg).1; omega)
/-- a memory that lies below a base -/
structure MemB (w : World) (base o oc g gb gr A T : Nat) (L : List (Int × Int)) (bs rs : List (List Value)) : Prop where
  m : MemAt w o oc g gb gr A T L bs rs
  lo : o < base ∧ oc < base ∧ g < base ∧ gb < base ∧ gr < base
theorem MemB.below {w w' : World} {base o oc g gb gr A T : Nat} {L : List (Int × Int)} {bs rs : List (List Value)} (h : MemB w base o oc g gb gr A T L bs rs) (hb : Below base w w') (hs : base ≤ w.heap.size) : MemB w' base o oc g gb gr A T L bs rs := by
  have F : ∀ b, b < base → w'.heap[b]? = w.heap[b]? := hb.block
  have n := h.lo
  refine ⟨⟨⟨(F _ n.1).trans h.m.head.h⟩, ⟨⟨(F _ n.2.1).trans h.m.cells.head.h⟩, ⟨(F _ n.2.2.1).trans h.m.cells.rows.h⟩, h.m.cells.ne, h.m.cells.rng, h.m.cells.len⟩, ⟨(F _ n.2.2.2.1).trans h.m.blocks.h⟩, ⟨(F _ n.2.2.2.2).trans h.m.records.h⟩, h.m.len, h.m.lb, h.m.lr, h.m.a1, h.m.t1, h.m.ne⟩, n⟩
theorem MemB.under {w w' : World} {base o oc g gb gr A T : Nat} {L : List (Int × Int)} {bs rs : List (List Value)} (h : MemB w base o oc g gb gr A T L bs rs) (hb : Below w.heap.size w w') : MemB w' base o oc g gb gr A T L bs rs := ⟨h.m.below hb, h.lo⟩
/-- where choosing is -/
structure CS where
  th : Nat
  at_ : Nat
  ver : Int
  done : Int
  ph : Int
  L : List (Int × Int)
structure CS.Ok (s : CS) : Prop where
  th : s.th ≤ 16
  at_ : s.at_ ≤ 3
  ver : 0 ≤ s.ver ∧ s.ver ≤ 18446744073709551615
  done : 0 ≤ s.done ∧ s.done ≤ 18446744073709551615
  ph : 0 ≤ s.ph ∧ s.ph ≤ 18446744073709551615
  L : ∀ x ∈ s.L, (0 ≤ x.1 ∧ x.1 ≤ 16) ∧ 0 ≤ x.2 ∧ x.2 ≤ 18446744073709551615
  len : s.L.length ≤ s.th
/-- an access's reply is told: word and version -/
def CS.tell (s : CS) (x v : Int) : CS :=
  match s.at_ with
  | 0 => if x = 0 then { s with ver := v, th := s.th + 1 } else { s with ver := v, at_ := 1 }
  | 1 => { s with done := x, at_ := 2 }
  | 2 => { s with ph := x, at_ := 3 }
  | _ => { s with L := if v = s.ver ∧ s.done = 0 then s.L ++ [((s.th : Int), s.ph)] else s.L, th := s.th + 1, at_ := 0 }
theorem CS.Ok.tell {s : CS} (h : s.Ok) (x v : Int) (hT : s.th < 16) (hx : 0 ≤ x ∧ x ≤ 18446744073709551615) (hv : 0 ≤ v ∧ v ≤ 18446744073709551615) : (s.tell x v).Ok := by
  have hl := h.len
  have ha := h.at_
  unfold CS.tell
  split
  · split
    · exact ⟨by show s.th + 1 ≤ 16; omega, h.at_, hv, h.done, h.ph, h.L, by show s.L.length ≤ s.th + 1; omega⟩
    · exact ⟨h.th, (by decide : 1 ≤ 3), hv, h.done, h.ph, h.L, h.len⟩
  · exact ⟨h.th, (by decide : 2 ≤ 3), h.ver, hx, h.ph, h.L, h.len⟩
  · exact ⟨h.th, (by decide : 3 ≤ 3), h.ver, h.done, hx, h.L, h.len⟩
  · refine ⟨(by omega : s.th + 1 ≤ 16), (by decide : 0 ≤ 3), h.ver, h.done, h.ph, ?_, ?_⟩
    · intro y hy
      try simp only at hy
      split at hy
      · rcases List.mem_append.1 hy with hy | hy
        · exact h.L y hy
        · rw [List.mem_singleton.1 hy]; exact ⟨⟨(by omega : (0:Int) ≤ (s.th : Int)), (by omega : (s.th : Int) ≤ 16)⟩, h.ph⟩
      · exact h.L y hy
    · show (if v = s.ver ∧ s.done = 0 then s.L ++ [((s.th : Int), s.ph)] else s.L).length ≤ s.th + 1
      split
      · simp; omega
      · omega
/-- the cell of its next access -/
def CS.cell (s : CS) (A T : Nat) : Int := match s.at_ with
  | 1 => atI A T 3 s.th
  | 2 => atI A T 4 s.th
  | _ => atI A T 2 s.th
abbrev candG (x : Int × Int) (j : Nat) : Value := if j = 0 then .int .i64 x.1 else .int .u64 x.2
abbrev taskA (o : Nat) (s : CS) (a : Option Addr) (c : Nat) : Array Value := #[.pointer (some ⟨o, 0, none⟩), .int .i64 s.th, .int .i64 s.at_, .int .u64 s.ver, .int .u64 s.done, .int .u64 s.ph, .slice a s.L.length c]
end Go.Proofs.Ytpempcefgfmniaa.MemP

/-
  bowerref26.New: contract: the two numbers, and some rows.
-/
namespace Go.Proofs.Ytpempcefgfmniaa.MemP
open Go.RowKit RefP CellP
set_option linter.unusedVariables false
set_option linter.unusedSimpArgs false
theorem infoCellD : (Try.prog.info? 76).map (fun i => (i.zero, i.size, i.bytes)) = some (some (.agg #[.int .u64 0, .int .u64 0]), 2, 16) := by kernel_rfl
abbrev cellG (x : Int) (j : Nat) : Value := if j = 0 then .int .u64 x else .int .u64 0
abbrev blkG (_ : Unit) (j : Nat) : Value := zb.getD j (.int .i64 0)
abbrev opG (_ : Unit) (j : Nat) : Value := zo.getD j (.int .i64 0)
theorem addCell {w : World} (base : Nat) {a : Option Addr} {c : Nat} {l : List Int} (h : OwnR 2 cellG 0 w base 76 a c l) {b : Nat} (x : Int) (B : Blk w b #[.int .u64 x, .int .u64 0] 76) (hn : l.length + 1 ≤ 60000) (hbase : base ≤ w.heap.size) :
    ∃ g cap w', AddedR Try.prog 2 cellG 0 w base 67 76 a c l (.slice (some ⟨b, 0, none⟩) 1 1) 1 (l ++ [x]) g cap w' := by
  obtain ⟨i0, hi, hz0, hz1, hz2⟩ := info_parts' infoCellD
  have two : ∀ j, j < 2 → j = 0 ∨ j = 1 := by omega
  have hx : RecS 2 cellG 0 w (some ⟨b, 0, none⟩) [x] := rec_lit B x (fun j hj => by rcases two j hj with e | e <;> subst e <;> rfl)
  exact addRecs base _ _ i0 _ 16 Try.underlying67 hi hz0 hz1 hz2 (by simp [Value.cells]) (by omega) (fun _ j hj => by rcases two j hj with e | e <;> subst e <;> rfl) h hx (by simp) (by simp [maxLen]; omega) (by simp; omega) hbase
theorem addBlk {w : World} (base : Nat) {a : Option Addr} {c : Nat} {l : List Unit} (h : OwnR 17 blkG () w base 35 a c l) {b : Nat} (B : Blk w b zb.toArray 35) (hn : l.length + 1 ≤ 60000) (hbase : base ≤ w.heap.size) :
    ∃ g cap w', AddedR Try.prog 17 blkG () w base 45 35 a c l (.slice (some ⟨b, 0, none⟩) 1 1) 1 (l ++ [()]) g cap w' := by
  obtain ⟨i0, hi, hz0, hz1, hz2⟩ := info_parts' infoBlock
  have hx : RecS 17 blkG () w (some ⟨b, 0, none⟩) [()] := rec_lit B () (fun j hj => by rcases lt17 hj with e | e | e | e | e | e | e | e | e | e | e | e | e | e | e | e | e <;> subst e <;> rfl)
  exact addRecs base _ _ i0 _ 272 Try.underlying45 hi hz0 hz1 hz2 (by simp [Value.cells]) (by omega) (fun _ j hj => by rcases lt17 hj with e | e | e | e | e | e | e | e | e | e | e | e | e | e | e | e | e <;> subst e <;> rfl) h hx (by simp) (by simp [maxLen]; omega) (by simp; omega) hbase
theorem addOp {w : World} (base : Nat) {a : Option Addr} {c : Nat} {l : List Unit} (h : OwnR 5 opG () w base 37 a c l) {b : Nat} (B : Blk w b zo.toArray 37) (hn : l.length + 1 ≤ 60000) (hbase : base ≤ w.heap.size) :
    ∃ g cap w', AddedR Try.prog 5 opG () w base 46 37 a c l (.slice (some ⟨b, 0, none⟩) 1 1) 1 (l ++ [()]) g cap w' := by
  obtain ⟨i0, hi, hz0, hz1, hz2⟩ := info_parts' infoOp
  have five : ∀ j, j < 5 → j = 0 ∨ j = 1 ∨ j = 2 ∨ j = 3 ∨ j = 4 := by omega
  have hx : RecS 5 opG () w (some ⟨b, 0, none⟩) [()] := rec_lit B () (fun j hj => by rcases five j hj with e | e | e | e | e <;> subst e <;> rfl)
  exact addRecs base _ _ i0 _ 56 Try.underlying46 hi hz0 hz1 hz2 (by simp [Value.cells]) (by omega) (fun _ j hj => by rcases five j hj with e | e | e | e | e <;> subst e <;> rfl) h hx (by simp) (by simp [maxLen]; omega) (by simp; omega) hbase
/-- own blocks are other ones -/
def Ne2 (v u : Value) : Prop := ∀ q q', v.ownBlock = some q → u.ownBlock = some q' → q ≠ q'
theorem Ne2.kept {v u : Value} (h : Ne2 v u) : u.ownBlock = none ∨ u.ownBlock ≠ v.ownBlock := by
  cases hu : u.ownBlock with
  | none => exact .inl rfl
  | some q => exact .inr (fun e => h q q e.symm hu rfl)
theorem Ne2.symm {v u : Value} (h : Ne2 v u) : Ne2 u v := fun q q' a b e => h q' q b a e.symm
theorem Ne2.grow {v u : Value} {g n c m : Nat} (h : Ne2 v u) (hat : v.ownBlock = some g ∨ g = m) (hu : ∀ q, u.ownBlock = some q → q < m) : Ne2 (.slice (some ⟨g, 0, none⟩) n c) u := by
  intro q q' hq hq' e
  simp only [Value.ownBlock, Option.some.injEq] at hq
  subst hq
  rcases hat with k | k
  · exact h _ _ k hq' e
  · have := hu q' hq'; omega
abbrev dmemA (A T : Int) (a1 : Option Addr) (n1 c1 : Nat) (a2 : Option Addr) (n2 c2 : Nat) (a3 : Option Addr) (n3 c3 : Nat) : Array Value := #[.int .i64 A, .int .i64 T, .slice a1 n1 c1, .slice a2 n2 c2, .slice a3 n3 c3]
/-- while it is made -/
structure DN (w0 : World) (A T : Nat) (a1 : Option Addr) (c1 : Nat) (l1 : List Int) (a2 : Option Addr) (c2 : Nat) (l2 : List Unit) (a3 : Option Addr) (c3 : Nat) (l3 : List Unit) (wr : World) : Prop where
  b : Below w0.heap.size w0 wr
  z : Blk wr w0.heap.size (dmemA 0 0 none 0 0 none 0 0 none 0 0) 69
  m : Blk wr (w0.heap.size + 1) (dmemA A T a1 l1.length c1 a2 l2.length c2 a3 l3.length c3) 69
  o1 : OwnR 2 cellG 0 wr (w0.heap.size + 2) 76 a1 c1 l1
  o2 : OwnR 17 blkG () wr (w0.heap.size + 2) 35 a2 c2 l2
  o3 : OwnR 5 opG () wr (w0.heap.size + 2) 37 a3 c3 l3
  n12 : Ne2 (.slice a1 l1.length c1) (.slice a2 l2.length c2)
  n13 : Ne2 (.slice a1 l1.length c1) (.slice a3 l3.length c3)
  n23 : Ne2 (.slice a2 l2.length c2) (.slice a3 l3.length c3)
theorem DN.below {w0 : World} {A T : Nat} {a1 : Option Addr} {c1 : Nat} {l1 : List Int} {a2 : Option Addr} {c2 : Nat} {l2 : List Unit} {a3 : Option Addr} {c3 : Nat} {l3 : List Unit} {wr wx : World} (h : DN w0 A T a1 c1 l1 a2 c2 l2 a3 c3 l3 wr) (hb : Below wr.heap.size wr wx) : DN w0 A T a1 c1 l1 a2 c2 l2 a3 c3 l3 wx :=
  ⟨below_push2 h.b hb (Nat.le_refl _), h.z.below hb, h.m.below hb, OwnR.below h.o1 hb, OwnR.below h.o2 hb, OwnR.below h.o3 hb, h.n12, h.n13, h.n23⟩
theorem DN.add1 {w0 : World} {A T : Nat} {a1 : Option Addr} {c1 : Nat} {l1 : List Int} {a2 : Option Addr} {c2 : Nat} {l2 : List Unit} {a3 : Option Addr} {c3 : Nat} {l3 : List Unit} {wr : World} (h : DN w0 A T a1 c1 l1 a2 c2 l2 a3 c3 l3 wr) {x : Int} {v : Value} {g' cap : Nat} {w' : World}
    (K : AddedR Try.prog 2 cellG 0 wr (w0.heap.size + 2) 67 76 a1 c1 l1 v 1 (l1 ++ [x]) g' cap w') : DN w0 A T (some ⟨g', 0, none⟩) cap (l1 ++ [x]) a2 c2 l2 a3 c3 l3 (w'.setCell ⟨w0.heap.size + 1, 2, none⟩ (.slice (some ⟨g', 0, none⟩) (l1.length + 1) cap)) := by
  have hgr := K.grown
  have hlt := fun q e => (OwnR.lt h.o1 q e).1
  have hF : Fr [w0.heap.size + 1] w' (w'.setCell ⟨w0.heap.size + 1, 2, none⟩ (.slice (some ⟨g', 0, none⟩) (l1.length + 1) cap)) := (Fr.refl _ _).set _ _ (.inl (by simp))
  have hge := K.ge
  have hs := h.z.lt
  have hs2 := h.m.lt
  have B' := h.m.grown hgr (fun e => by have := hlt _ e.symm; omega)
  have Z' := h.z.grown hgr (fun e => by have := hlt _ e.symm; omega)
  have hown : OwnR 2 cellG 0 (w'.setCell ⟨w0.heap.size + 1, 2, none⟩ (.slice (some ⟨g', 0, none⟩) (l1.length + 1) cap)) (w0.heap.size + 2) 76 (some ⟨g', 0, none⟩) cap (l1 ++ [x]) := OwnR.heap K.own fun q hq => hF.block q (OwnR.lt K.own q hq).2 (by have := (OwnR.lt K.own q hq).1; simp; omega)
  have hb' : Below w0.heap.size w0 w' := K.keeps hlt w0 _ (by omega) h.b (by omega)
  have hat := K.at'
  have k2 := OwnR.kept h.o2 hgr h.n12.kept
  have k3 := OwnR.kept h.o3 hgr h.n13.kept
  have m2 := OwnR.heap k2 fun q hq => hF.block q (OwnR.lt k2 q hq).2 (by have := (OwnR.lt k2 q hq).1; simp; omega)
  have m3 := OwnR.heap k3 fun q hq => hF.block q (OwnR.lt k3 q hq).2 (by have := (OwnR.lt k3 q hq).1; simp; omega)
  refine ⟨hb'.setCell (by show w0.heap.size ≤ w0.heap.size + 1; omega) _, hF.blk Z' (by simp), ?_, hown, m2, m3, h.n12.grow hat (fun q e => (OwnR.lt h.o2 q e).2), h.n13.grow hat (fun q e => (OwnR.lt h.o3 q e).2), h.n23⟩
  have := B'.set 2 (.slice (some ⟨g', 0, none⟩) (l1.length + 1) cap)
  simpa [dmemA] using this
theorem DN.add2 {w0 : World} {A T : Nat} {a1 : Option Addr} {c1 : Nat} {l1 : List Int} {a2 : Option Addr} {c2 : Nat} {l2 : List Unit} {a3 : Option Addr} {c3 : Nat} {l3 : List Unit} {wr : World} (h : DN w0 A T a1 c1 l1 a2 c2 l2 a3 c3 l3 wr) {x : Unit} {v : Value} {g' cap : Nat} {w' : World}
    (K : AddedR Try.prog 17 blkG () wr (w0.heap.size + 2) 45 35 a2 c2 l2 v 1 (l2 ++ [x]) g' cap w') : DN w0 A T a1 c1 l1 (some ⟨g', 0, none⟩) cap (l2 ++ [x]) a3 c3 l3 (w'.setCell ⟨w0.heap.size + 1, 3, none⟩ (.slice (some ⟨g', 0, none⟩) (l2.length + 1) cap)) := by
  have hgr := K.grown
  have hlt := fun q e => (OwnR.lt h.o2 q e).1
  have hF : Fr [w0.heap.size + 1] w' (w'.setCell ⟨w0.heap.size + 1, 3, none⟩ (.slice (some ⟨g', 0, none⟩) (l2.length + 1) cap)) := (Fr.refl _ _).set _ _ (.inl (by simp))
  have hge := K.ge
  have hs := h.z.lt
  have hs2 := h.m.lt
  have B' := h.m.grown hgr (fun e => by have := hlt _ e.symm; omega)
  have Z' := h.z.grown hgr (fun e => by have := hlt _ e.symm; omega)
  have hown : OwnR 17 blkG () (w'.setCell ⟨w0.heap.size + 1, 3, none⟩ (.slice (some ⟨g', 0, none⟩) (l2.length + 1) cap)) (w0.heap.size + 2) 35 (some ⟨g', 0, none⟩) cap (l2 ++ [x]) := OwnR.heap K.own fun q hq => hF.block q (OwnR.lt K.own q hq).2 (by have := (OwnR.lt K.own q hq).1; simp; omega)
  have hb' : Below w0.heap.size w0 w' := K.keeps hlt w0 _ (by omega) h.b (by omega)
  have hat := K.at'
  have k1 := OwnR.kept h.o1 hgr h.n12.symm.kept
  have k3 := OwnR.kept h.o3 hgr h.n23.kept
  have m1 := OwnR.heap k1 fun q hq => hF.block q (OwnR.lt k1 q hq).2 (by have := (OwnR.lt k1 q hq).1; simp; omega)
  have m3 := OwnR.heap k3 fun q hq => hF.block q (OwnR.lt k3 q hq).2 (by have := (OwnR.lt k3 q hq).1; simp; omega)
  refine ⟨hb'.setCell (by show w0.heap.size ≤ w0.heap.size + 1; omega) _, hF.blk Z' (by simp), ?_, m1, hown, m3, (h.n12.symm.grow hat (fun q e => (OwnR.lt h.o1 q e).2)).symm, h.n13, h.n23.grow hat (fun q e => (OwnR.lt h.o3 q e).2)⟩
  have := B'.set 3 (.slice (some ⟨g', 0, none⟩) (l2.length + 1) cap)
  simpa [dmemA] using this
theorem DN.add3 {w0 : World} {A T : Nat} {a1 : Option Addr} {c1 : Nat} {l1 : List Int} {a2 : Option Addr} {c2 : Nat} {l2 : List Unit} {a3 : Option Addr} {c3 : Nat} {l3 : List Unit} {wr : World} (h : DN w0 A T a1 c1 l1 a2 c2 l2 a3 c3 l3 wr) {x : Unit} {v : Value} {g' cap : Nat} {w' : World}
    (K : AddedR Try.prog 5 opG () wr (w0.heap.size + 2) 46 37 a3 c3 l3 v 1 (l3 ++ [x]) g' cap w') : DN w0 A T a1 c1 l1 a2 c2 l2 (some ⟨g', 0, none⟩) cap (l3 ++ [x]) (w'.setCell ⟨w0.heap.size + 1, 4, none⟩ (.slice (some ⟨g', 0, none⟩) (l3.length + 1) cap)) := by
  have hgr := K.grown
  have hlt := fun q e => (OwnR.lt h.o3 q e).1
  have hF : Fr [w0.heap.size + 1] w' (w'.setCell ⟨w0.heap.size + 1, 4, none⟩ (.slice (some ⟨g', 0, none⟩) (l3.length + 1) cap)) := (Fr.refl _ _).set _ _ (.inl (by simp))
  have hge := K.ge
  have hs := h.z.lt
  have hs2 := h.m.lt
  have B' := h.m.grown hgr (fun e => by have := hlt _ e.symm; omega)
  have Z' := h.z.grown hgr (fun e => by have := hlt _ e.symm; omega)
  have hown : OwnR 5 opG () (w'.setCell ⟨w0.heap.size + 1, 4, none⟩ (.slice (some ⟨g', 0, none⟩) (l3.length + 1) cap)) (w0.heap.size + 2) 37 (some ⟨g', 0, none⟩) cap (l3 ++ [x]) := OwnR.heap K.own fun q hq => hF.block q (OwnR.lt K.own q hq).2 (by have := (OwnR.lt K.own q hq).1; simp; omega)
  have hb' : Below w0.heap.size w0 w' := K.keeps hlt w0 _ (by omega) h.b (by omega)
  have hat := K.at'
  have k1 := OwnR.kept h.o1 hgr h.n13.symm.kept
  have k2 := OwnR.kept h.o2 hgr h.n23.symm.kept
  have m1 := OwnR.heap k1 fun q hq => hF.block q (OwnR.lt k1 q hq).2 (by have := (OwnR.lt k1 q hq).1; simp; omega)
  have m2 := OwnR.heap k2 fun q hq => hF.block q (OwnR.lt k2 q hq).2 (by have := (OwnR.lt k2 q hq).1; simp; omega)
  refine ⟨hb'.setCell (by show w0.heap.size ≤ w0.heap.size + 1; omega) _, hF.blk Z' (by simp), ?_, m1, m2, hown, h.n12, (h.n13.symm.grow hat (fun q e => (OwnR.lt h.o1 q e).2)).symm, (h.n23.symm.grow hat (fun q e => (OwnR.lt h.o2 q e).2)).symm⟩
  have := B'.set 4 (.slice (some ⟨g', 0, none⟩) (l3.length + 1) cap)
  simpa [dmemA] using this
end Go.Proofs.Ytpempcefgfmniaa.MemP

/-
  Chapter 27 (hazard): what its functions compute, in plain terms.
-/
namespace Go.Proofs.Ytpempcefgfmniaa.HazP
open RefP
set_option linter.unusedVariables false
set_option linter.unusedSimpArgs false

def memB (xs : List Int) (x : Int) : Bool := decide (x ∈ xs)
theorem memB_iff {xs : List Int} {x : Int} : memB xs x = true ↔ x ∈ xs := by simp [memB]
/-- x is none of the first k -/
def noneTo (xs : List Int) (x : Int) (k : Nat) : Prop := ∀ i, i < k → at0 xs i ≠ x
theorem noneTo_zero (xs : List Int) (x : Int) : noneTo xs x 0 := fun i h => by omega
theorem noneTo_succ {xs : List Int} {x : Int} {k : Nat} (h : noneTo xs x k) (e : at0 xs k ≠ x) : noneTo xs x (k + 1) := fun i hi => by
  by_cases c : i = k
  · subst c; exact e
  · exact h i (by omega)
theorem memB_none {xs : List Int} {x : Int} (h : noneTo xs x xs.length) : memB xs x = false := by
  simp only [memB, decide_eq_false_iff_not]
  intro hm
  obtain ⟨i, hi, e⟩ := List.getElem_of_mem hm
  exact h i hi (by rw [at0_of xs i hi, e])
theorem memB_at {xs : List Int} {x : Int} {k : Nat} (hk : k < xs.length) (e : at0 xs k = x) : memB xs x = true := by
  rw [memB_iff, ← e]; exact at0_mem xs k hk
/-- those of l that stand in named (keep), or do not -/
def siftL (l named : List Int) (keep : Bool) : List Int := l.filter (fun x => memB named x == keep)
theorem siftL_zero (l named : List Int) (keep : Bool) : siftL (l.take 0) named keep = [] := by simp [siftL]
theorem siftL_yes {l named : List Int} {keep : Bool} {k : Nat} (hk : k < l.length) (h : memB named (at0 l k) = keep) : siftL (l.take (k + 1)) named keep = siftL (l.take k) named keep ++ [at0 l k] := by
  rw [take_succ_at0 l k hk]; unfold siftL; rw [List.filter_append]; simp [h]
theorem siftL_no {l named : List Int} {keep : Bool} {k : Nat} (hk : k < l.length) (h : memB named (at0 l k) = !keep) : siftL (l.take (k + 1)) named keep = siftL (l.take k) named keep := by
  rw [take_succ_at0 l k hk]; unfold siftL; rw [List.filter_append]; simp [h]
theorem siftL_length (l named : List Int) (keep : Bool) : (siftL l named keep).length ≤ l.length := List.length_filter_le _ _
theorem siftL_rng {l named : List Int} {keep : Bool} {p : Int → Prop} (h : ∀ x ∈ l, p x) : ∀ x ∈ siftL l named keep, p x := fun x hx => h x (List.mem_filter.1 hx).1
theorem siftL_both (l named : List Int) : (siftL l named true).length + (siftL l named false).length = l.length := by
  unfold siftL
  induction l with
  | nil => rfl
  | cons x l ih =>
    simp only [List.filter_cons]
    cases hm : memB named x
    · simp only [Bool.false_eq_true, beq_iff_eq, Bool.true_eq_false, if_false, if_true, List.length_cons, reduceCtorEq]; omega
    · simp only [Bool.false_eq_true, beq_iff_eq, Bool.true_eq_false, if_false, if_true, List.length_cons, reduceCtorEq]; omega
def roomI (t r : Int) : Int := if t < 1 ∨ 16 < t ∨ r < 1 ∨ 1024 < r then 0 else t * 2 + r
def freedI (w : Int) : Int := if opensB w = true then (if openG w = 4294967295 then useI 2 (openG w) else useI 0 (openG w)) else 18446744073709551615
/-- the words of a row are another's -/
theorem at0_ext {xs ys : List Int} (hl : xs.length = ys.length) (h : ∀ i, i < xs.length → at0 xs i = at0 ys i) : xs = ys := by
  apply List.ext_getElem hl
  intro i h1 h2
  have := h i h1
  rwa [at0_of xs i h1, at0_of ys i h2] at this
end Go.Proofs.Ytpempcefgfmniaa.HazP

/-
  Chapter 27: the pure functions' contracts.
-/
namespace Go.Proofs.Ytpempcefgfmniaa.HazP
open Go.RowKit RefP
set_option linter.unusedVariables false
set_option linter.unusedSimpArgs false

end Go.Proofs.Ytpempcefgfmniaa.HazP

/-
  Chapter 27: sifting.
-/
namespace Go.Proofs.Ytpempcefgfmniaa.HazP
open Go.RowKit RefP
set_option linter.unusedVariables false
set_option linter.unusedSimpArgs false

def SiftAt (w : World) (l nm : List Int) (e : Ending) (w' : World) : Prop :=
  ∃ ya yc na nc, e = .returned (.tuple #[.slice ya (siftL l nm true).length yc, .slice na (siftL l nm false).length nc]) ∧ OwnsU w' w.heap.size ya yc (siftL l nm true) ∧ OwnsU w' w.heap.size na nc (siftL l nm false) ∧ Below w.heap.size w w'
structure PartRel (w wr : World) (l nm : List Int) (k : Nat) (ya : Option Addr) (yc : Nat) (na : Option Addr) (nc : Nat) : Prop where
  b : Below w.heap.size w wr
  Y : OwnsU wr w.heap.size ya yc (siftL (l.take k) nm true)
  N : OwnsU wr w.heap.size na nc (siftL (l.take k) nm false)
  ne : ∀ p q, ya = some p → na = some q → p.block ≠ q.block
theorem own_none {a : Option Addr} {n c m d : Nat} {b : Option Addr} (h : ∀ p q, a = some p → b = some q → p.block ≠ q.block) : (Value.slice a n c).ownBlock = none ∨ (Value.slice a n c).ownBlock ≠ (Value.slice b m d).ownBlock := by
  cases a with
  | none => exact .inl rfl
  | some p =>
    refine .inr ?_
    cases b with
    | none => simp [Value.ownBlock]
    | some q => simpa [Value.ownBlock] using h p q rfl rfl
theorem new_ne {w : World} {base : Nat} {a : Option Addr} {c : Nat} {l : List Int} {b : Option Addr} {d : Nat} {m : List Int} {g H : Nat} (hN : OwnsU w base b d m) (hne : ∀ p q, a = some p → b = some q → p.block ≠ q.block)
    (hat : (Value.slice a l.length c).ownBlock = some g ∨ g = H) (hH : w.heap.size ≤ H) : ∀ p q, some (⟨g, 0, none⟩ : Addr) = some p → b = some q → p.block ≠ q.block := by
  intro p q hp hq
  simp only [Option.some.injEq] at hp
  subst hp hq
  rcases hat with e | e
  · cases a with
    | none => cases e
    | some r =>
      simp only [Value.ownBlock, Option.some.injEq] at e
      subst e
      exact hne r q rfl rfl
  · have := (hN.lt q.block rfl).2
    show g ≠ q.block
    omega

end Go.Proofs.Ytpempcefgfmniaa.HazP

/-
  Chapter 27: the list.
-/
namespace Go.Proofs.Ytpempcefgfmniaa.HazP
open Go.RowKit RefP
set_option linter.unusedVariables false
set_option linter.unusedSimpArgs false

theorem run_append_zero {P : Program} {w : World} {base : Nat} (t ty e : TypeId) (i : TypeInfo) (size : Nat) (ht : P.underlying t = some (.slice e)) (hi : P.info? e = some i)
    (v : Value) (n : Nat) (xs : List Value) (hown : w.ownsRow base e size v n xs) (p : Option Addr) (c' : Nat) :
    (Builtin.append_ #[t, t] ty #[v, .slice p 0 c']).run P w = .ok v w := by
  rcases hown.2 with ⟨rfl, rfl⟩ | ⟨g, cap, cur, rfl, _, _, hnc, _⟩
  · cases p <;> simp [Builtin.append_, run_underlying ht, sizeOf, typeInfo, hi, Builtin.lenOf, Builtin.firstCells, loadCells, loadCellsFrom, Result.andThen]
  · cases p <;> simp [Builtin.append_, run_underlying ht, sizeOf, typeInfo, hi, Builtin.lenOf, Builtin.firstCells, hnc, storeCells, loadCells, loadCellsFrom, Result.andThen]
theorem OwnsU.empty (w : World) (base : Nat) (hb : base ≤ w.heap.size) : OwnsU (w.alloc (.cells #[] 22)) base (some ⟨w.heap.size, 0, none⟩) 0 [] := ⟨Owns.empty _ _ _ _ _ hb, by simp⟩

set_option maxRecDepth 100000 in
set_option maxHeartbeats 800000 in
theorem sclone_any (a : Option Addr) (c : Nat) (l : List Int) (w : World) (h : U64s w a l) (hsm : l.length ≤ 60000) :
    Calls Try.prog 74 #[.slice a l.length c] w (WordsAt w l) := by
  cases ha : a with
  | none =>
    subst ha
    have h0 : l.length = 0 := by
      rcases Nat.eq_zero_or_pos l.length with h0 | h0
      · exact h0
      · obtain ⟨b, off, e, _⟩ := h.row.get h0; cases e
    obtain rfl : l = [] := List.eq_nil_of_length_eq_zero h0
    have hnil : ∀ w, (binOp .eql 24 (.slice none 0 c) (.slice none 0 0)).run Try.prog w = .ok (.bool true) w := fun w => Lib.run_eql_slice_nil w _ _ none 0 c 0 0 Try.underlying24
    go_enter Try.func74, Try.ntmps74
    go_wp2_with fail
    go_ret
    exact ⟨none, 0, rfl, OwnsU.nil _ _, Below.refl _ _⟩
  | some p =>
    subst ha
    have E := OwnsU.empty w w.heap.size (Nat.le_refl _)
    have hB : Below w.heap.size w (w.alloc (.cells #[] 22)) := (Below.refl _ w).alloc (Nat.le_refl _) _
    obtain ⟨i0, hi, hz0, hz1, hz2⟩ := info_parts' infoWord
    by_cases h0 : l.length = 0
    · obtain rfl : l = [] := List.eq_nil_of_length_eq_zero h0
      have hrun := fun ty => run_append_zero (P := Try.prog) 24 ty 22 i0 1 Try.underlying24 hi _ _ _ E.own (some p) c
      have hrun := Lib.hid hrun
      have hnil : ∀ w, (binOp .eql 24 (.slice (some p) 0 c) (.slice none 0 0)).run Try.prog w = .ok (.bool false) w := fun w => Lib.run_eql_slice_nil w _ _ (some p) 0 c 0 0 Try.underlying24
      go_enter Try.func74, Try.ntmps74
      go_wp2_with (at_builtin; refine wpList_append_run hrun.out rfl (by rfl) (by rfl) (by rfl) ?_)
      go_ret
      exact ⟨_, 0, rfl, E, hB⟩
    · obtain ⟨g, cap, w', A⟩ := addAll (w := w.alloc (.cells #[] 22)) w.heap.size E (c' := c) (h.below hB) (by omega) (by simpa using (by omega : l.length ≤ 65536)) (by simp)
      have hrun := Lib.hid A.run
      have AO := A.own
      have AB := A.keeps (fun k e => (E.lt k e).1) w w.heap.size (Nat.le_refl _) hB (by simp)
      simp only [List.nil_append] at AO
      clear A E
      simp only [List.length_nil, Nat.zero_add] at hrun
      have hnil : ∀ w, (binOp .eql 24 (.slice (some p) l.length c) (.slice none 0 0)).run Try.prog w = .ok (.bool false) w := fun w => Lib.run_eql_slice_nil w _ _ (some p) l.length c 0 0 Try.underlying24
      go_enter Try.func74, Try.ntmps74
      go_wp2_with (at_builtin; refine wpList_append_run hrun.out rfl (by rfl) (by rfl) (by rfl) ?_)
      go_ret
      exact ⟨_, cap, rfl, AO, AB⟩

end Go.Proofs.Ytpempcefgfmniaa.HazP

/-
  The first block is got: named, copied, Block, Do: contracts for a block without rows.
-/
namespace Go.Proofs.Ytpempcefgfmniaa.MemP
open Go.RowKit RefP CellP
set_option linter.unusedVariables false
set_option linter.unusedSimpArgs false
/-- the first node, with rows -/
abbrev ndA (k v d : Value) : Array Value := #[.int .i64 0, .string ⟨#[]⟩, .string ⟨#[]⟩, .bool true, .int .i64 (-1), k, v, d]
abbrev nlV : Value := .slice none 0 0
abbrev e0V (b : Nat) : Value := .slice (some ⟨b, 0, none⟩) 0 0
theorem infoStr : (Try.prog.info? 9).map (fun i => (i.zero, i.size, i.bytes)) = some (some (.string ⟨#[]⟩), 1, 16) := by kernel_rfl
theorem infoU64 : (Try.prog.info? 22).map (fun i => (i.zero, i.size, i.bytes)) = some (some (.int .u64 0), 1, 8) := by kernel_rfl
theorem infoI64 : (Try.prog.info? 3).map (fun i => (i.zero, i.size, i.bytes)) = some (some (.int .i64 0), 1, 8) := by kernel_rfl
theorem mk0_string (W : World) : (Instr.makeSlice 23 (.int .i64 0) (.int .i64 0)).run Try.prog W = .ok (.slice (some ⟨W.heap.size, 0, none⟩) 0 0) (W.alloc (.cells #[] 9)) := by
  obtain ⟨i0, hi, hz0, hz1, hz2⟩ := info_parts infoStr
  have hr := run_make (P := Try.prog) W 23 9 i0 _ Try.underlying23 hi hz0 .i64 .i64 0 0 (by omega) (by omega) (by simp) (by omega)
  simpa [madeCells, Array.range_zero'] using hr
theorem mk0_uint64 (W : World) : (Instr.makeSlice 24 (.int .i64 0) (.int .i64 0)).run Try.prog W = .ok (.slice (some ⟨W.heap.size, 0, none⟩) 0 0) (W.alloc (.cells #[] 22)) := by
  obtain ⟨i0, hi, hz0, hz1, hz2⟩ := info_parts infoU64
  have hr := run_make (P := Try.prog) W 24 22 i0 _ Try.underlying24 hi hz0 .i64 .i64 0 0 (by omega) (by omega) (by simp) (by omega)
  simpa [madeCells, Array.range_zero'] using hr
theorem mk0_int (W : World) : (Instr.makeSlice 25 (.int .i64 0) (.int .i64 0)).run Try.prog W = .ok (.slice (some ⟨W.heap.size, 0, none⟩) 0 0) (W.alloc (.cells #[] 3)) := by
  obtain ⟨i0, hi, hz0, hz1, hz2⟩ := info_parts infoI64
  have hr := run_make (P := Try.prog) W 25 3 i0 _ Try.underlying25 hi hz0 .i64 .i64 0 0 (by omega) (by omega) (by simp) (by omega)
  simpa [madeCells, Array.range_zero'] using hr
set_option maxRecDepth 100000 in
set_option maxHeartbeats 3200000 in
theorem nclone_first (w : World) : Calls Try.prog 72 #[.agg (ndA nlV nlV nlV)] w fun e w' => (∃ b1 b2 b3, e = .returned (.agg (ndA (e0V b1) (e0V b2) (e0V b3)))) ∧ Below w.heap.size w w' := by
  have hb0 : Below w.heap.size w ((w.alloc (.cells (ndA nlV nlV nlV) 27)).alloc (.cells #[.int .i64 0, .string ⟨#[]⟩, .string ⟨#[]⟩, .bool false, .int .i64 0, nlV, nlV, nlV] 27)) := by (repeat (first | exact Below.refl _ _ | assumption | refine below_alloc2 ?_ (by first | exact Nat.le_refl _ | omega) _ | refine Below.drew ?_ | refine below_drewN ?_ _ | refine below_push2 ?_ ‹_› (by first | exact Nat.le_refl _ | omega) | refine Below.setCell ?_ (by first | (simp; done) | (simp; omega) | omega) _))
  have BN := (Blk.new w (ndA nlV nlV nlV) 27).alloc (.cells #[.int .i64 0, .string ⟨#[]⟩, .string ⟨#[]⟩, .bool false, .int .i64 0, nlV, nlV, nlV] 27)
  have BR : Blk ((w.alloc (.cells (ndA nlV nlV nlV) 27)).alloc (.cells #[.int .i64 0, .string ⟨#[]⟩, .string ⟨#[]⟩, .bool false, .int .i64 0, nlV, nlV, nlV] 27)) (w.heap.size + 1) #[.int .i64 0, .string ⟨#[]⟩, .string ⟨#[]⟩, .bool false, .int .i64 0, nlV, nlV, nlV] 27 := by
    have := Blk.new (w.alloc (.cells (ndA nlV nlV nlV) 27)) #[.int .i64 0, .string ⟨#[]⟩, .string ⟨#[]⟩, .bool false, .int .i64 0, nlV, nlV, nlV] 27
    simpa using this
  have m1 := mk0_string
  have m2 := mk0_uint64
  have m3 := mk0_int
  go_enter Try.func72, Try.ntmps72
  go_wp2_with fail
  generalize ((w.alloc (.cells (ndA nlV nlV nlV) 27)).alloc (.cells #[.int .i64 0, .string ⟨#[]⟩, .string ⟨#[]⟩, .bool false, .int .i64 0, nlV, nlV, nlV] 27)) = w1 at hb0 BN BR ⊢
  have c5 := BN.at 5 rfl
  have c6 := BN.at 6 rfl
  have c7 := BN.at 7 rfl
  have hs := hb0.size
  go_upto_region 1 with (fail)
  go_cut [3, 4, 5] (fun u3 u4 u5 wx => ∃ b1 b2 b3, u3 = e0V b1 ∧ u4 = e0V b2 ∧ u5 = e0V b3 ∧ Below w.heap.size w wx ∧ Blk wx w.heap.size (ndA nlV nlV nlV) 27 ∧ Blk wx (w.heap.size + 1) #[.int .i64 0, .string ⟨#[]⟩, .string ⟨#[]⟩, .bool false, .int .i64 0, nlV, nlV, nlV] 27)
  case first =>
    go_region_held (fun w' => w'.cell? ⟨w.heap.size, 5, none⟩ = some (.slice none 0 0) ∧ w'.cell? ⟨w.heap.size, 6, none⟩ = some (.slice none 0 0) ∧ w'.cell? ⟨w.heap.size, 7, none⟩ = some (.slice none 0 0)) (first | exact ⟨BN.drew.at 5 rfl, BN.drew.at 6 rfl, BN.drew.at 7 rfl⟩ | exact ⟨(BN.alloc _).drew.at 5 rfl, (BN.alloc _).drew.at 6 rfl, (BN.alloc _).drew.at 7 rfl⟩ | exact ⟨((BN.alloc _).alloc _).drew.at 5 rfl, ((BN.alloc _).alloc _).drew.at 6 rfl, ((BN.alloc _).alloc _).drew.at 7 rfl⟩ | exact ⟨(((BN.alloc _).alloc _).alloc _).drew.at 5 rfl, (((BN.alloc _).alloc _).alloc _).drew.at 6 rfl, (((BN.alloc _).alloc _).alloc _).drew.at 7 rfl⟩) (fail)
    all_goals
      go_wp2_with fail
      go_meet
      exact ⟨_, _, _, rfl, rfl, rfl, (((hb0.alloc hs _).alloc (by simp; omega) _).alloc (by simp; omega) _).drew, (((BN.alloc _).alloc _).alloc _).drew, (((BR.alloc _).alloc _).alloc _).drew⟩
  case rest =>
    obtain ⟨b1, b2, b3, rfl, rfl, rfl, hb2, B2, R2⟩ := hcut
    clear hb0 BN BR c5 c6 c7 hs m1 m2 m3
    have c5 := B2.at 5 rfl
    have c6 := B2.at 6 rfl
    have c7 := B2.at 7 rfl
    have f5 := B2.free 5
    have f6 := B2.free 6
    have f7 := B2.free 7
    go_wp2_with fail
    rw [show (Builtin.copy_ #[23, 23] 3 #[e0V b1, nlV]).run Try.prog wc = .ok (goInt 0) wc from run_copy_none wc _ _ _ 9 _ _ 0 0 0 0 Try.underlying23 (by kernel_rfl) rfl]
    go_wp2_with fail
    rw [show (Builtin.copy_ #[24, 24] 3 #[e0V b2, nlV]).run Try.prog wc = .ok (goInt 0) wc from run_copy_none wc _ _ _ 22 _ _ 0 0 0 0 Try.underlying24 (by kernel_rfl) rfl]
    go_wp2_with fail
    rw [show (Builtin.copy_ #[25, 25] 3 #[e0V b3, nlV]).run Try.prog wc = .ok (goInt 0) wc from run_copy_none wc _ _ _ 3 _ _ 0 0 0 0 Try.underlying25 (by kernel_rfl) rfl]
    have BF : Blk (((wc.setCell ⟨w.heap.size, 5, none⟩ (e0V b1)).setCell ⟨w.heap.size, 6, none⟩ (e0V b2)).setCell ⟨w.heap.size, 7, none⟩ (e0V b3)) w.heap.size (ndA (e0V b1) (e0V b2) (e0V b3)) 27 := by
      simpa [ndA] using ((B2.set 5 (e0V b1)).set 6 (e0V b2)).set 7 (e0V b3)
    have RF := ((R2.far ⟨w.heap.size, 5, none⟩ (e0V b1) (by show w.heap.size + 1 ≠ w.heap.size; omega)).far ⟨w.heap.size, 6, none⟩ (e0V b2) (by show w.heap.size + 1 ≠ w.heap.size; omega)).far ⟨w.heap.size, 7, none⟩ (e0V b3) (by show w.heap.size + 1 ≠ w.heap.size; omega)
    have hbF := ((hb2.setCell (p := ⟨w.heap.size, 5, none⟩) (Nat.le_refl _) (e0V b1)).setCell (p := ⟨w.heap.size, 6, none⟩) (Nat.le_refl _) (e0V b2)).setCell (p := ⟨w.heap.size, 7, none⟩) (Nat.le_refl _) (e0V b3)
    go_wp2_with (first
      | (refine wpList_load_row rfl 27 _ rfl w.heap.size rfl 27 _ (0, 0) _ BF.h Try.underlying27 rfl (by kernel_rfl) ?_)
      | (refine wpList_store_row rfl 27 _ _ rfl (w.heap.size + 1) _ rfl rfl 27 _ RF.h (by kernel_rfl) (by rfl) (by kernel_rfl) ?_))
    refine bodyPost_ret (results_cell_row rfl _ _ (w.heap.size + 1) 27 (ndA (e0V b1) (e0V b2) (e0V b3)) (0, 0) _ rfl (Blk.row RF (ndA (e0V b1) (e0V b2) (e0V b3))).h Try.underlying27 rfl (by kernel_rfl)) rfl ⟨⟨b1, b2, b3, rfl⟩, below_setRow hbF (by omega) _⟩
end Go.Proofs.Ytpempcefgfmniaa.MemP

/-
  claim: Cost; tasks that are none: contracts.
-/
namespace Go.Proofs.Ytpempcefgfmniaa.MemP
open Go.RowKit RefP CellP
set_option linter.unusedVariables false
set_option linter.unusedSimpArgs false
abbrev clA (m : Option Addr) (ws : Value) (many place seen : Int) (ld : Bool) (word ver : Int) : Array Value := #[.pointer m, ws, .int .i64 many, .int .i64 place, .int .i64 seen, .bool ld, .int .u64 word, .int .u64 ver]
def costI (a m : Int) : Int := if (1 ≤ a ∧ a ≤ 8192) ∧ 1 ≤ m ∧ m ≤ 8192 then 2 * a * m else 0
theorem exOpenP : openP 16385 = 0 := by decide +kernel
theorem exOpens : opensB 16385 = true := by decide +kernel
end Go.Proofs.Ytpempcefgfmniaa.MemP

/-
  The first block is got: copied, named, Block, Do.
-/
namespace Go.Proofs.Ytpempcefgfmniaa.MemP
open Go.RowKit RefP CellP
set_option linter.unusedVariables false
set_option linter.unusedSimpArgs false
/-- cells of a block behind a store of some -/
def setsA (cs : Array Value) : Nat → List Value → Array Value
  | _, [] => cs
  | o, v :: r => setsA (cs.setIfInBounds o v) (o + 1) r
theorem blk_sets {b : Nat} {T : TypeId} : ∀ (vs : List Value) (o : Nat) (w : World) (cs : Array Value), Blk w b cs T → Blk (w.setCells b o vs) b (setsA cs o vs) T
  | [], _, _, _, h => h
  | v :: r, o, w, cs, h => blk_sets r (o + 1) _ _ (h.set o v)
theorem fr_sets {S : List Nat} {b : Nat} (hb : b ∈ S) : ∀ (vs : List Value) (o : Nat) (w : World), Fr S w (w.setCells b o vs)
  | [], _, _ => Fr.refl _ _
  | v :: r, o, w => ((Fr.refl _ _).set _ _ (.inl hb)).trans (fr_sets hb r (o + 1) _)
theorem below_sets {B b : Nat} {w0 : World} (hb : B ≤ b) : ∀ (vs : List Value) (o : Nat) (w : World), Below B w0 w → Below B w0 (w.setCells b o vs)
  | [], _, _, h => h
  | v :: r, o, w, h => below_sets hb r (o + 1) _ (h.setCell (p := ⟨b, o, none⟩) hb v)
theorem there_blk {w : World} {b o n : Nat} {cs : Array Value} {T : TypeId} (h : Blk w b cs T) (hn : o + n ≤ cs.size) : w.there b o n := fun j hj => by
  refine ⟨?_, h.free _⟩
  rw [h.at (o + j) (Array.getElem?_eq_getElem (show o + j < cs.size by omega))]; rfl
/-- the first block, with rows -/
abbrev bkA (k v d : Value) : Array Value := #[.int .i64 1, .int .i64 0, .string ⟨#[]⟩, .string ⟨#[]⟩, .bool true, .int .i64 (-1), k, v, d, .int .i64 0, .int .i64 0, .string ⟨#[]⟩, .int .u64 0, nlV, nlV, nlV, nlV]
theorem setsA_bk (k v d : Value) : setsA (bkA nlV nlV nlV) 1 (ndA k v d).toList = bkA k v d := by
  simp [setsA, bkA, ndA]
set_option maxRecDepth 100000 in
set_option maxHeartbeats 800000 in
theorem stepc_nil (w : World) : Calls Try.prog 73 #[.slice none 0 0] w fun e w' => e = .returned (.slice none 0 0) ∧ w = w' := by
  have hnil : ∀ w, (binOp .eql 31 (.slice none 0 0) (.slice none 0 0)).run Try.prog w = .ok (.bool true) w := fun w => Lib.run_eql_slice_nil w _ _ none 0 0 0 0 Try.underlying31
  go_enter Try.func73, Try.ntmps73
  go_wp2_with fail
  go_ret
  exact ⟨rfl, rfl⟩
set_option maxRecDepth 100000 in
set_option maxHeartbeats 800000 in
theorem wordc_nil (w : World) : Calls Try.prog 74 #[.slice none 0 0] w fun e w' => e = .returned (.slice none 0 0) ∧ w = w' := by
  have hnil : ∀ w, (binOp .eql 24 (.slice none 0 0) (.slice none 0 0)).run Try.prog w = .ok (.bool true) w := fun w => Lib.run_eql_slice_nil w _ _ none 0 0 0 0 Try.underlying24
  go_enter Try.func74, Try.ntmps74
  go_wp2_with fail
  go_ret
  exact ⟨rfl, rfl⟩
set_option maxRecDepth 100000 in
set_option maxHeartbeats 800000 in
theorem pairc_nil (w : World) : Calls Try.prog 75 #[.slice none 0 0] w fun e w' => e = .returned (.slice none 0 0) ∧ w = w' := by
  have hnil : ∀ w, (binOp .eql 28 (.slice none 0 0) (.slice none 0 0)).run Try.prog w = .ok (.bool true) w := fun w => Lib.run_eql_slice_nil w _ _ none 0 0 0 0 Try.underlying28
  go_enter Try.func75, Try.ntmps75
  go_wp2_with fail
  go_ret
  exact ⟨rfl, rfl⟩
set_option maxRecDepth 100000 in
set_option maxHeartbeats 3200000 in
theorem copied_first (w : World) : Calls Try.prog 49 #[.agg (bkA nlV nlV nlV)] w fun e w' => (∃ b1 b2 b3, e = .returned (.agg (bkA (e0V b1) (e0V b2) (e0V b3)))) ∧ Below w.heap.size w w' := by
  have hb0 : Below w.heap.size w ((w.alloc (.cells (bkA nlV nlV nlV) 35)).alloc (.cells #[.int .i64 0, .int .i64 0, .string ⟨#[]⟩, .string ⟨#[]⟩, .bool false, .int .i64 0, nlV, nlV, nlV, .int .i64 0, .int .i64 0, .string ⟨#[]⟩, .int .u64 0, nlV, nlV, nlV, nlV] 35)) := by (repeat (first | exact Below.refl _ _ | assumption | refine below_alloc2 ?_ (by first | exact Nat.le_refl _ | omega) _ | refine Below.drew ?_ | refine below_drewN ?_ _ | refine below_push2 ?_ ‹_› (by first | exact Nat.le_refl _ | omega) | refine Below.setCell ?_ (by first | (simp; done) | (simp; omega) | omega) _))
  have BB := (Blk.new w (bkA nlV nlV nlV) 35).alloc (.cells #[.int .i64 0, .int .i64 0, .string ⟨#[]⟩, .string ⟨#[]⟩, .bool false, .int .i64 0, nlV, nlV, nlV, .int .i64 0, .int .i64 0, .string ⟨#[]⟩, .int .u64 0, nlV, nlV, nlV, nlV] 35)
  have BR : Blk ((w.alloc (.cells (bkA nlV nlV nlV) 35)).alloc (.cells #[.int .i64 0, .int .i64 0, .string ⟨#[]⟩, .string ⟨#[]⟩, .bool false, .int .i64 0, nlV, nlV, nlV, .int .i64 0, .int .i64 0, .string ⟨#[]⟩, .int .u64 0, nlV, nlV, nlV, nlV] 35)) (w.heap.size + 1) #[.int .i64 0, .int .i64 0, .string ⟨#[]⟩, .string ⟨#[]⟩, .bool false, .int .i64 0, nlV, nlV, nlV, .int .i64 0, .int .i64 0, .string ⟨#[]⟩, .int .u64 0, nlV, nlV, nlV, nlV] 35 := by
    have := Blk.new (w.alloc (.cells (bkA nlV nlV nlV) 35)) #[.int .i64 0, .int .i64 0, .string ⟨#[]⟩, .string ⟨#[]⟩, .bool false, .int .i64 0, nlV, nlV, nlV, .int .i64 0, .int .i64 0, .string ⟨#[]⟩, .int .u64 0, nlV, nlV, nlV, nlV] 35
    simpa using this
  go_enter Try.func49, Try.ntmps49
  go_wp2_with fail
  generalize ((w.alloc (.cells (bkA nlV nlV nlV) 35)).alloc (.cells #[.int .i64 0, .int .i64 0, .string ⟨#[]⟩, .string ⟨#[]⟩, .bool false, .int .i64 0, nlV, nlV, nlV, .int .i64 0, .int .i64 0, .string ⟨#[]⟩, .int .u64 0, nlV, nlV, nlV, nlV] 35)) = w1 at hb0 BB BR ⊢
  refine (nclone_first _).mono ?_
  rintro e w2 ⟨⟨b1, b2, b3, rfl⟩, hb2⟩
  have BB2 := BB.below hb2
  have BR2 := BR.below hb2
  have hB2 := below_push2 hb0 hb2 (Nat.le_refl _)
  have hth := there_blk (o := 1) (n := 8) BB2 (by decide)
  clear hb0 BB BR hb2
  go_upto_region 2 with (refine wpList_store_mid rfl 27 _ _ rfl w.heap.size 1 (ndA (e0V b1) (e0V b2) (e0V b3)) rfl rfl hth (by kernel_rfl) (by kernel_rfl) ?_)
  have BB3 := blk_sets (ndA (e0V b1) (e0V b2) (e0V b3)).toList 1 _ _ BB2
  rw [setsA_bk] at BB3
  have BR3 := (fr_sets (S := [w.heap.size]) (b := w.heap.size) (by simp) (ndA (e0V b1) (e0V b2) (e0V b3)).toList 1 w2).blk BR2 (by simp)
  have hB3 := below_sets (b := w.heap.size) (Nat.le_refl _) (ndA (e0V b1) (e0V b2) (e0V b3)).toList 1 _ hB2
  generalize w2.setCells w.heap.size 1 (ndA (e0V b1) (e0V b2) (e0V b3)).toList = w3 at BB3 BR3 hB3 ⊢
  clear hth BB2 BR2 hB2
  have c13 := BB3.at 13 rfl
  have c14 := BB3.at 14 rfl
  have c15 := BB3.at 15 rfl
  have c16 := BB3.at 16 rfl
  have f13 := BB3.free 13
  have f14 := BB3.free 14
  have f15 := BB3.free 15
  have f16 := BB3.free 16
  have s13 := setCell_self (i := 13) (v := .slice none 0 0) BB3 rfl
  have s14 := setCell_self (i := 14) (v := .slice none 0 0) BB3 rfl
  have s15 := setCell_self (i := 15) (v := .slice none 0 0) BB3 rfl
  have s16 := setCell_self (i := 16) (v := .slice none 0 0) BB3 rfl
  go_wp2_with fail
  refine (stepc_nil _).mono ?_
  rintro e w4 ⟨rfl, rfl⟩
  go_wp2_with fail
  try rw [s14]
  refine (wordc_nil _).mono ?_
  rintro e w4 ⟨rfl, rfl⟩
  go_wp2_with fail
  try rw [s15]
  refine (pairc_nil _).mono ?_
  rintro e w4 ⟨rfl, rfl⟩
  go_wp2_with fail
  try rw [s13]
  refine (pairc_nil _).mono ?_
  rintro e w4 ⟨rfl, rfl⟩
  go_wp2_with (first
    | (refine wpList_load_row rfl 35 _ rfl w.heap.size rfl 35 _ (0, 0) _ BB3.h Try.underlying35 rfl (by kernel_rfl) ?_)
    | (refine wpList_store_row rfl 35 _ _ rfl (w.heap.size + 1) _ rfl rfl 35 _ BR3.h (by kernel_rfl) (by rfl) (by kernel_rfl) ?_))
  refine bodyPost_ret (results_cell_row rfl _ _ (w.heap.size + 1) 35 (bkA (e0V b1) (e0V b2) (e0V b3)) (0, 0) _ rfl (Blk.row BR3 (bkA (e0V b1) (e0V b2) (e0V b3))).h Try.underlying35 rfl (by kernel_rfl)) rfl ⟨⟨b1, b2, b3, rfl⟩, below_setRow hB3 (by omega) _⟩
theorem g1 : openG 16385 = 1 := by decide +kernel
set_option maxHeartbeats 1600000 in
theorem named_first {o oc g gb gr A T : Nat} {L : List (Int × Int)} {bs rs : List (List Value)} (w : World) (h : MemAt w o oc g gb gr A T L bs rs) (hu : loadW L (atI A T 1 0) = useI 1 1) : Calls Try.prog 48 #[.pointer (some ⟨o, 0, none⟩), .int .u64 16385] w fun e w' => e = .returned (.tuple #[.int .i64 0, .bool true]) ∧ Below w.heap.size w w' := by
  have hA := h.a1
  have q1 : decide ((A : Int) ≤ 0) = false := by simp; omega
  have hA1 : (1 : Int) ≤ (A : Int) := by omega
  go_enter Try.func48, Try.ntmps48
  go_wp2_with fail
  refine (open_any 16385 _ (by omega) (by omega)).mono ?_
  rw [exOpenP, exOpens, g1]
  rintro e w1 ⟨rfl, hb1⟩
  replace h := h.below hb1
  go_wp2_with fail
  refine (arena_any _ h).mono ?_
  rintro e w2 ⟨rfl, rfl⟩
  go_wp2_with fail
  refine (muse_any 0 _ h (by omega) (by omega)).mono ?_
  rintro e w2 ⟨rfl, hb2⟩
  replace h := h.below hb2
  have hB2 := below_push2 hb1 hb2 (Nat.le_refl _)
  go_wp2_with fail
  refine (mload_any _ _ h).mono ?_
  rw [hu]
  rintro e w3 ⟨rfl, hb3⟩
  have hB3 := below_push2 hB2 hb3 (Nat.le_refl _)
  go_wp2_with fail
  refine (use_any 1 1 _ (by omega) (by omega) (by omega) (by omega)).mono ?_
  rintro e w4 ⟨rfl, rfl⟩
  go_wp2_with fail
  go_ret2
  exact ⟨rfl, hB3⟩
set_option maxRecDepth 100000 in
set_option maxHeartbeats 3200000 in
theorem block_first {o oc g gb gr A T : Nat} {L : List (Int × Int)} {bs rs : List (List Value)} (w : World) (h : MemAt w o oc g gb gr A T L bs rs) (hu : loadW L (atI A T 1 0) = useI 1 1) (h0 : bs.getD 0 [] = eb) : Calls Try.prog 13 #[.pointer (some ⟨o, 0, none⟩), .int .u64 16385] w fun e w' => (∃ b1 b2 b3, e = .returned (.tuple #[.agg (bkA (e0V b1) (e0V b2) (e0V b3)), .bool true])) ∧ Below w.heap.size w w' := by
  have hb0 : Below w.heap.size w (w.alloc (.cells #[.int .i64 0, .int .i64 0, .string ⟨#[]⟩, .string ⟨#[]⟩, .bool false, .int .i64 0, nlV, nlV, nlV, .int .i64 0, .int .i64 0, .string ⟨#[]⟩, .int .u64 0, nlV, nlV, nlV, nlV] 35)) := by (repeat (first | exact Below.refl _ _ | assumption | refine below_alloc2 ?_ (by first | exact Nat.le_refl _ | omega) _ | refine Below.drew ?_ | refine below_drewN ?_ _ | refine below_push2 ?_ ‹_› (by first | exact Nat.le_refl _ | omega) | refine Below.setCell ?_ (by first | (simp; done) | (simp; omega) | omega) _))
  have hA := h.a1
  have hA1 : (0 : Int) < (A : Int) := by omega
  go_enter Try.func13, Try.ntmps13
  go_wp2_with fail
  refine (named_first _ (h.below hb0) hu).mono ?_
  rintro e w1 ⟨rfl, hb1⟩
  have hB1 := below_push2 hb0 hb1 (Nat.le_refl _)
  have BR := (Blk.new w #[.int .i64 0, .int .i64 0, .string ⟨#[]⟩, .string ⟨#[]⟩, .bool false, .int .i64 0, nlV, nlV, nlV, .int .i64 0, .int .i64 0, .string ⟨#[]⟩, .int .u64 0, nlV, nlV, nlV, nlV] 35).below hb1
  have h1 := (h.below hb0).below hb1
  have d9 : w1.cell? ⟨o, 9, none⟩ = some (.slice (some ⟨gb, 0, none⟩) A A) := h1.head.at 9 rfl
  have hr : w1.rangeAt gb 0 (bkA nlV nlV nlV).toList := by
    intro j v hj
    have hj17 : j < 17 := by
      by_cases e : j < 17
      · exact e
      · rw [List.getElem?_eq_none (by simp; omega)] at hj; cases hj
    rw [Nat.zero_add, h1.blocks.at j (raw_at0 bs (by rw [h1.lb]; omega) j hj17), h0]
    rcases lt17 hj17 with e | e | e | e | e | e | e | e | e | e | e | e | e | e | e | e | e <;> subst e <;> simpa [rawF, eb] using hj
  clear hb0 hb1 h1
  go_wp2_with (refine wpList_load_mid rfl 35 _ rfl gb 0 rfl (bkA nlV nlV nlV).toList _ hr Try.underlying35 rfl (by kernel_rfl) ?_)
  refine (copied_first _).mono ?_
  rintro e w2 ⟨⟨b1, b2, b3, rfl⟩, hb2⟩
  have hB2 := below_push2 hB1 hb2 (Nat.le_refl _)
  replace BR := BR.below hb2
  go_wp2_with (refine wpList_store_row rfl 35 _ _ rfl w.heap.size _ rfl rfl 35 _ BR.h (by kernel_rfl) (by rfl) (by kernel_rfl) ?_)
  refine bodyPost_ret (v := .tuple #[.agg (bkA (e0V b1) (e0V b2) (e0V b3)), .bool true]) (results_cell_tmp rfl _ _ w.heap.size 35 (bkA (e0V b1) (e0V b2) (e0V b3)) (0, 0) _ (.bool true) rfl rfl (Blk.row BR (bkA (e0V b1) (e0V b2) (e0V b3))).h Try.underlying35 rfl (by kernel_rfl)) rfl ⟨⟨b1, b2, b3, rfl⟩, below_setRow hB2 (by omega) _⟩
end Go.Proofs.Ytpempcefgfmniaa.MemP

/-
  bowerref26.New: the walk.
-/
namespace Go.Proofs.Ytpempcefgfmniaa.MemP
open Go.RowKit RefP CellP
set_option linter.unusedVariables false
set_option linter.unusedSimpArgs false
/-- an owned row that is not empty: its block -/
theorem own_block {α : Type} {k : Nat} {f : α → Nat → Value} {d : α} {w : World} {base : Nat} {e : TypeId} {a : Option Addr} {c : Nat} {l : List α} (h : OwnR k f d w base e a c l) (h0 : 0 < l.length) : ∃ g cur, a = some ⟨g, 0, none⟩ ∧ base ≤ g ∧ Blk w g cur e ∧ l.length * k ≤ cur.size := by
  rcases h.own.2 with q | ⟨g, cap, cur, e', hg, hh, hn, hm, hs, r⟩
  · have := q.2; omega
  · injection e' with e1 e2 e3
    refine ⟨g, cur, e1, hg, ⟨hh⟩, ?_⟩
    rw [hs]
    exact Nat.mul_le_mul_right _ hn
set_option maxRecDepth 100000 in
set_option maxHeartbeats 6400000 in
theorem dmnew (A T : Nat) (gen : Int) (w : World) (hA1 : 1 ≤ A) (hA2 : A ≤ 8192) (hT1 : 1 ≤ T) (hT2 : T ≤ 16) (g0 : 0 ≤ gen) (g1 : gen < 4294967295) :
    Calls Try.prog 29 #[.int .i64 A, .int .i64 T, .int .u64 gen] w fun e w' => (∃ a1 n1 c1 a2 n2 c2 a3 n3 c3, e = .returned (.agg (dmemA A T a1 n1 c1 a2 n2 c2 a3 n3 c3))) ∧ Below w.heap.size w w' := by
  go_enter Try.func29, Try.ntmps29
  go_wp2_with fail
  have R0 : DN w A T none 0 [] none 0 [] none 0 [] ((w.alloc (.cells (dmemA 0 0 none 0 0 none 0 0 none 0 0) 69)).alloc (.cells (dmemA A T none 0 0 none 0 0 none 0 0) 69)) := by
    refine ⟨by (repeat (first | exact Below.refl _ _ | assumption | refine below_alloc2 ?_ (by first | exact Nat.le_refl _ | omega) _ | refine Below.drew ?_ | refine below_drewN ?_ _ | refine below_push2 ?_ ‹_› (by first | exact Nat.le_refl _ | omega) | refine Below.setCell ?_ (by first | (simp; done) | (simp; omega) | omega) _)), (Blk.new w _ _).alloc _, ?_, OwnR.nil _ _ _ _ _ _, OwnR.nil _ _ _ _ _ _, OwnR.nil _ _ _ _ _ _, fun q q' h => by simp [Value.ownBlock] at h, fun q q' h => by simp [Value.ownBlock] at h, fun q q' h => by simp [Value.ownBlock] at h⟩
    have := Blk.new (w.alloc (.cells (dmemA 0 0 none 0 0 none 0 0 none 0 0) 69)) (dmemA A T none 0 0 none 0 0 none 0 0) 69
    simpa using this
  go_loopw [8] (fun i wr => ∃ k : Nat, k ≤ A ∧ i = .int .i64 k ∧ ∃ a1 c1 l1 a2 c2 l2, (k ≤ l1.length ∧ l1.length ≤ k) ∧ (k ≤ l2.length ∧ l2.length ≤ k) ∧ DN w A T a1 c1 l1 a2 c2 l2 none 0 [] wr) (fun i _ => A - (intOf i).toNat)
  case atStart => exact ⟨0, Nat.zero_le _, rfl, none, 0, [], none, 0, [], by simp, by simp, R0⟩
  case round =>
    clear R0
    obtain ⟨k, hk, rfl, a1, c1, l1, a2, c2, l2, hl1, hl2, R⟩ := hrel
    by_cases hlt : k < A
    · have hlt' : (k : Int) < (A : Int) := by omega
      have m2 : wr.cell? ⟨w.heap.size + 1, 2, none⟩ = some (.slice a1 l1.length c1) := R.m.at 2 rfl
      have hb1 : Below wr.heap.size wr (wr.alloc (.cells #[.int .u64 0, .int .u64 0] 76)) := (Below.refl _ wr).alloc (Nat.le_refl _) _
      have Ra1 := R.below hb1
      obtain ⟨gq1, cq1, wq1, K1⟩ := addCell (w.heap.size + 2) Ra1.o1 0 (Blk.new wr #[.int .u64 0, .int .u64 0] 76) (by omega) (by have := Ra1.m.lt; omega)
      have hrun1 := Lib.hid K1.run
      have Rb1 := Ra1.add1 K1
      have hlq1 := OwnR.lt Ra1.o1
      have Bq1 := Ra1.m.grown K1.grown (fun e => by have := (hlq1 _ e.symm).1; omega)
      have hml1 := R.m.lt
      clear K1 hlq1
      have x2 := Bq1.at 2 rfl
      have y2 := Bq1.free 2
      go_upto_region 6 with (at_builtin; refine wpList_append_run hrun1.out rfl (by rfl) (by rfl) (by rfl) ?_)
      generalize wq1.setCell ⟨w.heap.size + 1, 2, none⟩ (.slice (some ⟨gq1, 0, none⟩) (l1.length + 1) cq1) = wx at Rb1 ⊢
      clear hrun1 x2 y2 Bq1 Ra1 R m2 hb1 hml1
      have m3 : wx.cell? ⟨w.heap.size + 1, 3, none⟩ = some (.slice a2 l2.length c2) := Rb1.m.at 3 rfl
      have hb2 : Below wx.heap.size wx (wx.alloc (.cells zb.toArray 35)) := (Below.refl _ wx).alloc (Nat.le_refl _) _
      have Ra2 := Rb1.below hb2
      obtain ⟨gq2, cq2, wq2, K2⟩ := addBlk (w.heap.size + 2) Ra2.o2  (Blk.new wx zb.toArray 35) (by omega) (by have := Ra2.m.lt; omega)
      have hrun2 := Lib.hid K2.run
      have Rb2 := Ra2.add2 K2
      have hlq2 := OwnR.lt Ra2.o2
      have Bq2 := Ra2.m.grown K2.grown (fun e => by have := (hlq2 _ e.symm).1; omega)
      have hml2 := Rb1.m.lt
      clear K2 hlq2
      have x3 := Bq2.at 3 rfl
      have y3 := Bq2.free 3
      go_wp2_with (at_builtin; refine wpList_append_run hrun2.out rfl (by rfl) (by rfl) (by rfl) ?_)
      go_roundw
      case rel => exact ⟨k + 1, by omega, by go_num, _, _, _, _, _, _, by simp; omega, by simp; omega, Rb2⟩
      case measure => simp [intOf]; omega
    · obtain rfl : k = A := by omega
      clear hlt
      have hu : 0 ≤ useI 0 gen ∧ useI 0 gen ≤ 18446744073709551615 := by unfold useI topW; split <;> omega
      go_wp2_with fail
      go_loopw [9] (fun i wr => ∃ k' : Nat, k' ≤ k ∧ i = .int .i64 k' ∧ ∃ a1 c1 l1, (k + k' ≤ l1.length ∧ l1.length ≤ k + k') ∧ DN w k T a1 c1 l1 a2 c2 l2 none 0 [] wr) (fun i _ => k - (intOf i).toNat)
      case atStart => exact ⟨0, Nat.zero_le _, rfl, _, _, l1, by omega, R⟩
      case round =>
        clear R
        obtain ⟨k', hk', rfl, a1, c1, l1, hl1, R⟩ := hrel
        by_cases hlt : k' < k
        · have hlt' : (k' : Int) < (k : Int) := by omega
          have m2 : wr.cell? ⟨w.heap.size + 1, 2, none⟩ = some (.slice a1 l1.length c1) := R.m.at 2 rfl
          have hd : Below wr.heap.size wr wr.drew := (Below.refl _ _).drew
          have hb1 : Below wr.heap.size wr ((wr.alloc (.cells #[.int .u64 (useI 0 gen), .int .u64 0] 76)).drew) := ((Below.refl _ wr).alloc (Nat.le_refl _) _).drew
          have Ra := R.below hb1
          obtain ⟨gq, cq, wq, K⟩ := addCell (w.heap.size + 2) Ra.o1 (useI 0 gen) (Blk.new wr #[.int .u64 (useI 0 gen), .int .u64 0] 76).drew (by omega) (by have := Ra.m.lt; omega)
          have hrun := Lib.hid K.run
          have Rb := Ra.add1 K
          have hlq := OwnR.lt Ra.o1
          have Bq := Ra.m.grown K.grown (fun e => by have := (hlq _ e.symm).1; omega)
          have x2 := Bq.at 2 rfl
          have y2 := Bq.free 2
          have hml := R.m.lt
          have hus := duse_any 0 gen wr.drew (by omega) (by omega) (by omega) (by omega)
          clear K hlq Bq Ra hb1
          go_upto_region 10 with (fail)
          go_region_law (first
            | ((with_reducible (show @ite _ _ _ (Oper.wp _ _ _ ((wr.alloc (.cells #[.int .u64 (useI 0 gen), .int .u64 0] 76)).drew) _ _) _)); refine step_append_run hrun.out rfl (by rfl) (by rfl) (by rfl) ?_)
            | (go_simp; go_at_call 42; refine hus.mono ?_; rintro e wx ⟨rfl, rfl⟩))
          all_goals
            go_wp2_with fail
            go_roundw
            case rel => exact ⟨k' + 1, by omega, by go_num, _, _, _, by simp; omega, Rb⟩
            case measure => simp [intOf]; omega
        · obtain rfl : k' = k := by omega
          clear hlt hu
          have hw5 : IntKind.i64.wrap (5 * (T : Int)) = 5 * (T : Int) := by rw [IntKind.wrap_i64]; omega
          have hw6 : IntKind.i64.wrap (5 * (T : Int) + 1) = 5 * (T : Int) + 1 := by rw [IntKind.wrap_i64]; omega
          go_wp2_with fail
          go_loopw [10] (fun i wr => ∃ j : Nat, j ≤ 5 * T + 1 ∧ i = .int .i64 j ∧ ∃ a1 c1 l1, (k' + k' + j ≤ l1.length ∧ l1.length ≤ k' + k' + j) ∧ DN w k' T a1 c1 l1 a2 c2 l2 none 0 [] wr) (fun i _ => 5 * T + 1 - (intOf i).toNat)
          case atStart => exact ⟨0, Nat.zero_le _, rfl, _, _, l1, by omega, R⟩
          case round =>
            clear R
            obtain ⟨j, hj, rfl, a1, c1, l1, hl1, R⟩ := hrel
            by_cases hlt : j < 5 * T + 1
            · have hlt' : (j : Int) < 5 * (T : Int) + 1 := by omega
              have m2 : wr.cell? ⟨w.heap.size + 1, 2, none⟩ = some (.slice a1 l1.length c1) := R.m.at 2 rfl
              have hb1 : Below wr.heap.size wr (wr.alloc (.cells #[.int .u64 0, .int .u64 0] 76)) := (Below.refl _ wr).alloc (Nat.le_refl _) _
              have Ra1 := R.below hb1
              obtain ⟨gq1, cq1, wq1, K1⟩ := addCell (w.heap.size + 2) Ra1.o1 0 (Blk.new wr #[.int .u64 0, .int .u64 0] 76) (by omega) (by have := Ra1.m.lt; omega)
              have hrun1 := Lib.hid K1.run
              have Rb1 := Ra1.add1 K1
              have hlq1 := OwnR.lt Ra1.o1
              have Bq1 := Ra1.m.grown K1.grown (fun e => by have := (hlq1 _ e.symm).1; omega)
              have hml1 := R.m.lt
              clear K1 hlq1
              have x2 := Bq1.at 2 rfl
              have y2 := Bq1.free 2
              go_wp2_with (at_builtin; refine wpList_append_run hrun1.out rfl (by rfl) (by rfl) (by rfl) ?_)
              go_roundw
              case rel => exact ⟨j + 1, by omega, by go_num, _, _, _, by simp; omega, Rb1⟩
              case measure => simp [intOf]; omega
            · have hge : 5 * (T : Int) + 1 ≤ (j : Int) := by omega
              go_wp2_with fail
              clear hge
              go_loopw [11] (fun i wr => ∃ q : Nat, q ≤ T ∧ i = .int .i64 q ∧ ∃ a3 c3 l3, (q ≤ l3.length ∧ l3.length ≤ q) ∧ DN w k' T a1 c1 l1 a2 c2 l2 a3 c3 l3 wr) (fun i _ => T - (intOf i).toNat)
              case atStart => exact ⟨0, Nat.zero_le _, rfl, _, _, [], by simp, R⟩
              case round =>
                clear R
                obtain ⟨q, hq, rfl, a3, c3, l3, hl3, R⟩ := hrel
                by_cases hlt2 : q < T
                · have hlt' : (q : Int) < (T : Int) := by omega
                  have m4 : wr.cell? ⟨w.heap.size + 1, 4, none⟩ = some (.slice a3 l3.length c3) := R.m.at 4 rfl
                  have hb1 : Below wr.heap.size wr (wr.alloc (.cells zo.toArray 37)) := (Below.refl _ wr).alloc (Nat.le_refl _) _
                  have Ra1 := R.below hb1
                  obtain ⟨gq1, cq1, wq1, K1⟩ := addOp (w.heap.size + 2) Ra1.o3  (Blk.new wr zo.toArray 37) (by omega) (by have := Ra1.m.lt; omega)
                  have hrun1 := Lib.hid K1.run
                  have Rb1 := Ra1.add3 K1
                  have hlq1 := OwnR.lt Ra1.o3
                  have Bq1 := Ra1.m.grown K1.grown (fun e => by have := (hlq1 _ e.symm).1; omega)
                  have hml1 := R.m.lt
                  clear K1 hlq1
                  have x4 := Bq1.at 4 rfl
                  have y4 := Bq1.free 4
                  go_wp2_with (at_builtin; refine wpList_append_run hrun1.out rfl (by rfl) (by rfl) (by rfl) ?_)
                  go_roundw
                  case rel => exact ⟨q + 1, by omega, by go_num, _, _, _, by simp; omega, Rb1⟩
                  case measure => simp [intOf]; omega
                · have hge : (T : Int) ≤ (q : Int) := by omega
                  obtain ⟨b1, cur1, rfl, hb1, B1, hc1⟩ := own_block R.o1 (by omega)
                  obtain ⟨b2, cur2, rfl, hb2, B2, hc2⟩ := own_block R.o2 (by omega)
                  have hne12 : b1 ≠ b2 := R.n12 b1 b2 rfl rfl
                  have hB := R.b
                  have Z := R.z
                  have M := R.m
                  have m2 : wr.cell? ⟨w.heap.size + 1, 2, none⟩ = some (.slice (some ⟨b1, 0, none⟩) l1.length c1) := M.at 2 rfl
                  have hk1 : (k' : Int) < (l1.length : Int) := by omega
                  have hwg : IntKind.u64.wrap (gen + 1) = gen + 1 := by rw [IntKind.wrap_u64]; omega
                  have hus := duse_any 1 (gen + 1) wr.drew (by omega) (by omega) (by omega) (by omega)
                  have e1 := B1.at (k' * 2) (Array.getElem?_eq_getElem (show k' * 2 < cur1.size by omega))
                  have y1 := B1.free (k' * 2)
                  have hk0 : (0 : Int) ≤ (k' : Int) := by omega
                  clear R hge
                  go_upto_region 19 with (fail)
                  go_cut [] (fun wx => wx = (wr.setCell ⟨b1, k' * 2, none⟩ (.int .u64 (useI 1 (gen + 1)))).drew)
                  case first =>
                    go_region_with (go_at_call 42; refine hus.mono ?_; rintro e wx ⟨rfl, rfl⟩)
                    all_goals
                      go_wp2_with fail
                      go_meet
                      exact rfl
                  case rest =>
                    obtain rfl := hcut
                    have F1 : Fr [b1] wr (wr.setCell ⟨b1, k' * 2, none⟩ (.int .u64 (useI 1 (gen + 1)))).drew := ((Fr.refl [b1] wr).set _ _ (.inl (by simp))).trans (Fr.of_below (Below.refl _ _).drew)
                    replace hB := (hB.setCell (p := ⟨b1, k' * 2, none⟩) (by show w.heap.size ≤ b1; omega) (.int .u64 (useI 1 (gen + 1)))).drew
                    replace Z := F1.blk Z (by simp; omega)
                    replace M := F1.blk M (by simp; omega)
                    replace B2 := F1.blk B2 (by simp; omega)
                    replace B1 := (B1.set (k' * 2) (.int .u64 (useI 1 (gen + 1)))).drew
                    generalize (wr.setCell ⟨b1, k' * 2, none⟩ (.int .u64 (useI 1 (gen + 1)))).drew = wy at hB Z M B1 B2 ⊢
                    clear m2 e1 y1 F1 hus
                    have m2 : wy.cell? ⟨w.heap.size + 1, 2, none⟩ = some (.slice (some ⟨b1, 0, none⟩) l1.length c1) := M.at 2 rfl
                    have hpk := dpack_any 0 (gen + 1) wy.drew (by omega) (by omega) (by omega) (by omega)
                    have e1 := B1.at 0 (Array.getElem?_eq_getElem (show 0 < (cur1.setIfInBounds (k' * 2) (.int .u64 (useI 1 (gen + 1)))).size by simp; omega))
                    have y1 := B1.free 0
                    have hl0 : (0 : Int) < (l1.length : Int) := by omega
                    go_upto_region 20 with (fail)
                    go_cut [] (fun wx => wx = (wy.setCell ⟨b1, 0, none⟩ (.int .u64 (packI 0 (gen + 1)))).drew)
                    case first =>
                      go_region_with (go_at_call 43; refine hpk.mono ?_; rintro e wx ⟨rfl, rfl⟩)
                      all_goals
                        go_wp2_with fail
                        go_meet
                        exact rfl
                    case rest =>
                      obtain rfl := hcut
                      have F2 : Fr [b1] wy (wy.setCell ⟨b1, 0, none⟩ (.int .u64 (packI 0 (gen + 1)))).drew := ((Fr.refl [b1] wy).set _ _ (.inl (by simp))).trans (Fr.of_below (Below.refl _ _).drew)
                      replace hB := (hB.setCell (p := ⟨b1, 0, none⟩) (by show w.heap.size ≤ b1; omega) (.int .u64 (packI 0 (gen + 1)))).drew
                      replace Z := F2.blk Z (by simp; omega)
                      replace M := F2.blk M (by simp; omega)
                      replace B2 := F2.blk B2 (by simp; omega)
                      generalize (wy.setCell ⟨b1, 0, none⟩ (.int .u64 (packI 0 (gen + 1)))).drew = wz at hB Z M B2 ⊢
                      clear m2 e1 y1 F2 hpk B1 hl0
                      have m3 : wz.cell? ⟨w.heap.size + 1, 3, none⟩ = some (.slice (some ⟨b2, 0, none⟩) l2.length c2) := M.at 3 rfl
                      have hth := there_blk (o := 0) (n := 17) B2 (by omega)
                      have hl20 : (0 : Int) < (l2.length : Int) := by omega
                      have F3 := fr_sets (S := [b2]) (b := b2) (by simp) eb 0 wz
                      have hB3 := below_sets (b := b2) (show w.heap.size ≤ b2 by omega) eb 0 _ hB
                      have Z3 := F3.blk Z (by simp; omega)
                      have M3 := F3.blk M (by simp; omega)
                      generalize hX : wz.setCells b2 0 eb = wu at F3 hB3 Z3 M3
                      replace hX := Lib.hid hX
                      go_wp2_with (first
                        | (refine wpList_store_mid rfl 35 _ _ rfl b2 0 eb.toArray rfl rfl hth (by kernel_rfl) (by kernel_rfl) ?_; rw [show eb.toArray.toList = eb from rfl, hX.out])
                        | (refine wpList_load_row rfl 69 _ rfl (w.heap.size + 1) rfl 69 _ (0, 0) _ M3.h Try.underlying69 rfl (by kernel_rfl) ?_)
                        | (refine wpList_store_row rfl 69 _ _ rfl w.heap.size _ rfl rfl 69 _ Z3.h (by kernel_rfl) (by rfl) (by kernel_rfl) ?_))
                      refine bodyPost_ret (results_cell_row rfl _ _ w.heap.size 69 (dmemA k' T (some ⟨b1, 0, none⟩) l1.length c1 (some ⟨b2, 0, none⟩) l2.length c2 a3 l3.length c3) (0, 0) _ rfl (Blk.row Z3 _).h Try.underlying69 rfl (by kernel_rfl)) rfl ⟨⟨_, _, _, _, _, _, _, _, _, rfl⟩, below_setRow hB3 (by omega) _⟩
end Go.Proofs.Ytpempcefgfmniaa.MemP
