/-
  The program's Sames of plans and blocks: contracts.
-/
import Derived.Test.YtfnjggefinkcaaaDeepSame3
namespace Go.Proofs.Ytfnjggefinkcaaa.Dp
open Go.RowKit RefP Go.Sort
set_option linter.unusedVariables false
set_option linter.unusedSimpArgs false
abbrev planA (h : PlanH) (x : PlanV) : Array Value := #[.int .i64 x.thread, .int .i64 x.ans.code, .string x.ans.key, .int .u64 x.ans.val, .slice h.pairs.a x.ans.pairs.length h.pairs.c, .slice h.steps.a x.steps.length h.steps.c, .slice h.extra.a x.extra.length h.extra.c]
set_option maxRecDepth 100000 in
set_option maxHeartbeats 3200000 in
theorem splan_any (S S' : List Nat) (h h' : PlanH) (x y : PlanV) (w : World) (H : PlanOk w S h x) (H' : PlanOk w S' h' y) :
    Calls Try.prog 42 #[.agg (planA h x), .agg (planA h' y)] w fun e w' => e = .returned (.bool (decide (x = y))) ∧ Below w.heap.size w w' := by
  have hB : Below w.heap.size w ((w.alloc (.cells (planA h x) 33)).alloc (.cells (planA h' y) 33)) := by (repeat (first | exact Below.refl _ _ | assumption | refine below_alloc2 ?_ (by first | exact Nat.le_refl _ | omega) _ | refine Below.drew ?_ | refine below_drewN ?_ _ | refine below_push2 ?_ ‹_› (by first | exact Nat.le_refl _ | omega) | refine Below.setCell ?_ (by first | (simp; done) | (simp; omega) | omega) _))
  have BX := (Blk.new w (planA h x) 33).alloc (.cells (planA h' y) 33)
  have BY : Blk ((w.alloc (.cells (planA h x) 33)).alloc (.cells (planA h' y) 33)) (w.heap.size + 1) (planA h' y) 33 := by
    have := Blk.new (w.alloc (.cells (planA h x) 33)) (planA h' y) 33
    simpa using this
  generalize hW : (w.alloc (.cells (planA h x) 33)).alloc (.cells (planA h' y) 33) = w1 at hB BX BY
  replace hW := Lib.hid hW
  have x0 := BX.at 0 rfl
  have x1 := BX.at 1 rfl
  have x2 := BX.at 2 rfl
  have x3 := BX.at 3 rfl
  have x4 := BX.at 4 rfl
  have x5 := BX.at 5 rfl
  have x6 := BX.at 6 rfl
  have y0 := BY.at 0 rfl
  have y1 := BY.at 1 rfl
  have y2 := BY.at 2 rfl
  have y3 := BY.at 3 rfl
  have y4 := BY.at 4 rfl
  have y5 := BY.at 5 rfl
  have y6 := BY.at 6 rfl
  go_enter Try.func42, Try.ntmps42
  go_upto_region 1 with (fail)
  rw [hW.out]
  have hs := hB.size
  have hl1 := BX.lt
  have hl2 := BY.lt
  have two : ∀ A B : Obj, Below w.heap.size w ((w1.alloc A).alloc B).drew ∧ Blk ((w1.alloc A).alloc B).drew w.heap.size (planA h x) 33 ∧ Blk ((w1.alloc A).alloc B).drew (w.heap.size + 1) (planA h' y) 33 := fun A B =>
    ⟨((hB.alloc (by omega) A).alloc (by simp; omega) B).drew, ((BX.alloc A).alloc B).drew, ((BY.alloc A).alloc B).drew⟩
  have fst : ∀ (c : Array Value) (B : Obj), Blk ((w1.alloc (.cells c 30)).alloc B).drew w1.heap.size c 30 := fun c B => ((Blk.new w1 c _).alloc B).drew
  have snd : ∀ (A : Obj) (c : Array Value), Blk ((w1.alloc A).alloc (.cells c 30)).drew (w1.heap.size + 1) c 30 := fun A c => by
    have := (Blk.new (w1.alloc A) c 30).drew
    rwa [World.size_alloc] at this
  replace hW := Lib.hid hW
  go_cut [5, 6] (fun u5 u6 wx => ∃ b1 b2, u5 = .pointer (some ⟨b1, 0, none⟩) ∧ u6 = .pointer (some ⟨b2, 0, none⟩) ∧ (Below w.heap.size w wx ∧ Blk wx w.heap.size (planA h x) 33 ∧ Blk wx (w.heap.size + 1) (planA h' y) 33) ∧ Blk wx b1 (ansA h.pairs x.ans) 30 ∧ Blk wx b2 (ansA h'.pairs y.ans) 30)
  case first =>
    go_region_with (fail)
    all_goals
      go_wp2_with fail
      go_meet
      first
        | exact ⟨_, _, rfl, rfl, two _ _, fst _ _, snd _ _⟩
        | exact ⟨_, _, rfl, rfl, two _ _, snd _ _, fst _ _⟩
  case rest =>
    obtain ⟨b1, b2, rfl, rfl, ⟨hB, BX, BY⟩, B1, B2⟩ := hcut
    clear x0 x1 x2 x3 x4 x5 x6 y0 y1 y2 y3 y4 y5 y6
    have x0 := BX.at 0 rfl
    have x5 := BX.at 5 rfl
    have x6 := BX.at 6 rfl
    have y0 := BY.at 0 rfl
    have y5 := BY.at 5 rfl
    have y6 := BY.at 6 rfl
    have a0 := B1.at 0 rfl
    have a1 := B1.at 1 rfl
    have a2 := B1.at 2 rfl
    have a3 := B1.at 3 rfl
    have c0 := B2.at 0 rfl
    have c1 := B2.at 1 rfl
    have c2 := B2.at 2 rfl
    have c3 := B2.at 3 rfl
    have hE : Hid (decide (x = y) = (decide (x.thread = y.thread) && (decide (x.ans.code = y.ans.code) && (decide (x.ans.key = y.ans.key) && (decide (x.ans.val = y.ans.val) && (decide (x.ans.pairs = y.ans.pairs) && (decide (x.steps = y.steps) && decide (x.extra = y.extra)))))))) := Lib.hid (by
      obtain ⟨a1, ⟨a2, a3, a4, a5⟩, a6, a7⟩ := x
      obtain ⟨b1, ⟨b2, b3, b4, b5⟩, b6, b7⟩ := y
      simp only [PlanV.mk.injEq, AnsV.mk.injEq, ← Bool.decide_and]
      exact decide_eq_decide.2 (by constructor <;> (rintro h; simp_all)))
    have q0 : (x.thread == y.thread) = decide (x.thread = y.thread) := rfl
    have q1 : (x.ans.code == y.ans.code) = decide (x.ans.code = y.ans.code) := rfl
    have q2 : (x.ans.key.toList == y.ans.key.toList) = decide (x.ans.key = y.ans.key) := by
      rw [Bool.eq_iff_iff, Lib.bytes_beq_iff, decide_eq_true_iff]
    have q3 : (x.ans.val == y.ans.val) = decide (x.ans.val = y.ans.val) := rfl
    generalize decide (x.thread = y.thread) = t0 at q0 hE
    generalize decide (x.ans.code = y.ans.code) = t1 at q1 hE
    generalize decide (x.ans.key = y.ans.key) = t2 at q2 hE
    generalize decide (x.ans.val = y.ans.val) = t3 at q3 hE
    clear two fst snd B1 B2
    cases t0
    · go_wp2_with fail
      go_ret
      refine ⟨?_, hB⟩
      rw [hE.out]
      simp
    cases t1
    · go_wp2_with fail
      go_ret
      refine ⟨?_, hB⟩
      rw [hE.out]
      simp
    cases t2
    · go_wp2_with fail
      go_ret
      refine ⟨?_, hB⟩
      rw [hE.out]
      simp
    cases t3
    · go_wp2_with fail
      go_ret
      refine ⟨?_, hB⟩
      rw [hE.out]
      simp
    go_wp2_with fail
    refine (eqPair_any S S' h.pairs h'.pairs x.ans.pairs y.ans.pairs wc (H.ans.pairs.keep (Keeps.of_below hB)) (H'.ans.pairs.keep (Keeps.of_below hB))).mono ?_
    rintro e w2 ⟨rfl, hb2⟩
    generalize decide (x.ans.pairs = y.ans.pairs) = t4 at hE
    replace hB := below_push2 hB hb2 (Nat.le_refl _)
    replace BX := BX.below hb2
    replace BY := BY.below hb2
    clear x0 x5 x6 y0 y5 y6 a0 a1 a2 a3 c0 c1 c2 c3 hb2
    have x5 := BX.at 5 rfl
    have x6 := BX.at 6 rfl
    have y5 := BY.at 5 rfl
    have y6 := BY.at 6 rfl
    cases t4
    · go_wp2_with fail
      go_ret
      refine ⟨?_, hB⟩
      rw [hE.out]
      simp
    go_wp2_with fail
    refine (eqStep_any S S' h.steps h'.steps x.steps y.steps w2 (H.steps.keep (Keeps.of_below hB)) (H'.steps.keep (Keeps.of_below hB))).mono ?_
    rintro e w3 ⟨rfl, hb2⟩
    generalize decide (x.steps = y.steps) = t5 at hE
    replace hB := below_push2 hB hb2 (Nat.le_refl _)
    replace BX := BX.below hb2
    replace BY := BY.below hb2
    clear x5 x6 y5 y6 hb2
    have x6 := BX.at 6 rfl
    have y6 := BY.at 6 rfl
    cases t5
    · go_wp2_with fail
      go_ret
      refine ⟨?_, hB⟩
      rw [hE.out]
      simp
    go_wp2_with fail
    refine (eqU64_any S S' h.extra h'.extra x.extra y.extra w3 (H.extra.keep (Keeps.of_below hB)) (H'.extra.keep (Keeps.of_below hB))).mono ?_
    rintro e w4 ⟨rfl, hb2⟩
    generalize decide (x.extra = y.extra) = t6 at hE
    replace hB := below_push2 hB hb2 (Nat.le_refl _)
    go_wp2_with fail
    go_ret
    refine ⟨?_, hB⟩
    rw [hE.out]
    simp
end Go.Proofs.Ytfnjggefinkcaaa.Dp
