/-
  memory.Same: contract.
-/
import Derived.Test.YtfnjggefinkcaaaDeepSame4
namespace Go.Proofs.Ytfnjggefinkcaaa.Dp
open Go.RowKit RefP Go.Sort
set_option linter.unusedVariables false
set_option linter.unusedSimpArgs false
theorem NodeOk.more {w : World} {S S' : List Nat} {h : NodeH} {x : NodeV} (H : NodeOk w S h x) (k : ∀ b ∈ S', b ∈ S ∨ w.heap.size ≤ b) : NodeOk w S' h x := ⟨H.level, H.low, H.high, H.next, H.keys.more k, H.vals.more k, H.kids.more k⟩
theorem PlanOk.more {w : World} {S S' : List Nat} {h : PlanH} {x : PlanV} (H : PlanOk w S h x) (k : ∀ b ∈ S', b ∈ S ∨ w.heap.size ≤ b) : PlanOk w S' h x := ⟨H.thread, ⟨H.ans.code, H.ans.key, H.ans.val, H.ans.pairs.more k⟩, H.steps.more k, H.extra.more k⟩
theorem BlockOk.more {w : World} {S S' : List Nat} {h : BlockH} {x : BlockV} (H : BlockOk w S h x) (k : ∀ b ∈ S', b ∈ S ∨ w.heap.size ≤ b) : BlockOk w S' h x := ⟨H.kind, H.node.more k, H.plan.more k, H.pairs.more k⟩
set_option maxRecDepth 100000 in
set_option maxHeartbeats 3200000 in
theorem msame_any (S S' : List Nat) (h h' : BlockH) (x y : BlockV) (w : World) (H : BlockOk w S h x) (H' : BlockOk w S' h' y) :
    Calls Try.prog 24 #[.agg (blockA h x), .agg (blockA h' y)] w fun e w' => e = .returned (.bool (decide (x = y))) ∧ Below w.heap.size w w' := by
  have hB : Below w.heap.size w ((w.alloc (.cells (blockA h x) 35)).alloc (.cells (blockA h' y) 35)) := by (repeat (first | exact Below.refl _ _ | assumption | refine below_alloc2 ?_ (by first | exact Nat.le_refl _ | omega) _ | refine Below.drew ?_ | refine below_drewN ?_ _ | refine below_push2 ?_ ‹_› (by first | exact Nat.le_refl _ | omega) | refine Below.setCell ?_ (by first | (simp; done) | (simp; omega) | omega) _))
  have BX := (Blk.new w (blockA h x) 35).alloc (.cells (blockA h' y) 35)
  have BY : Blk ((w.alloc (.cells (blockA h x) 35)).alloc (.cells (blockA h' y) 35)) (w.heap.size + 1) (blockA h' y) 35 := by
    have := Blk.new (w.alloc (.cells (blockA h x) 35)) (blockA h' y) 35
    simpa using this
  generalize hW : (w.alloc (.cells (blockA h x) 35)).alloc (.cells (blockA h' y) 35) = w1 at hB BX BY
  replace hW := Lib.hid hW
  have x0 := BX.at 0 rfl
  have y0 := BY.at 0 rfl
  have x1 := BX.at 1 rfl
  have x2 := BX.at 2 rfl
  have x3 := BX.at 3 rfl
  have x4 := BX.at 4 rfl
  have x5 := BX.at 5 rfl
  have x6 := BX.at 6 rfl
  have x7 := BX.at 7 rfl
  have x8 := BX.at 8 rfl
  have x9 := BX.at 9 rfl
  have x10 := BX.at 10 rfl
  have x11 := BX.at 11 rfl
  have x12 := BX.at 12 rfl
  have x13 := BX.at 13 rfl
  have x14 := BX.at 14 rfl
  have x15 := BX.at 15 rfl
  have x16 := BX.at 16 rfl
  have y1 := BY.at 1 rfl
  have y2 := BY.at 2 rfl
  have y3 := BY.at 3 rfl
  have y4 := BY.at 4 rfl
  have y5 := BY.at 5 rfl
  have y6 := BY.at 6 rfl
  have y7 := BY.at 7 rfl
  have y8 := BY.at 8 rfl
  have y9 := BY.at 9 rfl
  have y10 := BY.at 10 rfl
  have y11 := BY.at 11 rfl
  have y12 := BY.at 12 rfl
  have y13 := BY.at 13 rfl
  have y14 := BY.at 14 rfl
  have y15 := BY.at 15 rfl
  have y16 := BY.at 16 rfl
  have hE : Hid (decide (x = y) = (decide (x.kind = y.kind) && (decide (x.node = y.node) && (decide (x.plan = y.plan) && decide (x.pairs = y.pairs))))) := Lib.hid (by
    obtain ⟨a1, a2, a3, a4⟩ := x
    obtain ⟨b1, b2, b3, b4⟩ := y
    simp only [BlockV.mk.injEq, ← Bool.decide_and]
    )
  have q0 : (x.kind == y.kind) = decide (x.kind = y.kind) := rfl
  generalize decide (x.kind = y.kind) = t0 at q0 hE
  go_enter Try.func24, Try.ntmps24
  go_upto_region 1 with (fail)
  rw [hW.out]
  clear hW
  cases t0
  · go_wp2_with fail
    go_ret
    refine ⟨?_, hB⟩
    rw [hE.out]
    simp
  go_wp2_with fail
  refine (nsame_any S S' h.node h'.node x.node y.node w1 (H.node.keep (Keeps.of_below hB)) (H'.node.keep (Keeps.of_below hB))).mono ?_
  rintro e w2 ⟨rfl, hb2⟩
  generalize decide (x.node = y.node) = t1 at hE
  replace hB := below_push2 hB hb2 (Nat.le_refl _)
  replace BX := BX.below hb2
  replace BY := BY.below hb2
  clear x1 x2 x3 x4 x5 x6 x7 x8 x9 x10 x11 x12 x13 x14 x15 x16 y1 y2 y3 y4 y5 y6 y7 y8 y9 y10 y11 y12 y13 y14 y15 y16
  clear hb2 x0 y0 q0
  have x1 := BX.at 1 rfl
  have x2 := BX.at 2 rfl
  have x3 := BX.at 3 rfl
  have x4 := BX.at 4 rfl
  have x5 := BX.at 5 rfl
  have x6 := BX.at 6 rfl
  have x7 := BX.at 7 rfl
  have x8 := BX.at 8 rfl
  have x9 := BX.at 9 rfl
  have x10 := BX.at 10 rfl
  have x11 := BX.at 11 rfl
  have x12 := BX.at 12 rfl
  have x13 := BX.at 13 rfl
  have x14 := BX.at 14 rfl
  have x15 := BX.at 15 rfl
  have x16 := BX.at 16 rfl
  have y1 := BY.at 1 rfl
  have y2 := BY.at 2 rfl
  have y3 := BY.at 3 rfl
  have y4 := BY.at 4 rfl
  have y5 := BY.at 5 rfl
  have y6 := BY.at 6 rfl
  have y7 := BY.at 7 rfl
  have y8 := BY.at 8 rfl
  have y9 := BY.at 9 rfl
  have y10 := BY.at 10 rfl
  have y11 := BY.at 11 rfl
  have y12 := BY.at 12 rfl
  have y13 := BY.at 13 rfl
  have y14 := BY.at 14 rfl
  have y15 := BY.at 15 rfl
  have y16 := BY.at 16 rfl
  cases t1
  · go_wp2_with fail
    go_ret
    refine ⟨?_, hB⟩
    rw [hE.out]
    simp
  go_wp2_with fail
  refine (splan_any S S' h.plan h'.plan x.plan y.plan w2 (H.plan.keep (Keeps.of_below hB)) (H'.plan.keep (Keeps.of_below hB))).mono ?_
  rintro e w3 ⟨rfl, hb2⟩
  generalize decide (x.plan = y.plan) = t2 at hE
  replace hB := below_push2 hB hb2 (Nat.le_refl _)
  replace BX := BX.below hb2
  replace BY := BY.below hb2
  clear x1 x2 x3 x4 x5 x6 x7 x8 x9 x10 x11 x12 x13 x14 x15 x16 y1 y2 y3 y4 y5 y6 y7 y8 y9 y10 y11 y12 y13 y14 y15 y16
  clear hb2
  have x16 := BX.at 16 rfl
  have y16 := BY.at 16 rfl
  cases t2
  · go_wp2_with fail
    go_ret
    refine ⟨?_, hB⟩
    rw [hE.out]
    simp
  go_wp2_with fail
  refine (eqPair_any S S' h.pairs h'.pairs x.pairs y.pairs w3 (H.pairs.keep (Keeps.of_below hB)) (H'.pairs.keep (Keeps.of_below hB))).mono ?_
  rintro e w4 ⟨rfl, hb2⟩
  generalize decide (x.pairs = y.pairs) = t3 at hE
  replace hB := below_push2 hB hb2 (Nat.le_refl _)
  go_wp2_with fail
  go_ret
  refine ⟨?_, hB⟩
  rw [hE.out]
  simp
end Go.Proofs.Ytfnjggefinkcaaa.Dp
