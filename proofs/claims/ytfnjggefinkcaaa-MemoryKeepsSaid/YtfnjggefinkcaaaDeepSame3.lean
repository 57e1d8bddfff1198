/-
  The program's Sames of nodes, plans and blocks: contracts.
-/
import Derived.Test.YtfnjggefinkcaaaDeepSame2
namespace Go.Proofs.Ytfnjggefinkcaaa.Dp
open Go.RowKit RefP Go.Sort
set_option linter.unusedVariables false
set_option linter.unusedSimpArgs false
abbrev shapeA (x : NodeV) : Array Value := #[.int .i64 x.level, .int .i64 x.next, .string x.low, .string x.high, .bool x.last]
theorem shaped_any (h : NodeH) (x : NodeV) (w : World) : Calls Try.prog 65 #[.agg (nodeA h x)] w fun e w' => e = .returned (.agg (shapeA x)) ∧ Below w.heap.size w w' := by
  go_enter Try.func65, Try.ntmps65
  go_wp2_with fail
  have BR : Blk ((w.alloc (.cells (nodeA h x) 27)).alloc (.cells (shapeA x) 112)) (w.heap.size + 1) (shapeA x) 112 := by
    have := Blk.new (w.alloc (.cells (nodeA h x) 27)) (shapeA x) 112
    simpa using this
  refine bodyPost_ret (results_cell_row rfl _ _ (w.heap.size + 1) 112 (shapeA x) (0, 0) _ rfl BR.h Try.underlying112 rfl (by kernel_rfl)) rfl ⟨rfl, by (repeat (first | exact Below.refl _ _ | assumption | refine below_alloc2 ?_ (by first | exact Nat.le_refl _ | omega) _ | refine Below.drew ?_ | refine below_drewN ?_ _ | refine below_push2 ?_ ‹_› (by first | exact Nat.le_refl _ | omega) | refine Below.setCell ?_ (by first | (simp; done) | (simp; omega) | omega) _))⟩
theorem below_at {N : Nat} {w w' : World} (h : Below w.heap.size w w') (hN : N ≤ w.heap.size) : Below N w w' := ⟨h.os, h.tape, h.output, h.size, fun k hk => h.block k (Nat.lt_of_lt_of_le hk hN)⟩
def shB (x y : NodeV) : Bool := decide (x.level = y.level ∧ x.next = y.next ∧ x.low = y.low ∧ x.high = y.high ∧ x.last = y.last)
theorem eqlShape (w : World) (x y : NodeV) : (binOp .eql 112 (.agg (shapeA x)) (.agg (shapeA y))).run Try.prog w = .ok (.bool (shB x y)) w := by
  rw [run_eql_struct]
  obtain ⟨a1, a3, a4, a5, a2, ak, av, ad⟩ := x
  obtain ⟨b1, b3, b4, b5, b2, bk, bv, bd⟩ := y
  by_cases h1 : a1 = b1
  · by_cases h2 : a2 = b2
    · by_cases h3 : a3 = b3
      · by_cases h4 : a4 = b4
        · by_cases h5 : a5 = b5
          · subst h1; subst h2; subst h3; subst h4; subst h5
            go_simp
            all_goals simp [shB]
          · have : (a5 == b5) = false := by simpa using h5
            subst h1; subst h2; subst h3; subst h4
            go_simp
            all_goals simp [shB, h5]
        · have : (a4.toList == b4.toList) = false := (Lib.bytes_beq_false_iff _ _).2 h4
          subst h1; subst h2; subst h3
          go_simp
          all_goals simp [shB, h4]
      · have : (a3.toList == b3.toList) = false := (Lib.bytes_beq_false_iff _ _).2 h3
        subst h1; subst h2
        go_simp
        all_goals simp [shB, h3]
    · have : (a2 == b2) = false := by simpa using h2
      subst h1
      go_simp
      all_goals simp [shB, h2]
  · have : (a1 == b1) = false := by simpa using h1
    go_simp
    all_goals simp [shB, h1]
set_option maxRecDepth 100000 in
set_option maxHeartbeats 3200000 in
theorem nsame_any (S S' : List Nat) (h h' : NodeH) (x y : NodeV) (w : World) (H : NodeOk w S h x) (H' : NodeOk w S' h' y) :
    Calls Try.prog 41 #[.agg (nodeA h x), .agg (nodeA h' y)] w fun e w' => e = .returned (.bool (decide (x = y))) ∧ Below w.heap.size w w' := by
  have hB : Below w.heap.size w ((w.alloc (.cells (nodeA h x) 27)).alloc (.cells (nodeA h' y) 27)) := by (repeat (first | exact Below.refl _ _ | assumption | refine below_alloc2 ?_ (by first | exact Nat.le_refl _ | omega) _ | refine Below.drew ?_ | refine below_drewN ?_ _ | refine below_push2 ?_ ‹_› (by first | exact Nat.le_refl _ | omega) | refine Below.setCell ?_ (by first | (simp; done) | (simp; omega) | omega) _))
  have BX := (Blk.new w (nodeA h x) 27).alloc (.cells (nodeA h' y) 27)
  have BY : Blk ((w.alloc (.cells (nodeA h x) 27)).alloc (.cells (nodeA h' y) 27)) (w.heap.size + 1) (nodeA h' y) 27 := by
    have := Blk.new (w.alloc (.cells (nodeA h x) 27)) (nodeA h' y) 27
    simpa using this
  generalize hW : (w.alloc (.cells (nodeA h x) 27)).alloc (.cells (nodeA h' y) 27) = w1 at hB BX BY
  replace hW := Lib.hid hW
  have x0 := fun d os => cell_regrown (BX.at 0 rfl) d os
  have x1 := fun d os => cell_regrown (BX.at 1 rfl) d os
  have x2 := fun d os => cell_regrown (BX.at 2 rfl) d os
  have x3 := fun d os => cell_regrown (BX.at 3 rfl) d os
  have x4 := fun d os => cell_regrown (BX.at 4 rfl) d os
  have x5 := fun d os => cell_regrown (BX.at 5 rfl) d os
  have x6 := fun d os => cell_regrown (BX.at 6 rfl) d os
  have x7 := fun d os => cell_regrown (BX.at 7 rfl) d os
  have y0 := fun d os => cell_regrown (BY.at 0 rfl) d os
  have y1 := fun d os => cell_regrown (BY.at 1 rfl) d os
  have y2 := fun d os => cell_regrown (BY.at 2 rfl) d os
  have y3 := fun d os => cell_regrown (BY.at 3 rfl) d os
  have y4 := fun d os => cell_regrown (BY.at 4 rfl) d os
  have y5 := fun d os => cell_regrown (BY.at 5 rfl) d os
  have y6 := fun d os => cell_regrown (BY.at 6 rfl) d os
  have y7 := fun d os => cell_regrown (BY.at 7 rfl) d os
  have hq := fun w => eqlShape w x y
  have k1 := fun d os => Calls.regrown_of (shaped_any h x (grow (redrawn w1 d) os))
  have k2 := fun d os => Calls.regrown_of (shaped_any h' y (grow (redrawn w1 d) os))
  have k3 := fun d os => Calls.regrown_of (eqStr_any S S' h.keys h'.keys x.keys y.keys (grow (redrawn w1 d) os) (H.keys.keep (Keeps.of_below (hB.trans (below_at (below_regrown w1 d os) hB.size)))) (H'.keys.keep (Keeps.of_below (hB.trans (below_at (below_regrown w1 d os) hB.size)))))
  have k4 := fun d os => Calls.regrown_of (eqU64_any S S' h.vals h'.vals x.vals y.vals (grow (redrawn w1 d) os) (H.vals.keep (Keeps.of_below (hB.trans (below_at (below_regrown w1 d os) hB.size)))) (H'.vals.keep (Keeps.of_below (hB.trans (below_at (below_regrown w1 d os) hB.size)))))
  have k5 := fun d os => Calls.regrown_of (eqI64_any S S' h.kids h'.kids x.kids y.kids (grow (redrawn w1 d) os) (H.kids.keep (Keeps.of_below (hB.trans (below_at (below_regrown w1 d os) hB.size)))) (H'.kids.keep (Keeps.of_below (hB.trans (below_at (below_regrown w1 d os) hB.size)))))
  have hE : Hid (decide (x = y) = (shB x y && (decide (x.keys = y.keys) && (decide (x.vals = y.vals) && decide (x.kids = y.kids))))) := Lib.hid (by
    obtain ⟨a1, a3, a4, a5, a2, ak, av, ad⟩ := x
    obtain ⟨b1, b3, b4, b5, b2, bk, bv, bd⟩ := y
    simp only [shB, NodeV.mk.injEq, ← Bool.decide_and]
    exact decide_eq_decide.2 (by constructor <;> (rintro h; simp_all)))
  generalize shB x y = t1 at hq hE
  generalize decide (x.keys = y.keys) = t2 at k3 hE
  generalize decide (x.vals = y.vals) = t3 at k4 hE
  generalize decide (x.kids = y.kids) = t4 at k5 hE
  clear H H' BX BY
  go_enter Try.func41, Try.ntmps41
  go_upto_region 1 with (fail)
  rw [hW.out]
  clear hW
  cases t1
  · refine wp_region_quiet_below (by kernel_rfl) (by kernel_rfl) ?_
    repeat (go_big_quiet_step (first | with_reducible exact k1 _ _ | with_reducible exact k2 _ _ | with_reducible exact k3 _ _ | with_reducible exact k4 _ _ | with_reducible exact k5 _ _))
    refine wpQuiet_nil ?_
    intro w2 hw'
    have hb2 := RefP.below_of_regrown hw'
    clear hw'
    go_wp2_with fail
    go_ret
    refine ⟨?_, below_push2 hB hb2 (Nat.le_refl _)⟩
    rw [hE.out]
    simp
  cases t2
  · refine wp_region_quiet_below (by kernel_rfl) (by kernel_rfl) ?_
    repeat (go_big_quiet_step (first | with_reducible exact k1 _ _ | with_reducible exact k2 _ _ | with_reducible exact k3 _ _ | with_reducible exact k4 _ _ | with_reducible exact k5 _ _))
    refine wpQuiet_nil ?_
    intro w2 hw'
    have hb2 := RefP.below_of_regrown hw'
    clear hw'
    go_wp2_with fail
    go_ret
    refine ⟨?_, below_push2 hB hb2 (Nat.le_refl _)⟩
    rw [hE.out]
    simp
  cases t3
  · refine wp_region_quiet_below (by kernel_rfl) (by kernel_rfl) ?_
    repeat (go_big_quiet_step (first | with_reducible exact k1 _ _ | with_reducible exact k2 _ _ | with_reducible exact k3 _ _ | with_reducible exact k4 _ _ | with_reducible exact k5 _ _))
    refine wpQuiet_nil ?_
    intro w2 hw'
    have hb2 := RefP.below_of_regrown hw'
    clear hw'
    go_wp2_with fail
    go_ret
    refine ⟨?_, below_push2 hB hb2 (Nat.le_refl _)⟩
    rw [hE.out]
    simp
  refine wp_region_quiet_below (by kernel_rfl) (by kernel_rfl) ?_
  repeat (go_big_quiet_step (first | with_reducible exact k1 _ _ | with_reducible exact k2 _ _ | with_reducible exact k3 _ _ | with_reducible exact k4 _ _ | with_reducible exact k5 _ _))
  refine wpQuiet_nil ?_
  intro w2 hw'
  have hb2 := RefP.below_of_regrown hw'
  clear hw'
  go_wp2_with fail
  go_ret
  refine ⟨?_, below_push2 hB hb2 (Nat.le_refl _)⟩
  rw [hE.out]
  simp
end Go.Proofs.Ytfnjggefinkcaaa.Dp
