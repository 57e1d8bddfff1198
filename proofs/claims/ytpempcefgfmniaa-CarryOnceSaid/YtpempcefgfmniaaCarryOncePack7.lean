/-
  bowerref35: the document's carrying out: Next: contracts.
-/
import Derived.Test.YtpempcefgfmniaaCarryOncePack6

namespace Go.Proofs.Ytpempcefgfmniaa.MemP
open Go.RowKit RefP CellP Dp
set_option linter.unusedVariables false
set_option linter.unusedSimpArgs false
/-- the cells of the document's carrying out -/
abbrev dcX (M : MemV) (d : DH) (p : KP) (k : KS) (q : Hd) : Array Value := #[.int .i64 M.A, .int .i64 M.T, .slice d.h1.a M.L.length d.h1.c, .slice d.h2.a M.B.length d.h2.c, .slice d.h3.a M.R.length d.h3.c, .int .i64 p.hp, .int .i64 p.s, .int .i64 p.th, .int .u64 p.x, .int .u64 p.ver, .int .i64 k.at_, .slice q.a k.steps.length q.c, .int .u64 k.done, .bool k.tu, .bool k.en]
abbrev dcZ : Array Value := #[.int .i64 0, .int .i64 0, .slice none 0 0, .slice none 0 0, .slice none 0 0, .int .i64 0, .int .i64 0, .int .i64 0, .int .u64 0, .int .u64 0, .int .i64 0, .slice none 0 0, .int .u64 0, .bool false, .bool false]
set_option maxRecDepth 100000 in
set_option maxHeartbeats 3200000 in
theorem dkNext_8 (M : MemV) (d : DH) (hp s th x ver : Int) (steps : List StepV) (done : Int) (tu en : Bool) (q : Hd) (w : World) (hA : M.A ≤ 8192) (hT : M.T ≤ 16)  :
    Calls Try.prog 37 #[.agg (dcX M d ⟨hp, s, th, x, ver⟩ ⟨8, steps, done, tu, en⟩ q)] w fun e w' => e = .returned (.tuple #[.agg (accY 0 0 0 0), .bool false]) ∧ Below w.heap.size w w' := by
  have hB : Below w.heap.size w ((w.alloc (.cells (dcX M d ⟨hp, s, th, x, ver⟩ ⟨8, steps, done, tu, en⟩ q) 84)).alloc (.cells (accY 0 0 0 0) 39)) := by (repeat (first | exact Below.refl _ _ | assumption | refine below_alloc2 ?_ (by first | exact Nat.le_refl _ | omega) _ | refine Below.drew ?_ | refine below_drewN ?_ _ | refine below_push2 ?_ ‹_› (by first | exact Nat.le_refl _ | omega) | refine Below.setCell ?_ (by first | (simp; done) | (simp; omega) | omega) _))
  have BX := (Blk.new w (dcX M d ⟨hp, s, th, x, ver⟩ ⟨8, steps, done, tu, en⟩ q) 84).alloc (.cells (accY 0 0 0 0) 39)
  have BR : Blk ((w.alloc (.cells (dcX M d ⟨hp, s, th, x, ver⟩ ⟨8, steps, done, tu, en⟩ q) 84)).alloc (.cells (accY 0 0 0 0) 39)) (w.heap.size + 1) (accY 0 0 0 0) 39 := by
    have := Blk.new (w.alloc (.cells (dcX M d ⟨hp, s, th, x, ver⟩ ⟨8, steps, done, tu, en⟩ q) 84)) (accY 0 0 0 0) 39
    simpa using this
  go_enter Try.func37, Try.ntmps37
  go_upto_region 1 with (fail)
  generalize ((w.alloc (.cells (dcX M d ⟨hp, s, th, x, ver⟩ ⟨8, steps, done, tu, en⟩ q) 84)).alloc (.cells (accY 0 0 0 0) 39)) = w0 at hB BX BR ⊢
  have m0 : w0.cell? ⟨w.heap.size, 0, none⟩ = some (.int .i64 M.A) := BX.at 0 rfl
  have m1 : w0.cell? ⟨w.heap.size, 1, none⟩ = some (.int .i64 M.T) := BX.at 1 rfl
  have m2 : w0.cell? ⟨w.heap.size, 2, none⟩ = some (.slice d.h1.a M.L.length d.h1.c) := BX.at 2 rfl
  have m3 : w0.cell? ⟨w.heap.size, 3, none⟩ = some (.slice d.h2.a M.B.length d.h2.c) := BX.at 3 rfl
  have m4 : w0.cell? ⟨w.heap.size, 4, none⟩ = some (.slice d.h3.a M.R.length d.h3.c) := BX.at 4 rfl
  have x5 : w0.cell? ⟨w.heap.size, 5, none⟩ = some (.int .i64 hp) := BX.at 5 rfl
  have x6 : w0.cell? ⟨w.heap.size, 6, none⟩ = some (.int .i64 s) := BX.at 6 rfl
  have x7 : w0.cell? ⟨w.heap.size, 7, none⟩ = some (.int .i64 th) := BX.at 7 rfl
  have x8 : w0.cell? ⟨w.heap.size, 8, none⟩ = some (.int .u64 x) := BX.at 8 rfl
  have x9 : w0.cell? ⟨w.heap.size, 9, none⟩ = some (.int .u64 ver) := BX.at 9 rfl
  have x10 : w0.cell? ⟨w.heap.size, 10, none⟩ = some (.int .i64 8) := BX.at 10 rfl
  have x11 : w0.cell? ⟨w.heap.size, 11, none⟩ = some (.slice q.a steps.length q.c) := BX.at 11 rfl
  have x12 : w0.cell? ⟨w.heap.size, 12, none⟩ = some (.int .u64 done) := BX.at 12 rfl
  go_wp2_with fail
  refine (dpl_6 M d _ hA hT).mono ?_
  rintro e w1 ⟨rfl, hb1⟩
  replace hB := below_push2 hB hb1 (Nat.le_refl _)
  replace BX := BX.below hb1
  replace BR := BR.below hb1
  clear m0 m1 m2 m3 m4 x5 x6 x7 x8 x9 x10 x11 x12
  clear hb1
  have m0 : w1.cell? ⟨w.heap.size, 0, none⟩ = some (.int .i64 M.A) := BX.at 0 rfl
  have m1 : w1.cell? ⟨w.heap.size, 1, none⟩ = some (.int .i64 M.T) := BX.at 1 rfl
  have m2 : w1.cell? ⟨w.heap.size, 2, none⟩ = some (.slice d.h1.a M.L.length d.h1.c) := BX.at 2 rfl
  have m3 : w1.cell? ⟨w.heap.size, 3, none⟩ = some (.slice d.h2.a M.B.length d.h2.c) := BX.at 3 rfl
  have m4 : w1.cell? ⟨w.heap.size, 4, none⟩ = some (.slice d.h3.a M.R.length d.h3.c) := BX.at 4 rfl
  have x5 : w1.cell? ⟨w.heap.size, 5, none⟩ = some (.int .i64 hp) := BX.at 5 rfl
  have x6 : w1.cell? ⟨w.heap.size, 6, none⟩ = some (.int .i64 s) := BX.at 6 rfl
  have x7 : w1.cell? ⟨w.heap.size, 7, none⟩ = some (.int .i64 th) := BX.at 7 rfl
  have x8 : w1.cell? ⟨w.heap.size, 8, none⟩ = some (.int .u64 x) := BX.at 8 rfl
  have x9 : w1.cell? ⟨w.heap.size, 9, none⟩ = some (.int .u64 ver) := BX.at 9 rfl
  have x10 : w1.cell? ⟨w.heap.size, 10, none⟩ = some (.int .i64 8) := BX.at 10 rfl
  have x11 : w1.cell? ⟨w.heap.size, 11, none⟩ = some (.slice q.a steps.length q.c) := BX.at 11 rfl
  have x12 : w1.cell? ⟨w.heap.size, 12, none⟩ = some (.int .u64 done) := BX.at 12 rfl
  go_wp2_with fail
  refine (dpl_3 M d th 0 _ hA hT).mono ?_
  rintro e w2 ⟨rfl, hb2⟩
  replace hB := below_push2 hB hb2 (Nat.le_refl _)
  replace BX := BX.below hb2
  replace BR := BR.below hb2
  clear m0 m1 m2 m3 m4 x5 x6 x7 x8 x9 x10 x11 x12
  clear hb2
  have m0 : w2.cell? ⟨w.heap.size, 0, none⟩ = some (.int .i64 M.A) := BX.at 0 rfl
  have m1 : w2.cell? ⟨w.heap.size, 1, none⟩ = some (.int .i64 M.T) := BX.at 1 rfl
  have m2 : w2.cell? ⟨w.heap.size, 2, none⟩ = some (.slice d.h1.a M.L.length d.h1.c) := BX.at 2 rfl
  have m3 : w2.cell? ⟨w.heap.size, 3, none⟩ = some (.slice d.h2.a M.B.length d.h2.c) := BX.at 3 rfl
  have m4 : w2.cell? ⟨w.heap.size, 4, none⟩ = some (.slice d.h3.a M.R.length d.h3.c) := BX.at 4 rfl
  have x5 : w2.cell? ⟨w.heap.size, 5, none⟩ = some (.int .i64 hp) := BX.at 5 rfl
  have x6 : w2.cell? ⟨w.heap.size, 6, none⟩ = some (.int .i64 s) := BX.at 6 rfl
  have x7 : w2.cell? ⟨w.heap.size, 7, none⟩ = some (.int .i64 th) := BX.at 7 rfl
  have x8 : w2.cell? ⟨w.heap.size, 8, none⟩ = some (.int .u64 x) := BX.at 8 rfl
  have x9 : w2.cell? ⟨w.heap.size, 9, none⟩ = some (.int .u64 ver) := BX.at 9 rfl
  have x10 : w2.cell? ⟨w.heap.size, 10, none⟩ = some (.int .i64 8) := BX.at 10 rfl
  have x11 : w2.cell? ⟨w.heap.size, 11, none⟩ = some (.slice q.a steps.length q.c) := BX.at 11 rfl
  have x12 : w2.cell? ⟨w.heap.size, 12, none⟩ = some (.int .u64 done) := BX.at 12 rfl
  go_wp2_with (refine wpList_store_row rfl 39 _ _ rfl (w.heap.size + 1) _ rfl rfl 39 _ BR.h (by kernel_rfl) (by rfl) (by kernel_rfl) ?_)
  refine bodyPost_ret (v := .tuple #[.agg (accY 0 0 0 0), .bool false]) (results_cell_tmp rfl _ _ (w.heap.size + 1) 39 (accY 0 0 0 0) (0, 0) _ (.bool false) rfl rfl (Blk.row BR (accY 0 0 0 0)).h Try.underlying39 rfl (by kernel_rfl)) rfl ⟨rfl, below_setRow hB (by omega) _⟩
set_option maxRecDepth 100000 in
set_option maxHeartbeats 3200000 in
theorem dkNext_1 (M : MemV) (d : DH) (hp s th x ver : Int) (steps : List StepV) (done : Int) (tu en : Bool) (q : Hd) (w : World) (hA : M.A ≤ 8192) (hT : M.T ≤ 16) :
    Calls Try.prog 37 #[.agg (dcX M d ⟨hp, s, th, x, ver⟩ ⟨1, steps, done, tu, en⟩ q)] w fun e w' => e = .returned (.tuple #[.agg (accY 1 (atI M.A M.T 6 0) 0 0), .bool true]) ∧ Below w.heap.size w w' := by
  have hB : Below w.heap.size w ((w.alloc (.cells (dcX M d ⟨hp, s, th, x, ver⟩ ⟨1, steps, done, tu, en⟩ q) 84)).alloc (.cells (accY 0 0 0 0) 39)) := by (repeat (first | exact Below.refl _ _ | assumption | refine below_alloc2 ?_ (by first | exact Nat.le_refl _ | omega) _ | refine Below.drew ?_ | refine below_drewN ?_ _ | refine below_push2 ?_ ‹_› (by first | exact Nat.le_refl _ | omega) | refine Below.setCell ?_ (by first | (simp; done) | (simp; omega) | omega) _))
  have BX := (Blk.new w (dcX M d ⟨hp, s, th, x, ver⟩ ⟨1, steps, done, tu, en⟩ q) 84).alloc (.cells (accY 0 0 0 0) 39)
  have BR : Blk ((w.alloc (.cells (dcX M d ⟨hp, s, th, x, ver⟩ ⟨1, steps, done, tu, en⟩ q) 84)).alloc (.cells (accY 0 0 0 0) 39)) (w.heap.size + 1) (accY 0 0 0 0) 39 := by
    have := Blk.new (w.alloc (.cells (dcX M d ⟨hp, s, th, x, ver⟩ ⟨1, steps, done, tu, en⟩ q) 84)) (accY 0 0 0 0) 39
    simpa using this
  go_enter Try.func37, Try.ntmps37
  go_upto_region 1 with (fail)
  generalize ((w.alloc (.cells (dcX M d ⟨hp, s, th, x, ver⟩ ⟨1, steps, done, tu, en⟩ q) 84)).alloc (.cells (accY 0 0 0 0) 39)) = w0 at hB BX BR ⊢
  have m0 : w0.cell? ⟨w.heap.size, 0, none⟩ = some (.int .i64 M.A) := BX.at 0 rfl
  have m1 : w0.cell? ⟨w.heap.size, 1, none⟩ = some (.int .i64 M.T) := BX.at 1 rfl
  have m2 : w0.cell? ⟨w.heap.size, 2, none⟩ = some (.slice d.h1.a M.L.length d.h1.c) := BX.at 2 rfl
  have m3 : w0.cell? ⟨w.heap.size, 3, none⟩ = some (.slice d.h2.a M.B.length d.h2.c) := BX.at 3 rfl
  have m4 : w0.cell? ⟨w.heap.size, 4, none⟩ = some (.slice d.h3.a M.R.length d.h3.c) := BX.at 4 rfl
  have x5 : w0.cell? ⟨w.heap.size, 5, none⟩ = some (.int .i64 hp) := BX.at 5 rfl
  have x6 : w0.cell? ⟨w.heap.size, 6, none⟩ = some (.int .i64 s) := BX.at 6 rfl
  have x7 : w0.cell? ⟨w.heap.size, 7, none⟩ = some (.int .i64 th) := BX.at 7 rfl
  have x8 : w0.cell? ⟨w.heap.size, 8, none⟩ = some (.int .u64 x) := BX.at 8 rfl
  have x9 : w0.cell? ⟨w.heap.size, 9, none⟩ = some (.int .u64 ver) := BX.at 9 rfl
  have x10 : w0.cell? ⟨w.heap.size, 10, none⟩ = some (.int .i64 1) := BX.at 10 rfl
  have x11 : w0.cell? ⟨w.heap.size, 11, none⟩ = some (.slice q.a steps.length q.c) := BX.at 11 rfl
  have x12 : w0.cell? ⟨w.heap.size, 12, none⟩ = some (.int .u64 done) := BX.at 12 rfl
  go_wp2_with fail
  refine (dpl_6 M d _ hA hT).mono ?_
  rintro e w1 ⟨rfl, hb1⟩
  replace hB := below_push2 hB hb1 (Nat.le_refl _)
  replace BX := BX.below hb1
  replace BR := BR.below hb1
  clear m0 m1 m2 m3 m4 x5 x6 x7 x8 x9 x10 x11 x12
  clear hb1
  have m0 : w1.cell? ⟨w.heap.size, 0, none⟩ = some (.int .i64 M.A) := BX.at 0 rfl
  have m1 : w1.cell? ⟨w.heap.size, 1, none⟩ = some (.int .i64 M.T) := BX.at 1 rfl
  have m2 : w1.cell? ⟨w.heap.size, 2, none⟩ = some (.slice d.h1.a M.L.length d.h1.c) := BX.at 2 rfl
  have m3 : w1.cell? ⟨w.heap.size, 3, none⟩ = some (.slice d.h2.a M.B.length d.h2.c) := BX.at 3 rfl
  have m4 : w1.cell? ⟨w.heap.size, 4, none⟩ = some (.slice d.h3.a M.R.length d.h3.c) := BX.at 4 rfl
  have x5 : w1.cell? ⟨w.heap.size, 5, none⟩ = some (.int .i64 hp) := BX.at 5 rfl
  have x6 : w1.cell? ⟨w.heap.size, 6, none⟩ = some (.int .i64 s) := BX.at 6 rfl
  have x7 : w1.cell? ⟨w.heap.size, 7, none⟩ = some (.int .i64 th) := BX.at 7 rfl
  have x8 : w1.cell? ⟨w.heap.size, 8, none⟩ = some (.int .u64 x) := BX.at 8 rfl
  have x9 : w1.cell? ⟨w.heap.size, 9, none⟩ = some (.int .u64 ver) := BX.at 9 rfl
  have x10 : w1.cell? ⟨w.heap.size, 10, none⟩ = some (.int .i64 1) := BX.at 10 rfl
  have x11 : w1.cell? ⟨w.heap.size, 11, none⟩ = some (.slice q.a steps.length q.c) := BX.at 11 rfl
  have x12 : w1.cell? ⟨w.heap.size, 12, none⟩ = some (.int .u64 done) := BX.at 12 rfl
  go_wp2_with fail
  refine (dpl_3 M d th 0 _ hA hT).mono ?_
  rintro e w2 ⟨rfl, hb2⟩
  replace hB := below_push2 hB hb2 (Nat.le_refl _)
  replace BX := BX.below hb2
  replace BR := BR.below hb2
  clear m0 m1 m2 m3 m4 x5 x6 x7 x8 x9 x10 x11 x12
  clear hb2
  have m0 : w2.cell? ⟨w.heap.size, 0, none⟩ = some (.int .i64 M.A) := BX.at 0 rfl
  have m1 : w2.cell? ⟨w.heap.size, 1, none⟩ = some (.int .i64 M.T) := BX.at 1 rfl
  have m2 : w2.cell? ⟨w.heap.size, 2, none⟩ = some (.slice d.h1.a M.L.length d.h1.c) := BX.at 2 rfl
  have m3 : w2.cell? ⟨w.heap.size, 3, none⟩ = some (.slice d.h2.a M.B.length d.h2.c) := BX.at 3 rfl
  have m4 : w2.cell? ⟨w.heap.size, 4, none⟩ = some (.slice d.h3.a M.R.length d.h3.c) := BX.at 4 rfl
  have x5 : w2.cell? ⟨w.heap.size, 5, none⟩ = some (.int .i64 hp) := BX.at 5 rfl
  have x6 : w2.cell? ⟨w.heap.size, 6, none⟩ = some (.int .i64 s) := BX.at 6 rfl
  have x7 : w2.cell? ⟨w.heap.size, 7, none⟩ = some (.int .i64 th) := BX.at 7 rfl
  have x8 : w2.cell? ⟨w.heap.size, 8, none⟩ = some (.int .u64 x) := BX.at 8 rfl
  have x9 : w2.cell? ⟨w.heap.size, 9, none⟩ = some (.int .u64 ver) := BX.at 9 rfl
  have x10 : w2.cell? ⟨w.heap.size, 10, none⟩ = some (.int .i64 1) := BX.at 10 rfl
  have x11 : w2.cell? ⟨w.heap.size, 11, none⟩ = some (.slice q.a steps.length q.c) := BX.at 11 rfl
  have x12 : w2.cell? ⟨w.heap.size, 12, none⟩ = some (.int .u64 done) := BX.at 12 rfl
  go_wp2_with (refine wpList_store_row rfl 39 _ _ rfl (w.heap.size + 1) _ rfl rfl 39 _ BR.h (by kernel_rfl) (by rfl) (by kernel_rfl) ?_)
  refine bodyPost_ret (v := .tuple #[.agg (accY 1 (atI M.A M.T 6 0) 0 0), .bool true]) (results_cell_tmp rfl _ _ (w.heap.size + 1) 39 (accY 1 (atI M.A M.T 6 0) 0 0) (0, 0) _ (.bool true) rfl rfl (Blk.row BR (accY 1 (atI M.A M.T 6 0) 0 0)).h Try.underlying39 rfl (by kernel_rfl)) rfl ⟨rfl, below_setRow hB (by omega) _⟩
set_option maxRecDepth 100000 in
set_option maxHeartbeats 3200000 in
theorem dkNext_5 (M : MemV) (d : DH) (hp s th x ver : Int) (steps : List StepV) (done : Int) (tu en : Bool) (q : Hd) (w : World) (hA : M.A ≤ 8192) (hT : M.T ≤ 16) :
    Calls Try.prog 37 #[.agg (dcX M d ⟨hp, s, th, x, ver⟩ ⟨5, steps, done, tu, en⟩ q)] w fun e w' => e = .returned (.tuple #[.agg (accY 1 (atI M.A M.T 6 0) 0 0), .bool true]) ∧ Below w.heap.size w w' := by
  have hB : Below w.heap.size w ((w.alloc (.cells (dcX M d ⟨hp, s, th, x, ver⟩ ⟨5, steps, done, tu, en⟩ q) 84)).alloc (.cells (accY 0 0 0 0) 39)) := by (repeat (first | exact Below.refl _ _ | assumption | refine below_alloc2 ?_ (by first | exact Nat.le_refl _ | omega) _ | refine Below.drew ?_ | refine below_drewN ?_ _ | refine below_push2 ?_ ‹_› (by first | exact Nat.le_refl _ | omega) | refine Below.setCell ?_ (by first | (simp; done) | (simp; omega) | omega) _))
  have BX := (Blk.new w (dcX M d ⟨hp, s, th, x, ver⟩ ⟨5, steps, done, tu, en⟩ q) 84).alloc (.cells (accY 0 0 0 0) 39)
  have BR : Blk ((w.alloc (.cells (dcX M d ⟨hp, s, th, x, ver⟩ ⟨5, steps, done, tu, en⟩ q) 84)).alloc (.cells (accY 0 0 0 0) 39)) (w.heap.size + 1) (accY 0 0 0 0) 39 := by
    have := Blk.new (w.alloc (.cells (dcX M d ⟨hp, s, th, x, ver⟩ ⟨5, steps, done, tu, en⟩ q) 84)) (accY 0 0 0 0) 39
    simpa using this
  go_enter Try.func37, Try.ntmps37
  go_upto_region 1 with (fail)
  generalize ((w.alloc (.cells (dcX M d ⟨hp, s, th, x, ver⟩ ⟨5, steps, done, tu, en⟩ q) 84)).alloc (.cells (accY 0 0 0 0) 39)) = w0 at hB BX BR ⊢
  have m0 : w0.cell? ⟨w.heap.size, 0, none⟩ = some (.int .i64 M.A) := BX.at 0 rfl
  have m1 : w0.cell? ⟨w.heap.size, 1, none⟩ = some (.int .i64 M.T) := BX.at 1 rfl
  have m2 : w0.cell? ⟨w.heap.size, 2, none⟩ = some (.slice d.h1.a M.L.length d.h1.c) := BX.at 2 rfl
  have m3 : w0.cell? ⟨w.heap.size, 3, none⟩ = some (.slice d.h2.a M.B.length d.h2.c) := BX.at 3 rfl
  have m4 : w0.cell? ⟨w.heap.size, 4, none⟩ = some (.slice d.h3.a M.R.length d.h3.c) := BX.at 4 rfl
  have x5 : w0.cell? ⟨w.heap.size, 5, none⟩ = some (.int .i64 hp) := BX.at 5 rfl
  have x6 : w0.cell? ⟨w.heap.size, 6, none⟩ = some (.int .i64 s) := BX.at 6 rfl
  have x7 : w0.cell? ⟨w.heap.size, 7, none⟩ = some (.int .i64 th) := BX.at 7 rfl
  have x8 : w0.cell? ⟨w.heap.size, 8, none⟩ = some (.int .u64 x) := BX.at 8 rfl
  have x9 : w0.cell? ⟨w.heap.size, 9, none⟩ = some (.int .u64 ver) := BX.at 9 rfl
  have x10 : w0.cell? ⟨w.heap.size, 10, none⟩ = some (.int .i64 5) := BX.at 10 rfl
  have x11 : w0.cell? ⟨w.heap.size, 11, none⟩ = some (.slice q.a steps.length q.c) := BX.at 11 rfl
  have x12 : w0.cell? ⟨w.heap.size, 12, none⟩ = some (.int .u64 done) := BX.at 12 rfl
  go_wp2_with fail
  refine (dpl_6 M d _ hA hT).mono ?_
  rintro e w1 ⟨rfl, hb1⟩
  replace hB := below_push2 hB hb1 (Nat.le_refl _)
  replace BX := BX.below hb1
  replace BR := BR.below hb1
  clear m0 m1 m2 m3 m4 x5 x6 x7 x8 x9 x10 x11 x12
  clear hb1
  have m0 : w1.cell? ⟨w.heap.size, 0, none⟩ = some (.int .i64 M.A) := BX.at 0 rfl
  have m1 : w1.cell? ⟨w.heap.size, 1, none⟩ = some (.int .i64 M.T) := BX.at 1 rfl
  have m2 : w1.cell? ⟨w.heap.size, 2, none⟩ = some (.slice d.h1.a M.L.length d.h1.c) := BX.at 2 rfl
  have m3 : w1.cell? ⟨w.heap.size, 3, none⟩ = some (.slice d.h2.a M.B.length d.h2.c) := BX.at 3 rfl
  have m4 : w1.cell? ⟨w.heap.size, 4, none⟩ = some (.slice d.h3.a M.R.length d.h3.c) := BX.at 4 rfl
  have x5 : w1.cell? ⟨w.heap.size, 5, none⟩ = some (.int .i64 hp) := BX.at 5 rfl
  have x6 : w1.cell? ⟨w.heap.size, 6, none⟩ = some (.int .i64 s) := BX.at 6 rfl
  have x7 : w1.cell? ⟨w.heap.size, 7, none⟩ = some (.int .i64 th) := BX.at 7 rfl
  have x8 : w1.cell? ⟨w.heap.size, 8, none⟩ = some (.int .u64 x) := BX.at 8 rfl
  have x9 : w1.cell? ⟨w.heap.size, 9, none⟩ = some (.int .u64 ver) := BX.at 9 rfl
  have x10 : w1.cell? ⟨w.heap.size, 10, none⟩ = some (.int .i64 5) := BX.at 10 rfl
  have x11 : w1.cell? ⟨w.heap.size, 11, none⟩ = some (.slice q.a steps.length q.c) := BX.at 11 rfl
  have x12 : w1.cell? ⟨w.heap.size, 12, none⟩ = some (.int .u64 done) := BX.at 12 rfl
  go_wp2_with fail
  refine (dpl_3 M d th 0 _ hA hT).mono ?_
  rintro e w2 ⟨rfl, hb2⟩
  replace hB := below_push2 hB hb2 (Nat.le_refl _)
  replace BX := BX.below hb2
  replace BR := BR.below hb2
  clear m0 m1 m2 m3 m4 x5 x6 x7 x8 x9 x10 x11 x12
  clear hb2
  have m0 : w2.cell? ⟨w.heap.size, 0, none⟩ = some (.int .i64 M.A) := BX.at 0 rfl
  have m1 : w2.cell? ⟨w.heap.size, 1, none⟩ = some (.int .i64 M.T) := BX.at 1 rfl
  have m2 : w2.cell? ⟨w.heap.size, 2, none⟩ = some (.slice d.h1.a M.L.length d.h1.c) := BX.at 2 rfl
  have m3 : w2.cell? ⟨w.heap.size, 3, none⟩ = some (.slice d.h2.a M.B.length d.h2.c) := BX.at 3 rfl
  have m4 : w2.cell? ⟨w.heap.size, 4, none⟩ = some (.slice d.h3.a M.R.length d.h3.c) := BX.at 4 rfl
  have x5 : w2.cell? ⟨w.heap.size, 5, none⟩ = some (.int .i64 hp) := BX.at 5 rfl
  have x6 : w2.cell? ⟨w.heap.size, 6, none⟩ = some (.int .i64 s) := BX.at 6 rfl
  have x7 : w2.cell? ⟨w.heap.size, 7, none⟩ = some (.int .i64 th) := BX.at 7 rfl
  have x8 : w2.cell? ⟨w.heap.size, 8, none⟩ = some (.int .u64 x) := BX.at 8 rfl
  have x9 : w2.cell? ⟨w.heap.size, 9, none⟩ = some (.int .u64 ver) := BX.at 9 rfl
  have x10 : w2.cell? ⟨w.heap.size, 10, none⟩ = some (.int .i64 5) := BX.at 10 rfl
  have x11 : w2.cell? ⟨w.heap.size, 11, none⟩ = some (.slice q.a steps.length q.c) := BX.at 11 rfl
  have x12 : w2.cell? ⟨w.heap.size, 12, none⟩ = some (.int .u64 done) := BX.at 12 rfl
  go_wp2_with (refine wpList_store_row rfl 39 _ _ rfl (w.heap.size + 1) _ rfl rfl 39 _ BR.h (by kernel_rfl) (by rfl) (by kernel_rfl) ?_)
  refine bodyPost_ret (v := .tuple #[.agg (accY 1 (atI M.A M.T 6 0) 0 0), .bool true]) (results_cell_tmp rfl _ _ (w.heap.size + 1) 39 (accY 1 (atI M.A M.T 6 0) 0 0) (0, 0) _ (.bool true) rfl rfl (Blk.row BR (accY 1 (atI M.A M.T 6 0) 0 0)).h Try.underlying39 rfl (by kernel_rfl)) rfl ⟨rfl, below_setRow hB (by omega) _⟩
set_option maxRecDepth 100000 in
set_option maxHeartbeats 3200000 in
theorem dkNext_2 (M : MemV) (d : DH) (hp s th x ver : Int) (steps : List StepV) (done : Int) (tu en : Bool) (q : Hd) (w : World) (hA : M.A ≤ 8192) (hT : M.T ≤ 16) :
    Calls Try.prog 37 #[.agg (dcX M d ⟨hp, s, th, x, ver⟩ ⟨2, steps, done, tu, en⟩ q)] w fun e w' => e = .returned (.tuple #[.agg (accY 4 0 0 x), .bool true]) ∧ Below w.heap.size w w' := by
  have hB : Below w.heap.size w ((w.alloc (.cells (dcX M d ⟨hp, s, th, x, ver⟩ ⟨2, steps, done, tu, en⟩ q) 84)).alloc (.cells (accY 0 0 0 0) 39)) := by (repeat (first | exact Below.refl _ _ | assumption | refine below_alloc2 ?_ (by first | exact Nat.le_refl _ | omega) _ | refine Below.drew ?_ | refine below_drewN ?_ _ | refine below_push2 ?_ ‹_› (by first | exact Nat.le_refl _ | omega) | refine Below.setCell ?_ (by first | (simp; done) | (simp; omega) | omega) _))
  have BX := (Blk.new w (dcX M d ⟨hp, s, th, x, ver⟩ ⟨2, steps, done, tu, en⟩ q) 84).alloc (.cells (accY 0 0 0 0) 39)
  have BR : Blk ((w.alloc (.cells (dcX M d ⟨hp, s, th, x, ver⟩ ⟨2, steps, done, tu, en⟩ q) 84)).alloc (.cells (accY 0 0 0 0) 39)) (w.heap.size + 1) (accY 0 0 0 0) 39 := by
    have := Blk.new (w.alloc (.cells (dcX M d ⟨hp, s, th, x, ver⟩ ⟨2, steps, done, tu, en⟩ q) 84)) (accY 0 0 0 0) 39
    simpa using this
  go_enter Try.func37, Try.ntmps37
  go_upto_region 1 with (fail)
  generalize ((w.alloc (.cells (dcX M d ⟨hp, s, th, x, ver⟩ ⟨2, steps, done, tu, en⟩ q) 84)).alloc (.cells (accY 0 0 0 0) 39)) = w0 at hB BX BR ⊢
  have m0 : w0.cell? ⟨w.heap.size, 0, none⟩ = some (.int .i64 M.A) := BX.at 0 rfl
  have m1 : w0.cell? ⟨w.heap.size, 1, none⟩ = some (.int .i64 M.T) := BX.at 1 rfl
  have m2 : w0.cell? ⟨w.heap.size, 2, none⟩ = some (.slice d.h1.a M.L.length d.h1.c) := BX.at 2 rfl
  have m3 : w0.cell? ⟨w.heap.size, 3, none⟩ = some (.slice d.h2.a M.B.length d.h2.c) := BX.at 3 rfl
  have m4 : w0.cell? ⟨w.heap.size, 4, none⟩ = some (.slice d.h3.a M.R.length d.h3.c) := BX.at 4 rfl
  have x5 : w0.cell? ⟨w.heap.size, 5, none⟩ = some (.int .i64 hp) := BX.at 5 rfl
  have x6 : w0.cell? ⟨w.heap.size, 6, none⟩ = some (.int .i64 s) := BX.at 6 rfl
  have x7 : w0.cell? ⟨w.heap.size, 7, none⟩ = some (.int .i64 th) := BX.at 7 rfl
  have x8 : w0.cell? ⟨w.heap.size, 8, none⟩ = some (.int .u64 x) := BX.at 8 rfl
  have x9 : w0.cell? ⟨w.heap.size, 9, none⟩ = some (.int .u64 ver) := BX.at 9 rfl
  have x10 : w0.cell? ⟨w.heap.size, 10, none⟩ = some (.int .i64 2) := BX.at 10 rfl
  have x11 : w0.cell? ⟨w.heap.size, 11, none⟩ = some (.slice q.a steps.length q.c) := BX.at 11 rfl
  have x12 : w0.cell? ⟨w.heap.size, 12, none⟩ = some (.int .u64 done) := BX.at 12 rfl
  go_wp2_with fail
  refine (dpl_6 M d _ hA hT).mono ?_
  rintro e w1 ⟨rfl, hb1⟩
  replace hB := below_push2 hB hb1 (Nat.le_refl _)
  replace BX := BX.below hb1
  replace BR := BR.below hb1
  clear m0 m1 m2 m3 m4 x5 x6 x7 x8 x9 x10 x11 x12
  clear hb1
  have m0 : w1.cell? ⟨w.heap.size, 0, none⟩ = some (.int .i64 M.A) := BX.at 0 rfl
  have m1 : w1.cell? ⟨w.heap.size, 1, none⟩ = some (.int .i64 M.T) := BX.at 1 rfl
  have m2 : w1.cell? ⟨w.heap.size, 2, none⟩ = some (.slice d.h1.a M.L.length d.h1.c) := BX.at 2 rfl
  have m3 : w1.cell? ⟨w.heap.size, 3, none⟩ = some (.slice d.h2.a M.B.length d.h2.c) := BX.at 3 rfl
  have m4 : w1.cell? ⟨w.heap.size, 4, none⟩ = some (.slice d.h3.a M.R.length d.h3.c) := BX.at 4 rfl
  have x5 : w1.cell? ⟨w.heap.size, 5, none⟩ = some (.int .i64 hp) := BX.at 5 rfl
  have x6 : w1.cell? ⟨w.heap.size, 6, none⟩ = some (.int .i64 s) := BX.at 6 rfl
  have x7 : w1.cell? ⟨w.heap.size, 7, none⟩ = some (.int .i64 th) := BX.at 7 rfl
  have x8 : w1.cell? ⟨w.heap.size, 8, none⟩ = some (.int .u64 x) := BX.at 8 rfl
  have x9 : w1.cell? ⟨w.heap.size, 9, none⟩ = some (.int .u64 ver) := BX.at 9 rfl
  have x10 : w1.cell? ⟨w.heap.size, 10, none⟩ = some (.int .i64 2) := BX.at 10 rfl
  have x11 : w1.cell? ⟨w.heap.size, 11, none⟩ = some (.slice q.a steps.length q.c) := BX.at 11 rfl
  have x12 : w1.cell? ⟨w.heap.size, 12, none⟩ = some (.int .u64 done) := BX.at 12 rfl
  go_wp2_with fail
  refine (dpl_3 M d th 0 _ hA hT).mono ?_
  rintro e w2 ⟨rfl, hb2⟩
  replace hB := below_push2 hB hb2 (Nat.le_refl _)
  replace BX := BX.below hb2
  replace BR := BR.below hb2
  clear m0 m1 m2 m3 m4 x5 x6 x7 x8 x9 x10 x11 x12
  clear hb2
  have m0 : w2.cell? ⟨w.heap.size, 0, none⟩ = some (.int .i64 M.A) := BX.at 0 rfl
  have m1 : w2.cell? ⟨w.heap.size, 1, none⟩ = some (.int .i64 M.T) := BX.at 1 rfl
  have m2 : w2.cell? ⟨w.heap.size, 2, none⟩ = some (.slice d.h1.a M.L.length d.h1.c) := BX.at 2 rfl
  have m3 : w2.cell? ⟨w.heap.size, 3, none⟩ = some (.slice d.h2.a M.B.length d.h2.c) := BX.at 3 rfl
  have m4 : w2.cell? ⟨w.heap.size, 4, none⟩ = some (.slice d.h3.a M.R.length d.h3.c) := BX.at 4 rfl
  have x5 : w2.cell? ⟨w.heap.size, 5, none⟩ = some (.int .i64 hp) := BX.at 5 rfl
  have x6 : w2.cell? ⟨w.heap.size, 6, none⟩ = some (.int .i64 s) := BX.at 6 rfl
  have x7 : w2.cell? ⟨w.heap.size, 7, none⟩ = some (.int .i64 th) := BX.at 7 rfl
  have x8 : w2.cell? ⟨w.heap.size, 8, none⟩ = some (.int .u64 x) := BX.at 8 rfl
  have x9 : w2.cell? ⟨w.heap.size, 9, none⟩ = some (.int .u64 ver) := BX.at 9 rfl
  have x10 : w2.cell? ⟨w.heap.size, 10, none⟩ = some (.int .i64 2) := BX.at 10 rfl
  have x11 : w2.cell? ⟨w.heap.size, 11, none⟩ = some (.slice q.a steps.length q.c) := BX.at 11 rfl
  have x12 : w2.cell? ⟨w.heap.size, 12, none⟩ = some (.int .u64 done) := BX.at 12 rfl
  go_wp2_with (refine wpList_store_row rfl 39 _ _ rfl (w.heap.size + 1) _ rfl rfl 39 _ BR.h (by kernel_rfl) (by rfl) (by kernel_rfl) ?_)
  refine bodyPost_ret (v := .tuple #[.agg (accY 4 0 0 x), .bool true]) (results_cell_tmp rfl _ _ (w.heap.size + 1) 39 (accY 4 0 0 x) (0, 0) _ (.bool true) rfl rfl (Blk.row BR (accY 4 0 0 x)).h Try.underlying39 rfl (by kernel_rfl)) rfl ⟨rfl, below_setRow hB (by omega) _⟩
set_option maxRecDepth 100000 in
set_option maxHeartbeats 3200000 in
theorem dkNext_4 (M : MemV) (d : DH) (hp s th x ver : Int) (steps : List StepV) (done : Int) (tu en : Bool) (q : Hd) (w : World) (hA : M.A ≤ 8192) (hT : M.T ≤ 16) :
    Calls Try.prog 37 #[.agg (dcX M d ⟨hp, s, th, x, ver⟩ ⟨4, steps, done, tu, en⟩ q)] w fun e w' => e = .returned (.tuple #[.agg (accY 1 (atI M.A M.T 3 th) 0 0), .bool true]) ∧ Below w.heap.size w w' := by
  have hB : Below w.heap.size w ((w.alloc (.cells (dcX M d ⟨hp, s, th, x, ver⟩ ⟨4, steps, done, tu, en⟩ q) 84)).alloc (.cells (accY 0 0 0 0) 39)) := by (repeat (first | exact Below.refl _ _ | assumption | refine below_alloc2 ?_ (by first | exact Nat.le_refl _ | omega) _ | refine Below.drew ?_ | refine below_drewN ?_ _ | refine below_push2 ?_ ‹_› (by first | exact Nat.le_refl _ | omega) | refine Below.setCell ?_ (by first | (simp; done) | (simp; omega) | omega) _))
  have BX := (Blk.new w (dcX M d ⟨hp, s, th, x, ver⟩ ⟨4, steps, done, tu, en⟩ q) 84).alloc (.cells (accY 0 0 0 0) 39)
  have BR : Blk ((w.alloc (.cells (dcX M d ⟨hp, s, th, x, ver⟩ ⟨4, steps, done, tu, en⟩ q) 84)).alloc (.cells (accY 0 0 0 0) 39)) (w.heap.size + 1) (accY 0 0 0 0) 39 := by
    have := Blk.new (w.alloc (.cells (dcX M d ⟨hp, s, th, x, ver⟩ ⟨4, steps, done, tu, en⟩ q) 84)) (accY 0 0 0 0) 39
    simpa using this
  go_enter Try.func37, Try.ntmps37
  go_upto_region 1 with (fail)
  generalize ((w.alloc (.cells (dcX M d ⟨hp, s, th, x, ver⟩ ⟨4, steps, done, tu, en⟩ q) 84)).alloc (.cells (accY 0 0 0 0) 39)) = w0 at hB BX BR ⊢
  have m0 : w0.cell? ⟨w.heap.size, 0, none⟩ = some (.int .i64 M.A) := BX.at 0 rfl
  have m1 : w0.cell? ⟨w.heap.size, 1, none⟩ = some (.int .i64 M.T) := BX.at 1 rfl
  have m2 : w0.cell? ⟨w.heap.size, 2, none⟩ = some (.slice d.h1.a M.L.length d.h1.c) := BX.at 2 rfl
  have m3 : w0.cell? ⟨w.heap.size, 3, none⟩ = some (.slice d.h2.a M.B.length d.h2.c) := BX.at 3 rfl
  have m4 : w0.cell? ⟨w.heap.size, 4, none⟩ = some (.slice d.h3.a M.R.length d.h3.c) := BX.at 4 rfl
  have x5 : w0.cell? ⟨w.heap.size, 5, none⟩ = some (.int .i64 hp) := BX.at 5 rfl
  have x6 : w0.cell? ⟨w.heap.size, 6, none⟩ = some (.int .i64 s) := BX.at 6 rfl
  have x7 : w0.cell? ⟨w.heap.size, 7, none⟩ = some (.int .i64 th) := BX.at 7 rfl
  have x8 : w0.cell? ⟨w.heap.size, 8, none⟩ = some (.int .u64 x) := BX.at 8 rfl
  have x9 : w0.cell? ⟨w.heap.size, 9, none⟩ = some (.int .u64 ver) := BX.at 9 rfl
  have x10 : w0.cell? ⟨w.heap.size, 10, none⟩ = some (.int .i64 4) := BX.at 10 rfl
  have x11 : w0.cell? ⟨w.heap.size, 11, none⟩ = some (.slice q.a steps.length q.c) := BX.at 11 rfl
  have x12 : w0.cell? ⟨w.heap.size, 12, none⟩ = some (.int .u64 done) := BX.at 12 rfl
  go_wp2_with fail
  refine (dpl_6 M d _ hA hT).mono ?_
  rintro e w1 ⟨rfl, hb1⟩
  replace hB := below_push2 hB hb1 (Nat.le_refl _)
  replace BX := BX.below hb1
  replace BR := BR.below hb1
  clear m0 m1 m2 m3 m4 x5 x6 x7 x8 x9 x10 x11 x12
  clear hb1
  have m0 : w1.cell? ⟨w.heap.size, 0, none⟩ = some (.int .i64 M.A) := BX.at 0 rfl
  have m1 : w1.cell? ⟨w.heap.size, 1, none⟩ = some (.int .i64 M.T) := BX.at 1 rfl
  have m2 : w1.cell? ⟨w.heap.size, 2, none⟩ = some (.slice d.h1.a M.L.length d.h1.c) := BX.at 2 rfl
  have m3 : w1.cell? ⟨w.heap.size, 3, none⟩ = some (.slice d.h2.a M.B.length d.h2.c) := BX.at 3 rfl
  have m4 : w1.cell? ⟨w.heap.size, 4, none⟩ = some (.slice d.h3.a M.R.length d.h3.c) := BX.at 4 rfl
  have x5 : w1.cell? ⟨w.heap.size, 5, none⟩ = some (.int .i64 hp) := BX.at 5 rfl
  have x6 : w1.cell? ⟨w.heap.size, 6, none⟩ = some (.int .i64 s) := BX.at 6 rfl
  have x7 : w1.cell? ⟨w.heap.size, 7, none⟩ = some (.int .i64 th) := BX.at 7 rfl
  have x8 : w1.cell? ⟨w.heap.size, 8, none⟩ = some (.int .u64 x) := BX.at 8 rfl
  have x9 : w1.cell? ⟨w.heap.size, 9, none⟩ = some (.int .u64 ver) := BX.at 9 rfl
  have x10 : w1.cell? ⟨w.heap.size, 10, none⟩ = some (.int .i64 4) := BX.at 10 rfl
  have x11 : w1.cell? ⟨w.heap.size, 11, none⟩ = some (.slice q.a steps.length q.c) := BX.at 11 rfl
  have x12 : w1.cell? ⟨w.heap.size, 12, none⟩ = some (.int .u64 done) := BX.at 12 rfl
  go_wp2_with fail
  refine (dpl_3 M d th 0 _ hA hT).mono ?_
  rintro e w2 ⟨rfl, hb2⟩
  replace hB := below_push2 hB hb2 (Nat.le_refl _)
  replace BX := BX.below hb2
  replace BR := BR.below hb2
  clear m0 m1 m2 m3 m4 x5 x6 x7 x8 x9 x10 x11 x12
  clear hb2
  have m0 : w2.cell? ⟨w.heap.size, 0, none⟩ = some (.int .i64 M.A) := BX.at 0 rfl
  have m1 : w2.cell? ⟨w.heap.size, 1, none⟩ = some (.int .i64 M.T) := BX.at 1 rfl
  have m2 : w2.cell? ⟨w.heap.size, 2, none⟩ = some (.slice d.h1.a M.L.length d.h1.c) := BX.at 2 rfl
  have m3 : w2.cell? ⟨w.heap.size, 3, none⟩ = some (.slice d.h2.a M.B.length d.h2.c) := BX.at 3 rfl
  have m4 : w2.cell? ⟨w.heap.size, 4, none⟩ = some (.slice d.h3.a M.R.length d.h3.c) := BX.at 4 rfl
  have x5 : w2.cell? ⟨w.heap.size, 5, none⟩ = some (.int .i64 hp) := BX.at 5 rfl
  have x6 : w2.cell? ⟨w.heap.size, 6, none⟩ = some (.int .i64 s) := BX.at 6 rfl
  have x7 : w2.cell? ⟨w.heap.size, 7, none⟩ = some (.int .i64 th) := BX.at 7 rfl
  have x8 : w2.cell? ⟨w.heap.size, 8, none⟩ = some (.int .u64 x) := BX.at 8 rfl
  have x9 : w2.cell? ⟨w.heap.size, 9, none⟩ = some (.int .u64 ver) := BX.at 9 rfl
  have x10 : w2.cell? ⟨w.heap.size, 10, none⟩ = some (.int .i64 4) := BX.at 10 rfl
  have x11 : w2.cell? ⟨w.heap.size, 11, none⟩ = some (.slice q.a steps.length q.c) := BX.at 11 rfl
  have x12 : w2.cell? ⟨w.heap.size, 12, none⟩ = some (.int .u64 done) := BX.at 12 rfl
  go_wp2_with (refine wpList_store_row rfl 39 _ _ rfl (w.heap.size + 1) _ rfl rfl 39 _ BR.h (by kernel_rfl) (by rfl) (by kernel_rfl) ?_)
  refine bodyPost_ret (v := .tuple #[.agg (accY 1 (atI M.A M.T 3 th) 0 0), .bool true]) (results_cell_tmp rfl _ _ (w.heap.size + 1) 39 (accY 1 (atI M.A M.T 3 th) 0 0) (0, 0) _ (.bool true) rfl rfl (Blk.row BR (accY 1 (atI M.A M.T 3 th) 0 0)).h Try.underlying39 rfl (by kernel_rfl)) rfl ⟨rfl, below_setRow hB (by omega) _⟩
set_option maxRecDepth 100000 in
set_option maxHeartbeats 3200000 in
theorem dkNext_7 (M : MemV) (d : DH) (hp s th x ver : Int) (steps : List StepV) (done : Int) (tu en : Bool) (q : Hd) (w : World) (hA : M.A ≤ 8192) (hT : M.T ≤ 16) :
    Calls Try.prog 37 #[.agg (dcX M d ⟨hp, s, th, x, ver⟩ ⟨7, steps, done, tu, en⟩ q)] w fun e w' => e = .returned (.tuple #[.agg (accY 3 (atI M.A M.T 6 0) ver 0), .bool true]) ∧ Below w.heap.size w w' := by
  have hB : Below w.heap.size w ((w.alloc (.cells (dcX M d ⟨hp, s, th, x, ver⟩ ⟨7, steps, done, tu, en⟩ q) 84)).alloc (.cells (accY 0 0 0 0) 39)) := by (repeat (first | exact Below.refl _ _ | assumption | refine below_alloc2 ?_ (by first | exact Nat.le_refl _ | omega) _ | refine Below.drew ?_ | refine below_drewN ?_ _ | refine below_push2 ?_ ‹_› (by first | exact Nat.le_refl _ | omega) | refine Below.setCell ?_ (by first | (simp; done) | (simp; omega) | omega) _))
  have BX := (Blk.new w (dcX M d ⟨hp, s, th, x, ver⟩ ⟨7, steps, done, tu, en⟩ q) 84).alloc (.cells (accY 0 0 0 0) 39)
  have BR : Blk ((w.alloc (.cells (dcX M d ⟨hp, s, th, x, ver⟩ ⟨7, steps, done, tu, en⟩ q) 84)).alloc (.cells (accY 0 0 0 0) 39)) (w.heap.size + 1) (accY 0 0 0 0) 39 := by
    have := Blk.new (w.alloc (.cells (dcX M d ⟨hp, s, th, x, ver⟩ ⟨7, steps, done, tu, en⟩ q) 84)) (accY 0 0 0 0) 39
    simpa using this
  go_enter Try.func37, Try.ntmps37
  go_upto_region 1 with (fail)
  generalize ((w.alloc (.cells (dcX M d ⟨hp, s, th, x, ver⟩ ⟨7, steps, done, tu, en⟩ q) 84)).alloc (.cells (accY 0 0 0 0) 39)) = w0 at hB BX BR ⊢
  have m0 : w0.cell? ⟨w.heap.size, 0, none⟩ = some (.int .i64 M.A) := BX.at 0 rfl
  have m1 : w0.cell? ⟨w.heap.size, 1, none⟩ = some (.int .i64 M.T) := BX.at 1 rfl
  have m2 : w0.cell? ⟨w.heap.size, 2, none⟩ = some (.slice d.h1.a M.L.length d.h1.c) := BX.at 2 rfl
  have m3 : w0.cell? ⟨w.heap.size, 3, none⟩ = some (.slice d.h2.a M.B.length d.h2.c) := BX.at 3 rfl
  have m4 : w0.cell? ⟨w.heap.size, 4, none⟩ = some (.slice d.h3.a M.R.length d.h3.c) := BX.at 4 rfl
  have x5 : w0.cell? ⟨w.heap.size, 5, none⟩ = some (.int .i64 hp) := BX.at 5 rfl
  have x6 : w0.cell? ⟨w.heap.size, 6, none⟩ = some (.int .i64 s) := BX.at 6 rfl
  have x7 : w0.cell? ⟨w.heap.size, 7, none⟩ = some (.int .i64 th) := BX.at 7 rfl
  have x8 : w0.cell? ⟨w.heap.size, 8, none⟩ = some (.int .u64 x) := BX.at 8 rfl
  have x9 : w0.cell? ⟨w.heap.size, 9, none⟩ = some (.int .u64 ver) := BX.at 9 rfl
  have x10 : w0.cell? ⟨w.heap.size, 10, none⟩ = some (.int .i64 7) := BX.at 10 rfl
  have x11 : w0.cell? ⟨w.heap.size, 11, none⟩ = some (.slice q.a steps.length q.c) := BX.at 11 rfl
  have x12 : w0.cell? ⟨w.heap.size, 12, none⟩ = some (.int .u64 done) := BX.at 12 rfl
  go_wp2_with fail
  refine (dpl_6 M d _ hA hT).mono ?_
  rintro e w1 ⟨rfl, hb1⟩
  replace hB := below_push2 hB hb1 (Nat.le_refl _)
  replace BX := BX.below hb1
  replace BR := BR.below hb1
  clear m0 m1 m2 m3 m4 x5 x6 x7 x8 x9 x10 x11 x12
  clear hb1
  have m0 : w1.cell? ⟨w.heap.size, 0, none⟩ = some (.int .i64 M.A) := BX.at 0 rfl
  have m1 : w1.cell? ⟨w.heap.size, 1, none⟩ = some (.int .i64 M.T) := BX.at 1 rfl
  have m2 : w1.cell? ⟨w.heap.size, 2, none⟩ = some (.slice d.h1.a M.L.length d.h1.c) := BX.at 2 rfl
  have m3 : w1.cell? ⟨w.heap.size, 3, none⟩ = some (.slice d.h2.a M.B.length d.h2.c) := BX.at 3 rfl
  have m4 : w1.cell? ⟨w.heap.size, 4, none⟩ = some (.slice d.h3.a M.R.length d.h3.c) := BX.at 4 rfl
  have x5 : w1.cell? ⟨w.heap.size, 5, none⟩ = some (.int .i64 hp) := BX.at 5 rfl
  have x6 : w1.cell? ⟨w.heap.size, 6, none⟩ = some (.int .i64 s) := BX.at 6 rfl
  have x7 : w1.cell? ⟨w.heap.size, 7, none⟩ = some (.int .i64 th) := BX.at 7 rfl
  have x8 : w1.cell? ⟨w.heap.size, 8, none⟩ = some (.int .u64 x) := BX.at 8 rfl
  have x9 : w1.cell? ⟨w.heap.size, 9, none⟩ = some (.int .u64 ver) := BX.at 9 rfl
  have x10 : w1.cell? ⟨w.heap.size, 10, none⟩ = some (.int .i64 7) := BX.at 10 rfl
  have x11 : w1.cell? ⟨w.heap.size, 11, none⟩ = some (.slice q.a steps.length q.c) := BX.at 11 rfl
  have x12 : w1.cell? ⟨w.heap.size, 12, none⟩ = some (.int .u64 done) := BX.at 12 rfl
  go_wp2_with fail
  refine (dpl_3 M d th 0 _ hA hT).mono ?_
  rintro e w2 ⟨rfl, hb2⟩
  replace hB := below_push2 hB hb2 (Nat.le_refl _)
  replace BX := BX.below hb2
  replace BR := BR.below hb2
  clear m0 m1 m2 m3 m4 x5 x6 x7 x8 x9 x10 x11 x12
  clear hb2
  have m0 : w2.cell? ⟨w.heap.size, 0, none⟩ = some (.int .i64 M.A) := BX.at 0 rfl
  have m1 : w2.cell? ⟨w.heap.size, 1, none⟩ = some (.int .i64 M.T) := BX.at 1 rfl
  have m2 : w2.cell? ⟨w.heap.size, 2, none⟩ = some (.slice d.h1.a M.L.length d.h1.c) := BX.at 2 rfl
  have m3 : w2.cell? ⟨w.heap.size, 3, none⟩ = some (.slice d.h2.a M.B.length d.h2.c) := BX.at 3 rfl
  have m4 : w2.cell? ⟨w.heap.size, 4, none⟩ = some (.slice d.h3.a M.R.length d.h3.c) := BX.at 4 rfl
  have x5 : w2.cell? ⟨w.heap.size, 5, none⟩ = some (.int .i64 hp) := BX.at 5 rfl
  have x6 : w2.cell? ⟨w.heap.size, 6, none⟩ = some (.int .i64 s) := BX.at 6 rfl
  have x7 : w2.cell? ⟨w.heap.size, 7, none⟩ = some (.int .i64 th) := BX.at 7 rfl
  have x8 : w2.cell? ⟨w.heap.size, 8, none⟩ = some (.int .u64 x) := BX.at 8 rfl
  have x9 : w2.cell? ⟨w.heap.size, 9, none⟩ = some (.int .u64 ver) := BX.at 9 rfl
  have x10 : w2.cell? ⟨w.heap.size, 10, none⟩ = some (.int .i64 7) := BX.at 10 rfl
  have x11 : w2.cell? ⟨w.heap.size, 11, none⟩ = some (.slice q.a steps.length q.c) := BX.at 11 rfl
  have x12 : w2.cell? ⟨w.heap.size, 12, none⟩ = some (.int .u64 done) := BX.at 12 rfl
  go_wp2_with (refine wpList_store_row rfl 39 _ _ rfl (w.heap.size + 1) _ rfl rfl 39 _ BR.h (by kernel_rfl) (by rfl) (by kernel_rfl) ?_)
  refine bodyPost_ret (v := .tuple #[.agg (accY 3 (atI M.A M.T 6 0) ver 0), .bool true]) (results_cell_tmp rfl _ _ (w.heap.size + 1) 39 (accY 3 (atI M.A M.T 6 0) ver 0) (0, 0) _ (.bool true) rfl rfl (Blk.row BR (accY 3 (atI M.A M.T 6 0) ver 0)).h Try.underlying39 rfl (by kernel_rfl)) rfl ⟨rfl, below_setRow hB (by omega) _⟩
set_option maxRecDepth 100000 in
set_option maxHeartbeats 3200000 in
theorem dkNext_6 (M : MemV) (d : DH) (hp s th x ver : Int) (steps : List StepV) (done : Int) (tu en : Bool) (q : Hd) (w : World) (hA : M.A ≤ 8192) (hT : M.T ≤ 16) (hs : s ≠ 3) :
    Calls Try.prog 37 #[.agg (dcX M d ⟨hp, s, th, x, ver⟩ ⟨6, steps, done, tu, en⟩ q)] w fun e w' => e = .returned (.tuple #[.agg (accY 3 (atI M.A M.T 3 th) done x), .bool true]) ∧ Below w.heap.size w w' := by
  have q1 : (s == 3) = false := by simpa using hs
  clear hs
  have hB : Below w.heap.size w ((w.alloc (.cells (dcX M d ⟨hp, s, th, x, ver⟩ ⟨6, steps, done, tu, en⟩ q) 84)).alloc (.cells (accY 0 0 0 0) 39)) := by (repeat (first | exact Below.refl _ _ | assumption | refine below_alloc2 ?_ (by first | exact Nat.le_refl _ | omega) _ | refine Below.drew ?_ | refine below_drewN ?_ _ | refine below_push2 ?_ ‹_› (by first | exact Nat.le_refl _ | omega) | refine Below.setCell ?_ (by first | (simp; done) | (simp; omega) | omega) _))
  have BX := (Blk.new w (dcX M d ⟨hp, s, th, x, ver⟩ ⟨6, steps, done, tu, en⟩ q) 84).alloc (.cells (accY 0 0 0 0) 39)
  have BR : Blk ((w.alloc (.cells (dcX M d ⟨hp, s, th, x, ver⟩ ⟨6, steps, done, tu, en⟩ q) 84)).alloc (.cells (accY 0 0 0 0) 39)) (w.heap.size + 1) (accY 0 0 0 0) 39 := by
    have := Blk.new (w.alloc (.cells (dcX M d ⟨hp, s, th, x, ver⟩ ⟨6, steps, done, tu, en⟩ q) 84)) (accY 0 0 0 0) 39
    simpa using this
  go_enter Try.func37, Try.ntmps37
  go_upto_region 1 with (fail)
  generalize ((w.alloc (.cells (dcX M d ⟨hp, s, th, x, ver⟩ ⟨6, steps, done, tu, en⟩ q) 84)).alloc (.cells (accY 0 0 0 0) 39)) = w0 at hB BX BR ⊢
  have m0 : w0.cell? ⟨w.heap.size, 0, none⟩ = some (.int .i64 M.A) := BX.at 0 rfl
  have m1 : w0.cell? ⟨w.heap.size, 1, none⟩ = some (.int .i64 M.T) := BX.at 1 rfl
  have m2 : w0.cell? ⟨w.heap.size, 2, none⟩ = some (.slice d.h1.a M.L.length d.h1.c) := BX.at 2 rfl
  have m3 : w0.cell? ⟨w.heap.size, 3, none⟩ = some (.slice d.h2.a M.B.length d.h2.c) := BX.at 3 rfl
  have m4 : w0.cell? ⟨w.heap.size, 4, none⟩ = some (.slice d.h3.a M.R.length d.h3.c) := BX.at 4 rfl
  have x5 : w0.cell? ⟨w.heap.size, 5, none⟩ = some (.int .i64 hp) := BX.at 5 rfl
  have x6 : w0.cell? ⟨w.heap.size, 6, none⟩ = some (.int .i64 s) := BX.at 6 rfl
  have x7 : w0.cell? ⟨w.heap.size, 7, none⟩ = some (.int .i64 th) := BX.at 7 rfl
  have x8 : w0.cell? ⟨w.heap.size, 8, none⟩ = some (.int .u64 x) := BX.at 8 rfl
  have x9 : w0.cell? ⟨w.heap.size, 9, none⟩ = some (.int .u64 ver) := BX.at 9 rfl
  have x10 : w0.cell? ⟨w.heap.size, 10, none⟩ = some (.int .i64 6) := BX.at 10 rfl
  have x11 : w0.cell? ⟨w.heap.size, 11, none⟩ = some (.slice q.a steps.length q.c) := BX.at 11 rfl
  have x12 : w0.cell? ⟨w.heap.size, 12, none⟩ = some (.int .u64 done) := BX.at 12 rfl
  go_wp2_with fail
  refine (dpl_6 M d _ hA hT).mono ?_
  rintro e w1 ⟨rfl, hb1⟩
  replace hB := below_push2 hB hb1 (Nat.le_refl _)
  replace BX := BX.below hb1
  replace BR := BR.below hb1
  clear m0 m1 m2 m3 m4 x5 x6 x7 x8 x9 x10 x11 x12
  clear hb1
  have m0 : w1.cell? ⟨w.heap.size, 0, none⟩ = some (.int .i64 M.A) := BX.at 0 rfl
  have m1 : w1.cell? ⟨w.heap.size, 1, none⟩ = some (.int .i64 M.T) := BX.at 1 rfl
  have m2 : w1.cell? ⟨w.heap.size, 2, none⟩ = some (.slice d.h1.a M.L.length d.h1.c) := BX.at 2 rfl
  have m3 : w1.cell? ⟨w.heap.size, 3, none⟩ = some (.slice d.h2.a M.B.length d.h2.c) := BX.at 3 rfl
  have m4 : w1.cell? ⟨w.heap.size, 4, none⟩ = some (.slice d.h3.a M.R.length d.h3.c) := BX.at 4 rfl
  have x5 : w1.cell? ⟨w.heap.size, 5, none⟩ = some (.int .i64 hp) := BX.at 5 rfl
  have x6 : w1.cell? ⟨w.heap.size, 6, none⟩ = some (.int .i64 s) := BX.at 6 rfl
  have x7 : w1.cell? ⟨w.heap.size, 7, none⟩ = some (.int .i64 th) := BX.at 7 rfl
  have x8 : w1.cell? ⟨w.heap.size, 8, none⟩ = some (.int .u64 x) := BX.at 8 rfl
  have x9 : w1.cell? ⟨w.heap.size, 9, none⟩ = some (.int .u64 ver) := BX.at 9 rfl
  have x10 : w1.cell? ⟨w.heap.size, 10, none⟩ = some (.int .i64 6) := BX.at 10 rfl
  have x11 : w1.cell? ⟨w.heap.size, 11, none⟩ = some (.slice q.a steps.length q.c) := BX.at 11 rfl
  have x12 : w1.cell? ⟨w.heap.size, 12, none⟩ = some (.int .u64 done) := BX.at 12 rfl
  go_wp2_with fail
  refine (dpl_3 M d th 0 _ hA hT).mono ?_
  rintro e w2 ⟨rfl, hb2⟩
  replace hB := below_push2 hB hb2 (Nat.le_refl _)
  replace BX := BX.below hb2
  replace BR := BR.below hb2
  clear m0 m1 m2 m3 m4 x5 x6 x7 x8 x9 x10 x11 x12
  clear hb2
  have m0 : w2.cell? ⟨w.heap.size, 0, none⟩ = some (.int .i64 M.A) := BX.at 0 rfl
  have m1 : w2.cell? ⟨w.heap.size, 1, none⟩ = some (.int .i64 M.T) := BX.at 1 rfl
  have m2 : w2.cell? ⟨w.heap.size, 2, none⟩ = some (.slice d.h1.a M.L.length d.h1.c) := BX.at 2 rfl
  have m3 : w2.cell? ⟨w.heap.size, 3, none⟩ = some (.slice d.h2.a M.B.length d.h2.c) := BX.at 3 rfl
  have m4 : w2.cell? ⟨w.heap.size, 4, none⟩ = some (.slice d.h3.a M.R.length d.h3.c) := BX.at 4 rfl
  have x5 : w2.cell? ⟨w.heap.size, 5, none⟩ = some (.int .i64 hp) := BX.at 5 rfl
  have x6 : w2.cell? ⟨w.heap.size, 6, none⟩ = some (.int .i64 s) := BX.at 6 rfl
  have x7 : w2.cell? ⟨w.heap.size, 7, none⟩ = some (.int .i64 th) := BX.at 7 rfl
  have x8 : w2.cell? ⟨w.heap.size, 8, none⟩ = some (.int .u64 x) := BX.at 8 rfl
  have x9 : w2.cell? ⟨w.heap.size, 9, none⟩ = some (.int .u64 ver) := BX.at 9 rfl
  have x10 : w2.cell? ⟨w.heap.size, 10, none⟩ = some (.int .i64 6) := BX.at 10 rfl
  have x11 : w2.cell? ⟨w.heap.size, 11, none⟩ = some (.slice q.a steps.length q.c) := BX.at 11 rfl
  have x12 : w2.cell? ⟨w.heap.size, 12, none⟩ = some (.int .u64 done) := BX.at 12 rfl
  go_wp2_with (refine wpList_store_row rfl 39 _ _ rfl (w.heap.size + 1) _ rfl rfl 39 _ BR.h (by kernel_rfl) (by rfl) (by kernel_rfl) ?_)
  refine bodyPost_ret (v := .tuple #[.agg (accY 3 (atI M.A M.T 3 th) done x), .bool true]) (results_cell_tmp rfl _ _ (w.heap.size + 1) 39 (accY 3 (atI M.A M.T 3 th) done x) (0, 0) _ (.bool true) rfl rfl (Blk.row BR (accY 3 (atI M.A M.T 3 th) done x)).h Try.underlying39 rfl (by kernel_rfl)) rfl ⟨rfl, below_setRow hB (by omega) _⟩
set_option maxRecDepth 100000 in
set_option maxHeartbeats 3200000 in
theorem dkNext_6s (M : MemV) (d : DH) (hp s th x ver : Int) (steps : List StepV) (done : Int) (tu en : Bool) (q : Hd) (w : World) (hA : M.A ≤ 8192) (hT : M.T ≤ 16) (hs : s = 3) :
    Calls Try.prog 37 #[.agg (dcX M d ⟨hp, s, th, x, ver⟩ ⟨6, steps, done, tu, en⟩ q)] w fun e w' => e = .returned (.tuple #[.agg (accY 3 (atI M.A M.T 3 th) done 1), .bool true]) ∧ Below w.heap.size w w' := by
  have q1 : (s == 3) = true := by simpa using hs
  clear hs
  have hB : Below w.heap.size w ((w.alloc (.cells (dcX M d ⟨hp, s, th, x, ver⟩ ⟨6, steps, done, tu, en⟩ q) 84)).alloc (.cells (accY 0 0 0 0) 39)) := by (repeat (first | exact Below.refl _ _ | assumption | refine below_alloc2 ?_ (by first | exact Nat.le_refl _ | omega) _ | refine Below.drew ?_ | refine below_drewN ?_ _ | refine below_push2 ?_ ‹_› (by first | exact Nat.le_refl _ | omega) | refine Below.setCell ?_ (by first | (simp; done) | (simp; omega) | omega) _))
  have BX := (Blk.new w (dcX M d ⟨hp, s, th, x, ver⟩ ⟨6, steps, done, tu, en⟩ q) 84).alloc (.cells (accY 0 0 0 0) 39)
  have BR : Blk ((w.alloc (.cells (dcX M d ⟨hp, s, th, x, ver⟩ ⟨6, steps, done, tu, en⟩ q) 84)).alloc (.cells (accY 0 0 0 0) 39)) (w.heap.size + 1) (accY 0 0 0 0) 39 := by
    have := Blk.new (w.alloc (.cells (dcX M d ⟨hp, s, th, x, ver⟩ ⟨6, steps, done, tu, en⟩ q) 84)) (accY 0 0 0 0) 39
    simpa using this
  go_enter Try.func37, Try.ntmps37
  go_upto_region 1 with (fail)
  generalize ((w.alloc (.cells (dcX M d ⟨hp, s, th, x, ver⟩ ⟨6, steps, done, tu, en⟩ q) 84)).alloc (.cells (accY 0 0 0 0) 39)) = w0 at hB BX BR ⊢
  have m0 : w0.cell? ⟨w.heap.size, 0, none⟩ = some (.int .i64 M.A) := BX.at 0 rfl
  have m1 : w0.cell? ⟨w.heap.size, 1, none⟩ = some (.int .i64 M.T) := BX.at 1 rfl
  have m2 : w0.cell? ⟨w.heap.size, 2, none⟩ = some (.slice d.h1.a M.L.length d.h1.c) := BX.at 2 rfl
  have m3 : w0.cell? ⟨w.heap.size, 3, none⟩ = some (.slice d.h2.a M.B.length d.h2.c) := BX.at 3 rfl
  have m4 : w0.cell? ⟨w.heap.size, 4, none⟩ = some (.slice d.h3.a M.R.length d.h3.c) := BX.at 4 rfl
  have x5 : w0.cell? ⟨w.heap.size, 5, none⟩ = some (.int .i64 hp) := BX.at 5 rfl
  have x6 : w0.cell? ⟨w.heap.size, 6, none⟩ = some (.int .i64 s) := BX.at 6 rfl
  have x7 : w0.cell? ⟨w.heap.size, 7, none⟩ = some (.int .i64 th) := BX.at 7 rfl
  have x8 : w0.cell? ⟨w.heap.size, 8, none⟩ = some (.int .u64 x) := BX.at 8 rfl
  have x9 : w0.cell? ⟨w.heap.size, 9, none⟩ = some (.int .u64 ver) := BX.at 9 rfl
  have x10 : w0.cell? ⟨w.heap.size, 10, none⟩ = some (.int .i64 6) := BX.at 10 rfl
  have x11 : w0.cell? ⟨w.heap.size, 11, none⟩ = some (.slice q.a steps.length q.c) := BX.at 11 rfl
  have x12 : w0.cell? ⟨w.heap.size, 12, none⟩ = some (.int .u64 done) := BX.at 12 rfl
  go_wp2_with fail
  refine (dpl_6 M d _ hA hT).mono ?_
  rintro e w1 ⟨rfl, hb1⟩
  replace hB := below_push2 hB hb1 (Nat.le_refl _)
  replace BX := BX.below hb1
  replace BR := BR.below hb1
  clear m0 m1 m2 m3 m4 x5 x6 x7 x8 x9 x10 x11 x12
  clear hb1
  have m0 : w1.cell? ⟨w.heap.size, 0, none⟩ = some (.int .i64 M.A) := BX.at 0 rfl
  have m1 : w1.cell? ⟨w.heap.size, 1, none⟩ = some (.int .i64 M.T) := BX.at 1 rfl
  have m2 : w1.cell? ⟨w.heap.size, 2, none⟩ = some (.slice d.h1.a M.L.length d.h1.c) := BX.at 2 rfl
  have m3 : w1.cell? ⟨w.heap.size, 3, none⟩ = some (.slice d.h2.a M.B.length d.h2.c) := BX.at 3 rfl
  have m4 : w1.cell? ⟨w.heap.size, 4, none⟩ = some (.slice d.h3.a M.R.length d.h3.c) := BX.at 4 rfl
  have x5 : w1.cell? ⟨w.heap.size, 5, none⟩ = some (.int .i64 hp) := BX.at 5 rfl
  have x6 : w1.cell? ⟨w.heap.size, 6, none⟩ = some (.int .i64 s) := BX.at 6 rfl
  have x7 : w1.cell? ⟨w.heap.size, 7, none⟩ = some (.int .i64 th) := BX.at 7 rfl
  have x8 : w1.cell? ⟨w.heap.size, 8, none⟩ = some (.int .u64 x) := BX.at 8 rfl
  have x9 : w1.cell? ⟨w.heap.size, 9, none⟩ = some (.int .u64 ver) := BX.at 9 rfl
  have x10 : w1.cell? ⟨w.heap.size, 10, none⟩ = some (.int .i64 6) := BX.at 10 rfl
  have x11 : w1.cell? ⟨w.heap.size, 11, none⟩ = some (.slice q.a steps.length q.c) := BX.at 11 rfl
  have x12 : w1.cell? ⟨w.heap.size, 12, none⟩ = some (.int .u64 done) := BX.at 12 rfl
  go_wp2_with fail
  refine (dpl_3 M d th 0 _ hA hT).mono ?_
  rintro e w2 ⟨rfl, hb2⟩
  replace hB := below_push2 hB hb2 (Nat.le_refl _)
  replace BX := BX.below hb2
  replace BR := BR.below hb2
  clear m0 m1 m2 m3 m4 x5 x6 x7 x8 x9 x10 x11 x12
  clear hb2
  have m0 : w2.cell? ⟨w.heap.size, 0, none⟩ = some (.int .i64 M.A) := BX.at 0 rfl
  have m1 : w2.cell? ⟨w.heap.size, 1, none⟩ = some (.int .i64 M.T) := BX.at 1 rfl
  have m2 : w2.cell? ⟨w.heap.size, 2, none⟩ = some (.slice d.h1.a M.L.length d.h1.c) := BX.at 2 rfl
  have m3 : w2.cell? ⟨w.heap.size, 3, none⟩ = some (.slice d.h2.a M.B.length d.h2.c) := BX.at 3 rfl
  have m4 : w2.cell? ⟨w.heap.size, 4, none⟩ = some (.slice d.h3.a M.R.length d.h3.c) := BX.at 4 rfl
  have x5 : w2.cell? ⟨w.heap.size, 5, none⟩ = some (.int .i64 hp) := BX.at 5 rfl
  have x6 : w2.cell? ⟨w.heap.size, 6, none⟩ = some (.int .i64 s) := BX.at 6 rfl
  have x7 : w2.cell? ⟨w.heap.size, 7, none⟩ = some (.int .i64 th) := BX.at 7 rfl
  have x8 : w2.cell? ⟨w.heap.size, 8, none⟩ = some (.int .u64 x) := BX.at 8 rfl
  have x9 : w2.cell? ⟨w.heap.size, 9, none⟩ = some (.int .u64 ver) := BX.at 9 rfl
  have x10 : w2.cell? ⟨w.heap.size, 10, none⟩ = some (.int .i64 6) := BX.at 10 rfl
  have x11 : w2.cell? ⟨w.heap.size, 11, none⟩ = some (.slice q.a steps.length q.c) := BX.at 11 rfl
  have x12 : w2.cell? ⟨w.heap.size, 12, none⟩ = some (.int .u64 done) := BX.at 12 rfl
  go_wp2_with (refine wpList_store_row rfl 39 _ _ rfl (w.heap.size + 1) _ rfl rfl 39 _ BR.h (by kernel_rfl) (by rfl) (by kernel_rfl) ?_)
  refine bodyPost_ret (v := .tuple #[.agg (accY 3 (atI M.A M.T 3 th) done 1), .bool true]) (results_cell_tmp rfl _ _ (w.heap.size + 1) 39 (accY 3 (atI M.A M.T 3 th) done 1) (0, 0) _ (.bool true) rfl rfl (Blk.row BR (accY 3 (atI M.A M.T 3 th) done 1)).h Try.underlying39 rfl (by kernel_rfl)) rfl ⟨rfl, below_setRow hB (by omega) _⟩
set_option maxRecDepth 100000 in
set_option maxHeartbeats 3200000 in
theorem dkNext_0 (M : MemV) (d : DH) (hp s th x ver : Int) (steps : List StepV) (done : Int) (tu en : Bool) (q : Hd) (w : World) (hA : M.A ≤ 8192) (hT : M.T ≤ 16) :
    Calls Try.prog 37 #[.agg (dcX M d ⟨hp, s, th, x, ver⟩ ⟨0, steps, done, tu, en⟩ q)] w fun e w' => e = .returned (.tuple #[.agg (accY 2 (hazI M.A M.T hp 0) 0 x), .bool true]) ∧ Below w.heap.size w w' := by
  have hB : Below w.heap.size w ((w.alloc (.cells (dcX M d ⟨hp, s, th, x, ver⟩ ⟨0, steps, done, tu, en⟩ q) 84)).alloc (.cells (accY 0 0 0 0) 39)) := by (repeat (first | exact Below.refl _ _ | assumption | refine below_alloc2 ?_ (by first | exact Nat.le_refl _ | omega) _ | refine Below.drew ?_ | refine below_drewN ?_ _ | refine below_push2 ?_ ‹_› (by first | exact Nat.le_refl _ | omega) | refine Below.setCell ?_ (by first | (simp; done) | (simp; omega) | omega) _))
  have BX := (Blk.new w (dcX M d ⟨hp, s, th, x, ver⟩ ⟨0, steps, done, tu, en⟩ q) 84).alloc (.cells (accY 0 0 0 0) 39)
  have BR : Blk ((w.alloc (.cells (dcX M d ⟨hp, s, th, x, ver⟩ ⟨0, steps, done, tu, en⟩ q) 84)).alloc (.cells (accY 0 0 0 0) 39)) (w.heap.size + 1) (accY 0 0 0 0) 39 := by
    have := Blk.new (w.alloc (.cells (dcX M d ⟨hp, s, th, x, ver⟩ ⟨0, steps, done, tu, en⟩ q) 84)) (accY 0 0 0 0) 39
    simpa using this
  go_enter Try.func37, Try.ntmps37
  go_upto_region 1 with (fail)
  generalize ((w.alloc (.cells (dcX M d ⟨hp, s, th, x, ver⟩ ⟨0, steps, done, tu, en⟩ q) 84)).alloc (.cells (accY 0 0 0 0) 39)) = w0 at hB BX BR ⊢
  have m0 : w0.cell? ⟨w.heap.size, 0, none⟩ = some (.int .i64 M.A) := BX.at 0 rfl
  have m1 : w0.cell? ⟨w.heap.size, 1, none⟩ = some (.int .i64 M.T) := BX.at 1 rfl
  have m2 : w0.cell? ⟨w.heap.size, 2, none⟩ = some (.slice d.h1.a M.L.length d.h1.c) := BX.at 2 rfl
  have m3 : w0.cell? ⟨w.heap.size, 3, none⟩ = some (.slice d.h2.a M.B.length d.h2.c) := BX.at 3 rfl
  have m4 : w0.cell? ⟨w.heap.size, 4, none⟩ = some (.slice d.h3.a M.R.length d.h3.c) := BX.at 4 rfl
  have x5 : w0.cell? ⟨w.heap.size, 5, none⟩ = some (.int .i64 hp) := BX.at 5 rfl
  have x6 : w0.cell? ⟨w.heap.size, 6, none⟩ = some (.int .i64 s) := BX.at 6 rfl
  have x7 : w0.cell? ⟨w.heap.size, 7, none⟩ = some (.int .i64 th) := BX.at 7 rfl
  have x8 : w0.cell? ⟨w.heap.size, 8, none⟩ = some (.int .u64 x) := BX.at 8 rfl
  have x9 : w0.cell? ⟨w.heap.size, 9, none⟩ = some (.int .u64 ver) := BX.at 9 rfl
  have x10 : w0.cell? ⟨w.heap.size, 10, none⟩ = some (.int .i64 0) := BX.at 10 rfl
  have x11 : w0.cell? ⟨w.heap.size, 11, none⟩ = some (.slice q.a steps.length q.c) := BX.at 11 rfl
  have x12 : w0.cell? ⟨w.heap.size, 12, none⟩ = some (.int .u64 done) := BX.at 12 rfl
  go_wp2_with fail
  refine (dpl_6 M d _ hA hT).mono ?_
  rintro e w1 ⟨rfl, hb1⟩
  replace hB := below_push2 hB hb1 (Nat.le_refl _)
  replace BX := BX.below hb1
  replace BR := BR.below hb1
  clear m0 m1 m2 m3 m4 x5 x6 x7 x8 x9 x10 x11 x12
  clear hb1
  have m0 : w1.cell? ⟨w.heap.size, 0, none⟩ = some (.int .i64 M.A) := BX.at 0 rfl
  have m1 : w1.cell? ⟨w.heap.size, 1, none⟩ = some (.int .i64 M.T) := BX.at 1 rfl
  have m2 : w1.cell? ⟨w.heap.size, 2, none⟩ = some (.slice d.h1.a M.L.length d.h1.c) := BX.at 2 rfl
  have m3 : w1.cell? ⟨w.heap.size, 3, none⟩ = some (.slice d.h2.a M.B.length d.h2.c) := BX.at 3 rfl
  have m4 : w1.cell? ⟨w.heap.size, 4, none⟩ = some (.slice d.h3.a M.R.length d.h3.c) := BX.at 4 rfl
  have x5 : w1.cell? ⟨w.heap.size, 5, none⟩ = some (.int .i64 hp) := BX.at 5 rfl
  have x6 : w1.cell? ⟨w.heap.size, 6, none⟩ = some (.int .i64 s) := BX.at 6 rfl
  have x7 : w1.cell? ⟨w.heap.size, 7, none⟩ = some (.int .i64 th) := BX.at 7 rfl
  have x8 : w1.cell? ⟨w.heap.size, 8, none⟩ = some (.int .u64 x) := BX.at 8 rfl
  have x9 : w1.cell? ⟨w.heap.size, 9, none⟩ = some (.int .u64 ver) := BX.at 9 rfl
  have x10 : w1.cell? ⟨w.heap.size, 10, none⟩ = some (.int .i64 0) := BX.at 10 rfl
  have x11 : w1.cell? ⟨w.heap.size, 11, none⟩ = some (.slice q.a steps.length q.c) := BX.at 11 rfl
  have x12 : w1.cell? ⟨w.heap.size, 12, none⟩ = some (.int .u64 done) := BX.at 12 rfl
  go_wp2_with fail
  refine (dpl_3 M d th 0 _ hA hT).mono ?_
  rintro e w2 ⟨rfl, hb2⟩
  replace hB := below_push2 hB hb2 (Nat.le_refl _)
  replace BX := BX.below hb2
  replace BR := BR.below hb2
  clear m0 m1 m2 m3 m4 x5 x6 x7 x8 x9 x10 x11 x12
  clear hb2
  have m0 : w2.cell? ⟨w.heap.size, 0, none⟩ = some (.int .i64 M.A) := BX.at 0 rfl
  have m1 : w2.cell? ⟨w.heap.size, 1, none⟩ = some (.int .i64 M.T) := BX.at 1 rfl
  have m2 : w2.cell? ⟨w.heap.size, 2, none⟩ = some (.slice d.h1.a M.L.length d.h1.c) := BX.at 2 rfl
  have m3 : w2.cell? ⟨w.heap.size, 3, none⟩ = some (.slice d.h2.a M.B.length d.h2.c) := BX.at 3 rfl
  have m4 : w2.cell? ⟨w.heap.size, 4, none⟩ = some (.slice d.h3.a M.R.length d.h3.c) := BX.at 4 rfl
  have x5 : w2.cell? ⟨w.heap.size, 5, none⟩ = some (.int .i64 hp) := BX.at 5 rfl
  have x6 : w2.cell? ⟨w.heap.size, 6, none⟩ = some (.int .i64 s) := BX.at 6 rfl
  have x7 : w2.cell? ⟨w.heap.size, 7, none⟩ = some (.int .i64 th) := BX.at 7 rfl
  have x8 : w2.cell? ⟨w.heap.size, 8, none⟩ = some (.int .u64 x) := BX.at 8 rfl
  have x9 : w2.cell? ⟨w.heap.size, 9, none⟩ = some (.int .u64 ver) := BX.at 9 rfl
  have x10 : w2.cell? ⟨w.heap.size, 10, none⟩ = some (.int .i64 0) := BX.at 10 rfl
  have x11 : w2.cell? ⟨w.heap.size, 11, none⟩ = some (.slice q.a steps.length q.c) := BX.at 11 rfl
  have x12 : w2.cell? ⟨w.heap.size, 12, none⟩ = some (.int .u64 done) := BX.at 12 rfl
  go_upto_region 5 with (fail)
  refine wp_region_held_drew (S := fun w' => w'.cell? ⟨w.heap.size, 0, none⟩ = some (.int .i64 M.A) ∧ w'.cell? ⟨w.heap.size, 1, none⟩ = some (.int .i64 M.T) ∧ w'.cell? ⟨w.heap.size, 2, none⟩ = some (.slice d.h1.a M.L.length d.h1.c) ∧ w'.cell? ⟨w.heap.size, 3, none⟩ = some (.slice d.h2.a M.B.length d.h2.c) ∧ w'.cell? ⟨w.heap.size, 4, none⟩ = some (.slice d.h3.a M.R.length d.h3.c) ∧ w'.cell? ⟨w.heap.size, 5, none⟩ = some (.int .i64 hp) ∧ w'.cell? ⟨w.heap.size, 8, none⟩ = some (.int .u64 x)) (by kernel_rfl) ?_ (fun hHeld => ?_)
  · exact ⟨m0, m1, m2, m3, m4, x5, x8⟩
  clear m0 m1 m2 m3 m4 x5 x6 x7 x8 x9 x10 x11 x12
  refine wpAnyH_take (i := 0) (oi := ⟨_, _, _, _, _, _⟩) (v := ?_) rfl (by kernel_rfl) (by kernel_rfl) (by kernel_rfl) (fun _ _ _ h => h) (Or.inl ⟨by rfl, ?_⟩) (by assumption) ?_
  rotate_left
  · intro wS hSw
    try dsimp only at hSw
    go_simp
    try with_reducible rfl
  try simp only [Act.put, List.setIfInBounds_toArray, List.set_cons_zero, List.set_cons_succ]
  refine wpAnyH_take (i := 1) (oi := ⟨_, _, _, _, _, _⟩) (v := ?_) rfl (by kernel_rfl) (by kernel_rfl) (by kernel_rfl) (fun _ _ _ h => h) (Or.inl ⟨by rfl, ?_⟩) (by assumption) ?_
  rotate_left
  · intro wS hSw
    try dsimp only at hSw
    go_simp
    try with_reducible rfl
  try simp only [Act.put, List.setIfInBounds_toArray, List.set_cons_zero, List.set_cons_succ]
  refine wpAnyH_take (i := 2) (oi := ⟨_, _, _, _, _, _⟩) (v := ?_) rfl (by kernel_rfl) (by kernel_rfl) (by kernel_rfl) (fun _ _ _ h => h) (Or.inl ⟨by rfl, ?_⟩) (by assumption) ?_
  rotate_left
  · intro wS hSw
    try dsimp only at hSw
    go_simp
    try with_reducible rfl
  try simp only [Act.put, List.setIfInBounds_toArray, List.set_cons_zero, List.set_cons_succ]
  refine wpAnyH_take (i := 3) (oi := ⟨_, _, _, _, _, _⟩) (v := ?_) rfl (by kernel_rfl) (by kernel_rfl) (by kernel_rfl) (fun _ _ _ h => h) (Or.inl ⟨by rfl, ?_⟩) (by assumption) ?_
  rotate_left
  · intro wS hSw
    try dsimp only at hSw
    go_simp
    try with_reducible rfl
  try simp only [Act.put, List.setIfInBounds_toArray, List.set_cons_zero, List.set_cons_succ]
  refine wpAnyH_take (i := 5) (oi := ⟨_, _, _, _, _, _⟩) (v := ?_) rfl (by kernel_rfl) (by kernel_rfl) (by kernel_rfl) (fun _ _ _ h => h) (Or.inl ⟨by rfl, ?_⟩) (by assumption) ?_
  rotate_left
  · intro wS hSw
    try dsimp only at hSw
    go_simp
    try with_reducible rfl
  try simp only [Act.put, List.setIfInBounds_toArray, List.set_cons_zero, List.set_cons_succ]
  refine wpAnyH_take (i := 6) (oi := ⟨_, _, _, _, _, _⟩) (v := ?_) rfl (by kernel_rfl) (by kernel_rfl) (by kernel_rfl) (fun _ _ _ h => h) (Or.inl ⟨by rfl, ?_⟩) (by assumption) ?_
  rotate_left
  · intro wS hSw
    try dsimp only at hSw
    go_simp
    try with_reducible rfl
  try simp only [Act.put, List.setIfInBounds_toArray, List.set_cons_zero, List.set_cons_succ]
  refine wpAnyH_take (i := 7) (oi := ⟨_, _, _, _, _, _⟩) (v := ?_) rfl (by kernel_rfl) (by kernel_rfl) (by kernel_rfl) (fun _ _ _ h => h) (Or.inl ⟨by rfl, ?_⟩) (by assumption) ?_
  rotate_left
  · intro wS hSw
    try dsimp only at hSw
    go_simp
    try with_reducible rfl
  try simp only [Act.put, List.setIfInBounds_toArray, List.set_cons_zero, List.set_cons_succ]
  refine wpAnyH_ready (rs := [4]) (by kernel_rfl) (by simp) ?_
  refine AllReadyH.cons rfl (fun K hK => ?_) AllReadyH.nil
  go_simp
  refine (dpl_5 M d hp 0 _ hA hT).mono ?_
  rintro e w3 ⟨rfl, hb3⟩
  have hB3 := below_push2 hB.drew hb3 (Nat.le_refl _)
  have BX3 := BX.drew.below hb3
  have BR3 := BR.drew.below hb3
  refine hK.out _ _ ⟨BX3.at 0 rfl, BX3.at 1 rfl, BX3.at 2 rfl, BX3.at 3 rfl, BX3.at 4 rfl, BX3.at 5 rfl, BX3.at 8 rfl⟩ (fun hHeld => ?_)
  clear hK K hb3
  refine wpAnyH_take (i := 8) (oi := ⟨_, _, _, _, _, _⟩) (v := ?_) rfl (by kernel_rfl) (by kernel_rfl) (by kernel_rfl) (fun _ _ _ h => h) (Or.inl ⟨by rfl, ?_⟩) (by assumption) ?_
  rotate_left
  · intro wS hSw
    try dsimp only at hSw
    go_simp
    try with_reducible rfl
  try simp only [Act.put, List.setIfInBounds_toArray, List.set_cons_zero, List.set_cons_succ]
  have F4 := Fr.row (S := [w.heap.size + 1]) (w := w3) (w.heap.size + 1) (accY 2 (hazI M.A M.T hp 0) 0 x) (by simp)
  have BX4 := F4.blk BX3 (by simp)
  refine wpAnyH_ready (rs := [9]) (by kernel_rfl) (by simp) ?_
  refine AllReadyH.cons rfl (fun K hK => ?_) AllReadyH.nil
  rw [if_pos (by rfl)]
  refine wp_store_row 39 _ _ rfl (w.heap.size + 1) _ rfl rfl 39 _ BR3.h (by kernel_rfl) (by rfl) (by kernel_rfl) ?_
  refine hK.out _ _ ?_ (fun hHeld => ?_)
  · exact ⟨BX4.at 0 rfl, BX4.at 1 rfl, BX4.at 2 rfl, BX4.at 3 rfl, BX4.at 4 rfl, BX4.at 5 rfl, BX4.at 8 rfl⟩
  clear hK K
  refine wpAnyH_take (i := 10) (oi := ⟨_, _, _, _, _, _⟩) (v := ?_) rfl (by kernel_rfl) (by kernel_rfl) (by kernel_rfl) (fun _ _ _ h => h) (Or.inl ⟨by rfl, ?_⟩) (by assumption) ?_
  rotate_left
  · intro wS hSw
    try dsimp only at hSw
    go_simp
    try with_reducible rfl
  try simp only [Act.put, List.setIfInBounds_toArray, List.set_cons_zero, List.set_cons_succ]
  refine wpAnyH_done (by kernel_rfl) ?_ _
  go_wp2_with fail
  refine bodyPost_ret (v := .tuple #[.agg (accY 2 (hazI M.A M.T hp 0) 0 x), .bool true]) (results_cell_tmp rfl _ _ (w.heap.size + 1) 39 (accY 2 (hazI M.A M.T hp 0) 0 x) (0, 0) _ (.bool true) rfl rfl (Blk.row BR3 (accY 2 (hazI M.A M.T hp 0) 0 x)).h Try.underlying39 rfl (by kernel_rfl)) rfl ⟨rfl, below_setRow hB3 (by omega) _⟩
set_option maxRecDepth 100000 in
set_option maxHeartbeats 3200000 in
theorem dkNext_3 {S : List Nat} (M : MemV) (d : DH) (hp s th x ver : Int) (steps : List StepV) (done : Int) (tu en : Bool) (q : Hd) (w : World) (hA : M.A ≤ 8192) (hT : M.T ≤ 16) (H : HRow Dp.stepT w S q steps) (h0 : 0 < steps.length) :
    Calls Try.prog 37 #[.agg (dcX M d ⟨hp, s, th, x, ver⟩ ⟨3, steps, done, tu, en⟩ q)] w fun e w' => e = .returned (.tuple #[.agg (accY 3 (atI M.A M.T 0 (steps.headD stepZ).cell) (steps.headD stepZ).ver (steps.headD stepZ).new), .bool true]) ∧ Below w.heap.size w w' := by
  obtain ⟨b, off, ha, hb, hn, hok, hr⟩ := step_cell H h0
  clear H hok hn
  generalize steps.headD stepZ = s1 at hr ⊢
  obtain ⟨sc, sv, so, sn, sl⟩ := s1
  have hn0 : (0 : Int) < (steps.length : Int) := by omega
  obtain ⟨qa, qc⟩ := q
  simp only at ha
  subst ha
  obtain ⟨q, hq⟩ : ∃ q : Hd, q = ⟨some ⟨b, off, none⟩, qc⟩ := ⟨_, rfl⟩
  rw [← hq]
  have hqa : q.a = some ⟨b, off, none⟩ := by rw [hq]
  replace hqa := Lib.hid hqa
  have hr0 : ∀ w', Below w.heap.size w w' → w'.cell? ⟨b, off, none⟩ = some (.int .i64 sc) ∧ w'.cell? ⟨b, off + 1, none⟩ = some (.int .u64 sv) ∧ w'.cell? ⟨b, off + 3, none⟩ = some (.int .u64 sn) := fun w' h =>
    ⟨rangeAt_below hb hr h 0 _ rfl, rangeAt_below hb hr h 1 _ rfl, rangeAt_below hb hr h 3 _ rfl⟩
  replace hr0 := Lib.hid hr0
  clear hq hr
  have hB : Below w.heap.size w ((w.alloc (.cells (dcX M d ⟨hp, s, th, x, ver⟩ ⟨3, steps, done, tu, en⟩ q) 84)).alloc (.cells (accY 0 0 0 0) 39)) := by (repeat (first | exact Below.refl _ _ | assumption | refine below_alloc2 ?_ (by first | exact Nat.le_refl _ | omega) _ | refine Below.drew ?_ | refine below_drewN ?_ _ | refine below_push2 ?_ ‹_› (by first | exact Nat.le_refl _ | omega) | refine Below.setCell ?_ (by first | (simp; done) | (simp; omega) | omega) _))
  have BX := (Blk.new w (dcX M d ⟨hp, s, th, x, ver⟩ ⟨3, steps, done, tu, en⟩ q) 84).alloc (.cells (accY 0 0 0 0) 39)
  have BR : Blk ((w.alloc (.cells (dcX M d ⟨hp, s, th, x, ver⟩ ⟨3, steps, done, tu, en⟩ q) 84)).alloc (.cells (accY 0 0 0 0) 39)) (w.heap.size + 1) (accY 0 0 0 0) 39 := by
    have := Blk.new (w.alloc (.cells (dcX M d ⟨hp, s, th, x, ver⟩ ⟨3, steps, done, tu, en⟩ q) 84)) (accY 0 0 0 0) 39
    simpa using this
  go_enter Try.func37, Try.ntmps37
  go_upto_region 1 with (fail)
  generalize ((w.alloc (.cells (dcX M d ⟨hp, s, th, x, ver⟩ ⟨3, steps, done, tu, en⟩ q) 84)).alloc (.cells (accY 0 0 0 0) 39)) = w0 at hB BX BR ⊢
  have m0 : w0.cell? ⟨w.heap.size, 0, none⟩ = some (.int .i64 M.A) := BX.at 0 rfl
  have m1 : w0.cell? ⟨w.heap.size, 1, none⟩ = some (.int .i64 M.T) := BX.at 1 rfl
  have m2 : w0.cell? ⟨w.heap.size, 2, none⟩ = some (.slice d.h1.a M.L.length d.h1.c) := BX.at 2 rfl
  have m3 : w0.cell? ⟨w.heap.size, 3, none⟩ = some (.slice d.h2.a M.B.length d.h2.c) := BX.at 3 rfl
  have m4 : w0.cell? ⟨w.heap.size, 4, none⟩ = some (.slice d.h3.a M.R.length d.h3.c) := BX.at 4 rfl
  have x5 : w0.cell? ⟨w.heap.size, 5, none⟩ = some (.int .i64 hp) := BX.at 5 rfl
  have x6 : w0.cell? ⟨w.heap.size, 6, none⟩ = some (.int .i64 s) := BX.at 6 rfl
  have x7 : w0.cell? ⟨w.heap.size, 7, none⟩ = some (.int .i64 th) := BX.at 7 rfl
  have x8 : w0.cell? ⟨w.heap.size, 8, none⟩ = some (.int .u64 x) := BX.at 8 rfl
  have x9 : w0.cell? ⟨w.heap.size, 9, none⟩ = some (.int .u64 ver) := BX.at 9 rfl
  have x10 : w0.cell? ⟨w.heap.size, 10, none⟩ = some (.int .i64 3) := BX.at 10 rfl
  have x11 : w0.cell? ⟨w.heap.size, 11, none⟩ = some (.slice q.a steps.length q.c) := BX.at 11 rfl
  have x12 : w0.cell? ⟨w.heap.size, 12, none⟩ = some (.int .u64 done) := BX.at 12 rfl
  go_wp2_with fail
  refine (dpl_6 M d _ hA hT).mono ?_
  rintro e w1 ⟨rfl, hb1⟩
  replace hB := below_push2 hB hb1 (Nat.le_refl _)
  replace BX := BX.below hb1
  replace BR := BR.below hb1
  clear m0 m1 m2 m3 m4 x5 x6 x7 x8 x9 x10 x11 x12
  clear hb1
  have m0 : w1.cell? ⟨w.heap.size, 0, none⟩ = some (.int .i64 M.A) := BX.at 0 rfl
  have m1 : w1.cell? ⟨w.heap.size, 1, none⟩ = some (.int .i64 M.T) := BX.at 1 rfl
  have m2 : w1.cell? ⟨w.heap.size, 2, none⟩ = some (.slice d.h1.a M.L.length d.h1.c) := BX.at 2 rfl
  have m3 : w1.cell? ⟨w.heap.size, 3, none⟩ = some (.slice d.h2.a M.B.length d.h2.c) := BX.at 3 rfl
  have m4 : w1.cell? ⟨w.heap.size, 4, none⟩ = some (.slice d.h3.a M.R.length d.h3.c) := BX.at 4 rfl
  have x5 : w1.cell? ⟨w.heap.size, 5, none⟩ = some (.int .i64 hp) := BX.at 5 rfl
  have x6 : w1.cell? ⟨w.heap.size, 6, none⟩ = some (.int .i64 s) := BX.at 6 rfl
  have x7 : w1.cell? ⟨w.heap.size, 7, none⟩ = some (.int .i64 th) := BX.at 7 rfl
  have x8 : w1.cell? ⟨w.heap.size, 8, none⟩ = some (.int .u64 x) := BX.at 8 rfl
  have x9 : w1.cell? ⟨w.heap.size, 9, none⟩ = some (.int .u64 ver) := BX.at 9 rfl
  have x10 : w1.cell? ⟨w.heap.size, 10, none⟩ = some (.int .i64 3) := BX.at 10 rfl
  have x11 : w1.cell? ⟨w.heap.size, 11, none⟩ = some (.slice q.a steps.length q.c) := BX.at 11 rfl
  have x12 : w1.cell? ⟨w.heap.size, 12, none⟩ = some (.int .u64 done) := BX.at 12 rfl
  go_wp2_with fail
  refine (dpl_3 M d th 0 _ hA hT).mono ?_
  rintro e w2 ⟨rfl, hb2⟩
  replace hB := below_push2 hB hb2 (Nat.le_refl _)
  replace BX := BX.below hb2
  replace BR := BR.below hb2
  clear m0 m1 m2 m3 m4 x5 x6 x7 x8 x9 x10 x11 x12
  clear hb2
  have m0 : w2.cell? ⟨w.heap.size, 0, none⟩ = some (.int .i64 M.A) := BX.at 0 rfl
  have m1 : w2.cell? ⟨w.heap.size, 1, none⟩ = some (.int .i64 M.T) := BX.at 1 rfl
  have m2 : w2.cell? ⟨w.heap.size, 2, none⟩ = some (.slice d.h1.a M.L.length d.h1.c) := BX.at 2 rfl
  have m3 : w2.cell? ⟨w.heap.size, 3, none⟩ = some (.slice d.h2.a M.B.length d.h2.c) := BX.at 3 rfl
  have m4 : w2.cell? ⟨w.heap.size, 4, none⟩ = some (.slice d.h3.a M.R.length d.h3.c) := BX.at 4 rfl
  have x5 : w2.cell? ⟨w.heap.size, 5, none⟩ = some (.int .i64 hp) := BX.at 5 rfl
  have x6 : w2.cell? ⟨w.heap.size, 6, none⟩ = some (.int .i64 s) := BX.at 6 rfl
  have x7 : w2.cell? ⟨w.heap.size, 7, none⟩ = some (.int .i64 th) := BX.at 7 rfl
  have x8 : w2.cell? ⟨w.heap.size, 8, none⟩ = some (.int .u64 x) := BX.at 8 rfl
  have x9 : w2.cell? ⟨w.heap.size, 9, none⟩ = some (.int .u64 ver) := BX.at 9 rfl
  have x10 : w2.cell? ⟨w.heap.size, 10, none⟩ = some (.int .i64 3) := BX.at 10 rfl
  have x11 : w2.cell? ⟨w.heap.size, 11, none⟩ = some (.slice q.a steps.length q.c) := BX.at 11 rfl
  have x12 : w2.cell? ⟨w.heap.size, 12, none⟩ = some (.int .u64 done) := BX.at 12 rfl
  rw [hqa.out] at x11
  obtain ⟨y0, y1, y3⟩ := hr0.out _ hB
  have hbx : ¬ b = w.heap.size + 1 := by omega
  go_upto_region 12 with (fail)
  refine wp_region_held_drew (S := fun w' => w'.cell? ⟨w.heap.size, 0, none⟩ = some (.int .i64 M.A) ∧ w'.cell? ⟨w.heap.size, 1, none⟩ = some (.int .i64 M.T) ∧ w'.cell? ⟨w.heap.size, 2, none⟩ = some (.slice d.h1.a M.L.length d.h1.c) ∧ w'.cell? ⟨w.heap.size, 3, none⟩ = some (.slice d.h2.a M.B.length d.h2.c) ∧ w'.cell? ⟨w.heap.size, 4, none⟩ = some (.slice d.h3.a M.R.length d.h3.c) ∧ w'.cell? ⟨w.heap.size, 11, none⟩ = some (.slice (some ⟨b, off, none⟩) steps.length q.c) ∧ w'.cell? ⟨b, off, none⟩ = some (.int .i64 sc) ∧ w'.cell? ⟨b, off + 1, none⟩ = some (.int .u64 sv) ∧ w'.cell? ⟨b, off + 3, none⟩ = some (.int .u64 sn)) (by kernel_rfl) ?_ (fun hHeld => ?_)
  · exact ⟨m0, m1, m2, m3, m4, x11, y0, y1, y3⟩
  clear m0 m1 m2 m3 m4 x5 x6 x7 x8 x9 x10 x11 x12
  clear y0 y1 y3
  refine wpAnyH_take (i := 0) (oi := ⟨_, _, _, _, _, _⟩) (v := ?_) rfl (by kernel_rfl) (by kernel_rfl) (by kernel_rfl) (fun _ _ _ h => h) (Or.inl ⟨by rfl, ?_⟩) (by assumption) ?_
  rotate_left
  · intro wS hSw
    try dsimp only at hSw
    go_simp
    try with_reducible rfl
  try simp only [Act.put, List.setIfInBounds_toArray, List.set_cons_zero, List.set_cons_succ]
  refine wpAnyH_take (i := 1) (oi := ⟨_, _, _, _, _, _⟩) (v := ?_) rfl (by kernel_rfl) (by kernel_rfl) (by kernel_rfl) (fun _ _ _ h => h) (Or.inl ⟨by rfl, ?_⟩) (by assumption) ?_
  rotate_left
  · intro wS hSw
    try dsimp only at hSw
    go_simp
    try with_reducible rfl
  try simp only [Act.put, List.setIfInBounds_toArray, List.set_cons_zero, List.set_cons_succ]
  refine wpAnyH_take (i := 2) (oi := ⟨_, _, _, _, _, _⟩) (v := ?_) rfl (by kernel_rfl) (by kernel_rfl) (by kernel_rfl) (fun _ _ _ h => h) (Or.inl ⟨by rfl, ?_⟩) (by assumption) ?_
  rotate_left
  · intro wS hSw
    try dsimp only at hSw
    go_simp
    try with_reducible rfl
  try simp only [Act.put, List.setIfInBounds_toArray, List.set_cons_zero, List.set_cons_succ]
  refine wpAnyH_take (i := 3) (oi := ⟨_, _, _, _, _, _⟩) (v := ?_) rfl (by kernel_rfl) (by kernel_rfl) (by kernel_rfl) (fun _ _ _ h => h) (Or.inl ⟨by rfl, ?_⟩) (by assumption) ?_
  rotate_left
  · intro wS hSw
    try dsimp only at hSw
    go_simp
    try with_reducible rfl
  try simp only [Act.put, List.setIfInBounds_toArray, List.set_cons_zero, List.set_cons_succ]
  refine wpAnyH_take (i := 4) (oi := ⟨_, _, _, _, _, _⟩) (v := ?_) rfl (by kernel_rfl) (by kernel_rfl) (by kernel_rfl) (fun _ _ _ h => h) (Or.inl ⟨by rfl, ?_⟩) (by assumption) ?_
  rotate_left
  · intro wS hSw
    try dsimp only at hSw
    go_simp
    try with_reducible rfl
  try simp only [Act.put, List.setIfInBounds_toArray, List.set_cons_zero, List.set_cons_succ]
  refine wpAnyH_take (i := 5) (oi := ⟨_, _, _, _, _, _⟩) (v := ?_) rfl (by kernel_rfl) (by kernel_rfl) (by kernel_rfl) (fun _ _ _ h => h) (Or.inl ⟨by rfl, ?_⟩) (by assumption) ?_
  rotate_left
  · intro wS hSw
    try dsimp only at hSw
    go_simp
    try with_reducible rfl
  try simp only [Act.put, List.setIfInBounds_toArray, List.set_cons_zero, List.set_cons_succ]
  refine wpAnyH_take (i := 6) (oi := ⟨_, _, _, _, _, _⟩) (v := ?_) rfl (by kernel_rfl) (by kernel_rfl) (by kernel_rfl) (fun _ _ _ h => h) (Or.inl ⟨by rfl, ?_⟩) (by assumption) ?_
  rotate_left
  · intro wS hSw
    try dsimp only at hSw
    go_simp
    try with_reducible rfl
  try simp only [Act.put, List.setIfInBounds_toArray, List.set_cons_zero, List.set_cons_succ]
  refine wpAnyH_take (i := 8) (oi := ⟨_, _, _, _, _, _⟩) (v := ?_) rfl (by kernel_rfl) (by kernel_rfl) (by kernel_rfl) (fun _ _ _ h => h) (Or.inl ⟨by rfl, ?_⟩) (by assumption) ?_
  rotate_left
  · intro wS hSw
    try dsimp only at hSw
    go_simp
    try with_reducible rfl
  try simp only [Act.put, List.setIfInBounds_toArray, List.set_cons_zero, List.set_cons_succ]
  refine wpAnyH_take (i := 9) (oi := ⟨_, _, _, _, _, _⟩) (v := ?_) rfl (by kernel_rfl) (by kernel_rfl) (by kernel_rfl) (fun _ _ _ h => h) (Or.inl ⟨by rfl, ?_⟩) (by assumption) ?_
  rotate_left
  · intro wS hSw
    try dsimp only at hSw
    go_simp
    try with_reducible rfl
  try simp only [Act.put, List.setIfInBounds_toArray, List.set_cons_zero, List.set_cons_succ]
  refine wpAnyH_take (i := 10) (oi := ⟨_, _, _, _, _, _⟩) (v := ?_) rfl (by kernel_rfl) (by kernel_rfl) (by kernel_rfl) (fun _ _ _ h => h) (Or.inl ⟨by rfl, ?_⟩) (by assumption) ?_
  rotate_left
  · intro wS hSw
    try dsimp only at hSw
    go_simp
    try with_reducible rfl
  try simp only [Act.put, List.setIfInBounds_toArray, List.set_cons_zero, List.set_cons_succ]
  refine wpAnyH_take (i := 11) (oi := ⟨_, _, _, _, _, _⟩) (v := ?_) rfl (by kernel_rfl) (by kernel_rfl) (by kernel_rfl) (fun _ _ _ h => h) (Or.inl ⟨by rfl, ?_⟩) (by assumption) ?_
  rotate_left
  · intro wS hSw
    try dsimp only at hSw
    go_simp
    try with_reducible rfl
  try simp only [Act.put, List.setIfInBounds_toArray, List.set_cons_zero, List.set_cons_succ]
  refine wpAnyH_take (i := 12) (oi := ⟨_, _, _, _, _, _⟩) (v := ?_) rfl (by kernel_rfl) (by kernel_rfl) (by kernel_rfl) (fun _ _ _ h => h) (Or.inl ⟨by rfl, ?_⟩) (by assumption) ?_
  rotate_left
  · intro wS hSw
    try dsimp only at hSw
    go_simp
    try with_reducible rfl
  try simp only [Act.put, List.setIfInBounds_toArray, List.set_cons_zero, List.set_cons_succ]
  refine wpAnyH_take (i := 13) (oi := ⟨_, _, _, _, _, _⟩) (v := ?_) rfl (by kernel_rfl) (by kernel_rfl) (by kernel_rfl) (fun _ _ _ h => h) (Or.inl ⟨by rfl, ?_⟩) (by assumption) ?_
  rotate_left
  · intro wS hSw
    try dsimp only at hSw
    go_simp
    try with_reducible rfl
  try simp only [Act.put, List.setIfInBounds_toArray, List.set_cons_zero, List.set_cons_succ]
  refine wpAnyH_take (i := 14) (oi := ⟨_, _, _, _, _, _⟩) (v := ?_) rfl (by kernel_rfl) (by kernel_rfl) (by kernel_rfl) (fun _ _ _ h => h) (Or.inl ⟨by rfl, ?_⟩) (by assumption) ?_
  rotate_left
  · intro wS hSw
    try dsimp only at hSw
    go_simp
    try with_reducible rfl
  try simp only [Act.put, List.setIfInBounds_toArray, List.set_cons_zero, List.set_cons_succ]
  refine wpAnyH_take (i := 15) (oi := ⟨_, _, _, _, _, _⟩) (v := ?_) rfl (by kernel_rfl) (by kernel_rfl) (by kernel_rfl) (fun _ _ _ h => h) (Or.inl ⟨by rfl, ?_⟩) (by assumption) ?_
  rotate_left
  · intro wS hSw
    try dsimp only at hSw
    go_simp
    try with_reducible rfl
  try simp only [Act.put, List.setIfInBounds_toArray, List.set_cons_zero, List.set_cons_succ]
  refine wpAnyH_take (i := 16) (oi := ⟨_, _, _, _, _, _⟩) (v := ?_) rfl (by kernel_rfl) (by kernel_rfl) (by kernel_rfl) (fun _ _ _ h => h) (Or.inl ⟨by rfl, ?_⟩) (by assumption) ?_
  rotate_left
  · intro wS hSw
    try dsimp only at hSw
    go_simp
    try with_reducible rfl
  try simp only [Act.put, List.setIfInBounds_toArray, List.set_cons_zero, List.set_cons_succ]
  refine wpAnyH_take (i := 17) (oi := ⟨_, _, _, _, _, _⟩) (v := ?_) rfl (by kernel_rfl) (by kernel_rfl) (by kernel_rfl) (fun _ _ _ h => h) (Or.inl ⟨by rfl, ?_⟩) (by assumption) ?_
  rotate_left
  · intro wS hSw
    try dsimp only at hSw
    go_simp
    try with_reducible rfl
  try simp only [Act.put, List.setIfInBounds_toArray, List.set_cons_zero, List.set_cons_succ]
  refine wpAnyH_ready (rs := [7]) (by kernel_rfl) (by simp) ?_
  refine AllReadyH.cons rfl (fun K hK => ?_) AllReadyH.nil
  go_simp
  refine (dpl_0 M d sc 0 _ hA hT).mono ?_
  rintro e w3 ⟨rfl, hb3⟩
  have hB3 := below_push2 hB.drew hb3 (Nat.le_refl _)
  have BX3 := BX.drew.below hb3
  have BR3 := BR.drew.below hb3
  obtain ⟨y0, y1, y3⟩ := hr0.out _ hB3
  have z11 : w3.cell? ⟨w.heap.size, 11, none⟩ = some (.slice (some ⟨b, off, none⟩) steps.length q.c) := by
    rw [← hqa.out]; exact BX3.at 11 rfl
  refine hK.out _ _ ⟨BX3.at 0 rfl, BX3.at 1 rfl, BX3.at 2 rfl, BX3.at 3 rfl, BX3.at 4 rfl, z11, y0, y1, y3⟩ (fun hHeld => ?_)
  clear hK K hb3 y0 y1 y3 z11
  refine wpAnyH_take (i := 18) (oi := ⟨_, _, _, _, _, _⟩) (v := ?_) rfl (by kernel_rfl) (by kernel_rfl) (by kernel_rfl) (fun _ _ _ h => h) (Or.inl ⟨by rfl, ?_⟩) (by assumption) ?_
  rotate_left
  · intro wS hSw
    try dsimp only at hSw
    go_simp
    try with_reducible rfl
  try simp only [Act.put, List.setIfInBounds_toArray, List.set_cons_zero, List.set_cons_succ]
  have F4 := Fr.row (S := [w.heap.size + 1]) (w := w3) (w.heap.size + 1) (accY 3 (atI M.A M.T 0 sc) sv sn) (by simp)
  have hB4 := F4.below hB3 (Nat.le_refl _) (by simp)
  have BX4 := F4.blk BX3 (by simp)
  obtain ⟨y0, y1, y3⟩ := hr0.out _ hB4
  have z11 : (w3.setRow (w.heap.size + 1) (accY 3 (atI M.A M.T 0 sc) sv sn)).cell? ⟨w.heap.size, 11, none⟩ = some (.slice (some ⟨b, off, none⟩) steps.length q.c) := by
    rw [← hqa.out]; exact BX4.at 11 rfl
  refine wpAnyH_ready (rs := [19]) (by kernel_rfl) (by simp) ?_
  refine AllReadyH.cons rfl (fun K hK => ?_) AllReadyH.nil
  rw [if_pos (by rfl)]
  refine wp_store_row 39 _ _ rfl (w.heap.size + 1) _ rfl rfl 39 _ BR3.h (by kernel_rfl) (by rfl) (by kernel_rfl) ?_
  refine hK.out _ _ ?_ (fun hHeld => ?_)
  · exact ⟨BX4.at 0 rfl, BX4.at 1 rfl, BX4.at 2 rfl, BX4.at 3 rfl, BX4.at 4 rfl, z11, y0, y1, y3⟩
  clear hK K y0 y1 y3 z11
  refine wpAnyH_take (i := 20) (oi := ⟨_, _, _, _, _, _⟩) (v := ?_) rfl (by kernel_rfl) (by kernel_rfl) (by kernel_rfl) (fun _ _ _ h => h) (Or.inl ⟨by rfl, ?_⟩) (by assumption) ?_
  rotate_left
  · intro wS hSw
    try dsimp only at hSw
    go_simp
    try with_reducible rfl
  try simp only [Act.put, List.setIfInBounds_toArray, List.set_cons_zero, List.set_cons_succ]
  refine wpAnyH_done (by kernel_rfl) ?_ _
  go_wp2_with fail
  refine bodyPost_ret (v := .tuple #[.agg (accY 3 (atI M.A M.T 0 sc) sv sn), .bool true]) (results_cell_tmp rfl _ _ (w.heap.size + 1) 39 (accY 3 (atI M.A M.T 0 sc) sv sn) (0, 0) _ (.bool true) rfl rfl (Blk.row BR3 (accY 3 (atI M.A M.T 0 sc) sv sn)).h Try.underlying39 rfl (by kernel_rfl)) rfl ⟨rfl, below_setRow hB3 (by omega) _⟩
end Go.Proofs.Ytpempcefgfmniaa.MemP

/-
  bowerref35: the document's carrying out: Tell: contracts.
-/
namespace Go.Proofs.Ytpempcefgfmniaa.MemP
open Go.RowKit RefP CellP Dp
set_option linter.unusedVariables false
set_option linter.unusedSimpArgs false
/-- behind a reply -/
def dkTell (p : KP) (k : KS) (r : ReplyV) : KS :=
  if k.at_ = 2 ∧ ¬ (r.ok = true ∧ r.block.kind = 2) then ⟨8, k.steps, k.done, false, k.en⟩ else kTell p k r
theorem Fr.setb {b : Nat} {a w : World} (h : Fr [b] a w) (i : Nat) (v : Value) : Fr [b] a (w.setCell ⟨b, i, none⟩ v) := h.set _ _ (.inl (by simp))
set_option maxRecDepth 100000 in
set_option maxHeartbeats 3200000 in
theorem dkTell_0 (M : MemV) (d : DH) (hp s th x ver : Int) (steps : List StepV) (done : Int) (tu en : Bool) (q : Hd) (qr : BlockH) (r : ReplyV) (w : World) : Calls Try.prog 41 #[.agg (dcX M d ⟨hp, s, th, x, ver⟩ ⟨0, steps, done, tu, en⟩ q), .agg (repA qr r)] w fun e w' => e = .returned (.agg (dcX M d ⟨hp, s, th, x, ver⟩ (⟨1, steps, done, false, en⟩) (q))) ∧ Below w.heap.size w w' := by
  have hB : Below w.heap.size w (((w.alloc (.cells (dcX M d ⟨hp, s, th, x, ver⟩ ⟨0, steps, done, tu, en⟩ q) 84)).alloc (.cells (repA qr r) 50)).alloc (.cells dcZ 84)) := by (repeat (first | exact Below.refl _ _ | assumption | refine below_alloc2 ?_ (by first | exact Nat.le_refl _ | omega) _ | refine Below.drew ?_ | refine below_drewN ?_ _ | refine below_push2 ?_ ‹_› (by first | exact Nat.le_refl _ | omega) | refine Below.setCell ?_ (by first | (simp; done) | (simp; omega) | omega) _))
  have BX := ((Blk.new w (dcX M d ⟨hp, s, th, x, ver⟩ ⟨0, steps, done, tu, en⟩ q) 84).alloc (.cells (repA qr r) 50)).alloc (.cells dcZ 84)
  have BQ : Blk (((w.alloc (.cells (dcX M d ⟨hp, s, th, x, ver⟩ ⟨0, steps, done, tu, en⟩ q) 84)).alloc (.cells (repA qr r) 50)).alloc (.cells dcZ 84)) (w.heap.size + 1) (repA qr r) 50 := by
    have := (Blk.new (w.alloc (.cells (dcX M d ⟨hp, s, th, x, ver⟩ ⟨0, steps, done, tu, en⟩ q) 84)) (repA qr r) 50).alloc (.cells dcZ 84)
    simpa using this
  have BR : Blk (((w.alloc (.cells (dcX M d ⟨hp, s, th, x, ver⟩ ⟨0, steps, done, tu, en⟩ q) 84)).alloc (.cells (repA qr r) 50)).alloc (.cells dcZ 84)) (w.heap.size + 2) dcZ 84 := by
    have := Blk.new ((w.alloc (.cells (dcX M d ⟨hp, s, th, x, ver⟩ ⟨0, steps, done, tu, en⟩ q) 84)).alloc (.cells (repA qr r) 50)) dcZ 84
    simpa using this
  go_enter Try.func41, Try.ntmps41
  go_upto_region 1 with (fail)
  generalize (((w.alloc (.cells (dcX M d ⟨hp, s, th, x, ver⟩ ⟨0, steps, done, tu, en⟩ q) 84)).alloc (.cells (repA qr r) 50)).alloc (.cells dcZ 84)) = w1 at hB BX BQ BR ⊢
  have hs1 : w.heap.size + 2 < w1.heap.size := BR.lt
  have c9 : w1.cell? ⟨w.heap.size, 9, none⟩ = some (.int .u64 ver) := BX.at 9 rfl
  have c10 : w1.cell? ⟨w.heap.size, 10, none⟩ = some (.int .i64 0) := BX.at 10 rfl
  have f10 := BX.free 10
  have c11 : w1.cell? ⟨w.heap.size, 11, none⟩ = some (.slice q.a steps.length q.c) := BX.at 11 rfl
  have f11 := BX.free 11
  have c12 : w1.cell? ⟨w.heap.size, 12, none⟩ = some (.int .u64 done) := BX.at 12 rfl
  have f12 := BX.free 12
  have c13 : w1.cell? ⟨w.heap.size, 13, none⟩ = some (.bool tu) := BX.at 13 rfl
  have f13 := BX.free 13
  have c14 : w1.cell? ⟨w.heap.size, 14, none⟩ = some (.bool en) := BX.at 14 rfl
  have f14 := BX.free 14
  have r0 := BQ.at 0 rfl
  have r1 := BQ.at 1 rfl
  have r2 := BQ.at 2 rfl
  have r3 := BQ.at 3 rfl
  have BF := (BX.set 13 (.bool false)).set 10 (.int .i64 1)
  simp only [List.setIfInBounds_toArray, List.set_cons_succ, List.set_cons_zero] at BF
  go_upto_region 35 with (fail)
  have F2 := ((Fr.refl [w.heap.size] w1).setb 13 (.bool false)).setb 10 (.int .i64 1)
  have BR2 := F2.blk BR (by simp)
  have hB2 := F2.below hB (Nat.le_refl _) (by simp)
  clear F2 BX BQ BR hB c9 c10 f10 c11 f11 c12 f12 c13 f13 c14 f14 r0 r1 r2 r3
  go_wp2_with (first
    | (refine wpList_load_row rfl 84 _ rfl w.heap.size rfl 84 _ (0, 0) _ BF.h Try.underlying84 rfl (by kernel_rfl) ?_)
    | (refine wpList_store_row rfl 84 _ _ rfl (w.heap.size + 2) _ rfl rfl 84 _ BR2.h (by kernel_rfl) (by rfl) (by kernel_rfl) ?_))
  refine bodyPost_ret (results_cell_row rfl _ _ (w.heap.size + 2) 84 (dcX M d ⟨hp, s, th, x, ver⟩ (⟨1, steps, done, false, en⟩) (q)) (0, 0) _ rfl (Blk.row BR2 (dcX M d ⟨hp, s, th, x, ver⟩ (⟨1, steps, done, false, en⟩) (q))).h Try.underlying84 rfl (by kernel_rfl)) rfl ⟨rfl, below_setRow hB2 (by omega) _⟩
set_option maxRecDepth 100000 in
set_option maxHeartbeats 3200000 in
theorem dkTell_6 (M : MemV) (d : DH) (hp s th x ver : Int) (steps : List StepV) (done : Int) (tu en : Bool) (q : Hd) (qr : BlockH) (r : ReplyV) (w : World) : Calls Try.prog 41 #[.agg (dcX M d ⟨hp, s, th, x, ver⟩ ⟨6, steps, done, tu, en⟩ q), .agg (repA qr r)] w fun e w' => e = .returned (.agg (dcX M d ⟨hp, s, th, x, ver⟩ (⟨7, steps, done, false, en⟩) (q))) ∧ Below w.heap.size w w' := by
  have hB : Below w.heap.size w (((w.alloc (.cells (dcX M d ⟨hp, s, th, x, ver⟩ ⟨6, steps, done, tu, en⟩ q) 84)).alloc (.cells (repA qr r) 50)).alloc (.cells dcZ 84)) := by (repeat (first | exact Below.refl _ _ | assumption | refine below_alloc2 ?_ (by first | exact Nat.le_refl _ | omega) _ | refine Below.drew ?_ | refine below_drewN ?_ _ | refine below_push2 ?_ ‹_› (by first | exact Nat.le_refl _ | omega) | refine Below.setCell ?_ (by first | (simp; done) | (simp; omega) | omega) _))
  have BX := ((Blk.new w (dcX M d ⟨hp, s, th, x, ver⟩ ⟨6, steps, done, tu, en⟩ q) 84).alloc (.cells (repA qr r) 50)).alloc (.cells dcZ 84)
  have BQ : Blk (((w.alloc (.cells (dcX M d ⟨hp, s, th, x, ver⟩ ⟨6, steps, done, tu, en⟩ q) 84)).alloc (.cells (repA qr r) 50)).alloc (.cells dcZ 84)) (w.heap.size + 1) (repA qr r) 50 := by
    have := (Blk.new (w.alloc (.cells (dcX M d ⟨hp, s, th, x, ver⟩ ⟨6, steps, done, tu, en⟩ q) 84)) (repA qr r) 50).alloc (.cells dcZ 84)
    simpa using this
  have BR : Blk (((w.alloc (.cells (dcX M d ⟨hp, s, th, x, ver⟩ ⟨6, steps, done, tu, en⟩ q) 84)).alloc (.cells (repA qr r) 50)).alloc (.cells dcZ 84)) (w.heap.size + 2) dcZ 84 := by
    have := Blk.new ((w.alloc (.cells (dcX M d ⟨hp, s, th, x, ver⟩ ⟨6, steps, done, tu, en⟩ q) 84)).alloc (.cells (repA qr r) 50)) dcZ 84
    simpa using this
  go_enter Try.func41, Try.ntmps41
  go_upto_region 1 with (fail)
  generalize (((w.alloc (.cells (dcX M d ⟨hp, s, th, x, ver⟩ ⟨6, steps, done, tu, en⟩ q) 84)).alloc (.cells (repA qr r) 50)).alloc (.cells dcZ 84)) = w1 at hB BX BQ BR ⊢
  have hs1 : w.heap.size + 2 < w1.heap.size := BR.lt
  have c9 : w1.cell? ⟨w.heap.size, 9, none⟩ = some (.int .u64 ver) := BX.at 9 rfl
  have c10 : w1.cell? ⟨w.heap.size, 10, none⟩ = some (.int .i64 6) := BX.at 10 rfl
  have f10 := BX.free 10
  have c11 : w1.cell? ⟨w.heap.size, 11, none⟩ = some (.slice q.a steps.length q.c) := BX.at 11 rfl
  have f11 := BX.free 11
  have c12 : w1.cell? ⟨w.heap.size, 12, none⟩ = some (.int .u64 done) := BX.at 12 rfl
  have f12 := BX.free 12
  have c13 : w1.cell? ⟨w.heap.size, 13, none⟩ = some (.bool tu) := BX.at 13 rfl
  have f13 := BX.free 13
  have c14 : w1.cell? ⟨w.heap.size, 14, none⟩ = some (.bool en) := BX.at 14 rfl
  have f14 := BX.free 14
  have r0 := BQ.at 0 rfl
  have r1 := BQ.at 1 rfl
  have r2 := BQ.at 2 rfl
  have r3 := BQ.at 3 rfl
  have BF := (BX.set 13 (.bool false)).set 10 (.int .i64 7)
  simp only [List.setIfInBounds_toArray, List.set_cons_succ, List.set_cons_zero] at BF
  go_upto_region 35 with (fail)
  have F2 := ((Fr.refl [w.heap.size] w1).setb 13 (.bool false)).setb 10 (.int .i64 7)
  have BR2 := F2.blk BR (by simp)
  have hB2 := F2.below hB (Nat.le_refl _) (by simp)
  clear F2 BX BQ BR hB c9 c10 f10 c11 f11 c12 f12 c13 f13 c14 f14 r0 r1 r2 r3
  go_wp2_with (first
    | (refine wpList_load_row rfl 84 _ rfl w.heap.size rfl 84 _ (0, 0) _ BF.h Try.underlying84 rfl (by kernel_rfl) ?_)
    | (refine wpList_store_row rfl 84 _ _ rfl (w.heap.size + 2) _ rfl rfl 84 _ BR2.h (by kernel_rfl) (by rfl) (by kernel_rfl) ?_))
  refine bodyPost_ret (results_cell_row rfl _ _ (w.heap.size + 2) 84 (dcX M d ⟨hp, s, th, x, ver⟩ (⟨7, steps, done, false, en⟩) (q)) (0, 0) _ rfl (Blk.row BR2 (dcX M d ⟨hp, s, th, x, ver⟩ (⟨7, steps, done, false, en⟩) (q))).h Try.underlying84 rfl (by kernel_rfl)) rfl ⟨rfl, below_setRow hB2 (by omega) _⟩
set_option maxRecDepth 100000 in
set_option maxHeartbeats 3200000 in
theorem dkTell_7 (M : MemV) (d : DH) (hp s th x ver : Int) (steps : List StepV) (done : Int) (tu en : Bool) (q : Hd) (qr : BlockH) (r : ReplyV) (w : World) : Calls Try.prog 41 #[.agg (dcX M d ⟨hp, s, th, x, ver⟩ ⟨7, steps, done, tu, en⟩ q), .agg (repA qr r)] w fun e w' => e = .returned (.agg (dcX M d ⟨hp, s, th, x, ver⟩ (⟨8, steps, done, false, r.ok⟩) (q))) ∧ Below w.heap.size w w' := by
  have hB : Below w.heap.size w (((w.alloc (.cells (dcX M d ⟨hp, s, th, x, ver⟩ ⟨7, steps, done, tu, en⟩ q) 84)).alloc (.cells (repA qr r) 50)).alloc (.cells dcZ 84)) := by (repeat (first | exact Below.refl _ _ | assumption | refine below_alloc2 ?_ (by first | exact Nat.le_refl _ | omega) _ | refine Below.drew ?_ | refine below_drewN ?_ _ | refine below_push2 ?_ ‹_› (by first | exact Nat.le_refl _ | omega) | refine Below.setCell ?_ (by first | (simp; done) | (simp; omega) | omega) _))
  have BX := ((Blk.new w (dcX M d ⟨hp, s, th, x, ver⟩ ⟨7, steps, done, tu, en⟩ q) 84).alloc (.cells (repA qr r) 50)).alloc (.cells dcZ 84)
  have BQ : Blk (((w.alloc (.cells (dcX M d ⟨hp, s, th, x, ver⟩ ⟨7, steps, done, tu, en⟩ q) 84)).alloc (.cells (repA qr r) 50)).alloc (.cells dcZ 84)) (w.heap.size + 1) (repA qr r) 50 := by
    have := (Blk.new (w.alloc (.cells (dcX M d ⟨hp, s, th, x, ver⟩ ⟨7, steps, done, tu, en⟩ q) 84)) (repA qr r) 50).alloc (.cells dcZ 84)
    simpa using this
  have BR : Blk (((w.alloc (.cells (dcX M d ⟨hp, s, th, x, ver⟩ ⟨7, steps, done, tu, en⟩ q) 84)).alloc (.cells (repA qr r) 50)).alloc (.cells dcZ 84)) (w.heap.size + 2) dcZ 84 := by
    have := Blk.new ((w.alloc (.cells (dcX M d ⟨hp, s, th, x, ver⟩ ⟨7, steps, done, tu, en⟩ q) 84)).alloc (.cells (repA qr r) 50)) dcZ 84
    simpa using this
  go_enter Try.func41, Try.ntmps41
  go_upto_region 1 with (fail)
  generalize (((w.alloc (.cells (dcX M d ⟨hp, s, th, x, ver⟩ ⟨7, steps, done, tu, en⟩ q) 84)).alloc (.cells (repA qr r) 50)).alloc (.cells dcZ 84)) = w1 at hB BX BQ BR ⊢
  have hs1 : w.heap.size + 2 < w1.heap.size := BR.lt
  have c9 : w1.cell? ⟨w.heap.size, 9, none⟩ = some (.int .u64 ver) := BX.at 9 rfl
  have c10 : w1.cell? ⟨w.heap.size, 10, none⟩ = some (.int .i64 7) := BX.at 10 rfl
  have f10 := BX.free 10
  have c11 : w1.cell? ⟨w.heap.size, 11, none⟩ = some (.slice q.a steps.length q.c) := BX.at 11 rfl
  have f11 := BX.free 11
  have c12 : w1.cell? ⟨w.heap.size, 12, none⟩ = some (.int .u64 done) := BX.at 12 rfl
  have f12 := BX.free 12
  have c13 : w1.cell? ⟨w.heap.size, 13, none⟩ = some (.bool tu) := BX.at 13 rfl
  have f13 := BX.free 13
  have c14 : w1.cell? ⟨w.heap.size, 14, none⟩ = some (.bool en) := BX.at 14 rfl
  have f14 := BX.free 14
  have r0 := BQ.at 0 rfl
  have r1 := BQ.at 1 rfl
  have r2 := BQ.at 2 rfl
  have r3 := BQ.at 3 rfl
  have BF := ((BX.set 13 (.bool false)).set 14 (.bool r.ok)).set 10 (.int .i64 8)
  simp only [List.setIfInBounds_toArray, List.set_cons_succ, List.set_cons_zero] at BF
  go_upto_region 35 with (fail)
  have F2 := (((Fr.refl [w.heap.size] w1).setb 13 (.bool false)).setb 14 (.bool r.ok)).setb 10 (.int .i64 8)
  have BR2 := F2.blk BR (by simp)
  have hB2 := F2.below hB (Nat.le_refl _) (by simp)
  clear F2 BX BQ BR hB c9 c10 f10 c11 f11 c12 f12 c13 f13 c14 f14 r0 r1 r2 r3
  go_wp2_with (first
    | (refine wpList_load_row rfl 84 _ rfl w.heap.size rfl 84 _ (0, 0) _ BF.h Try.underlying84 rfl (by kernel_rfl) ?_)
    | (refine wpList_store_row rfl 84 _ _ rfl (w.heap.size + 2) _ rfl rfl 84 _ BR2.h (by kernel_rfl) (by rfl) (by kernel_rfl) ?_))
  refine bodyPost_ret (results_cell_row rfl _ _ (w.heap.size + 2) 84 (dcX M d ⟨hp, s, th, x, ver⟩ (⟨8, steps, done, false, r.ok⟩) (q)) (0, 0) _ rfl (Blk.row BR2 (dcX M d ⟨hp, s, th, x, ver⟩ (⟨8, steps, done, false, r.ok⟩) (q))).h Try.underlying84 rfl (by kernel_rfl)) rfl ⟨rfl, below_setRow hB2 (by omega) _⟩
set_option maxRecDepth 100000 in
set_option maxHeartbeats 3200000 in
theorem dkTell_1 (M : MemV) (d : DH) (hp s th x ver : Int) (steps : List StepV) (done : Int) (tu en : Bool) (q : Hd) (qr : BlockH) (r : ReplyV) (w : World) (hv : r.ver = ver) : Calls Try.prog 41 #[.agg (dcX M d ⟨hp, s, th, x, ver⟩ ⟨1, steps, done, tu, en⟩ q), .agg (repA qr r)] w fun e w' => e = .returned (.agg (dcX M d ⟨hp, s, th, x, ver⟩ (⟨2, steps, done, false, en⟩) (q))) ∧ Below w.heap.size w w' := by
  have q1 : (r.ver != ver) = false := by simpa using hv
  clear hv
  have hB : Below w.heap.size w (((w.alloc (.cells (dcX M d ⟨hp, s, th, x, ver⟩ ⟨1, steps, done, tu, en⟩ q) 84)).alloc (.cells (repA qr r) 50)).alloc (.cells dcZ 84)) := by (repeat (first | exact Below.refl _ _ | assumption | refine below_alloc2 ?_ (by first | exact Nat.le_refl _ | omega) _ | refine Below.drew ?_ | refine below_drewN ?_ _ | refine below_push2 ?_ ‹_› (by first | exact Nat.le_refl _ | omega) | refine Below.setCell ?_ (by first | (simp; done) | (simp; omega) | omega) _))
  have BX := ((Blk.new w (dcX M d ⟨hp, s, th, x, ver⟩ ⟨1, steps, done, tu, en⟩ q) 84).alloc (.cells (repA qr r) 50)).alloc (.cells dcZ 84)
  have BQ : Blk (((w.alloc (.cells (dcX M d ⟨hp, s, th, x, ver⟩ ⟨1, steps, done, tu, en⟩ q) 84)).alloc (.cells (repA qr r) 50)).alloc (.cells dcZ 84)) (w.heap.size + 1) (repA qr r) 50 := by
    have := (Blk.new (w.alloc (.cells (dcX M d ⟨hp, s, th, x, ver⟩ ⟨1, steps, done, tu, en⟩ q) 84)) (repA qr r) 50).alloc (.cells dcZ 84)
    simpa using this
  have BR : Blk (((w.alloc (.cells (dcX M d ⟨hp, s, th, x, ver⟩ ⟨1, steps, done, tu, en⟩ q) 84)).alloc (.cells (repA qr r) 50)).alloc (.cells dcZ 84)) (w.heap.size + 2) dcZ 84 := by
    have := Blk.new ((w.alloc (.cells (dcX M d ⟨hp, s, th, x, ver⟩ ⟨1, steps, done, tu, en⟩ q) 84)).alloc (.cells (repA qr r) 50)) dcZ 84
    simpa using this
  go_enter Try.func41, Try.ntmps41
  go_upto_region 1 with (fail)
  generalize (((w.alloc (.cells (dcX M d ⟨hp, s, th, x, ver⟩ ⟨1, steps, done, tu, en⟩ q) 84)).alloc (.cells (repA qr r) 50)).alloc (.cells dcZ 84)) = w1 at hB BX BQ BR ⊢
  have hs1 : w.heap.size + 2 < w1.heap.size := BR.lt
  have c9 : w1.cell? ⟨w.heap.size, 9, none⟩ = some (.int .u64 ver) := BX.at 9 rfl
  have c10 : w1.cell? ⟨w.heap.size, 10, none⟩ = some (.int .i64 1) := BX.at 10 rfl
  have f10 := BX.free 10
  have c11 : w1.cell? ⟨w.heap.size, 11, none⟩ = some (.slice q.a steps.length q.c) := BX.at 11 rfl
  have f11 := BX.free 11
  have c12 : w1.cell? ⟨w.heap.size, 12, none⟩ = some (.int .u64 done) := BX.at 12 rfl
  have f12 := BX.free 12
  have c13 : w1.cell? ⟨w.heap.size, 13, none⟩ = some (.bool tu) := BX.at 13 rfl
  have f13 := BX.free 13
  have c14 : w1.cell? ⟨w.heap.size, 14, none⟩ = some (.bool en) := BX.at 14 rfl
  have f14 := BX.free 14
  have r0 := BQ.at 0 rfl
  have r1 := BQ.at 1 rfl
  have r2 := BQ.at 2 rfl
  have r3 := BQ.at 3 rfl
  have BF := (BX.set 13 (.bool false)).set 10 (.int .i64 2)
  simp only [List.setIfInBounds_toArray, List.set_cons_succ, List.set_cons_zero] at BF
  go_upto_region 35 with (fail)
  have F2 := ((Fr.refl [w.heap.size] w1).setb 13 (.bool false)).setb 10 (.int .i64 2)
  have BR2 := F2.blk BR (by simp)
  have hB2 := F2.below hB (Nat.le_refl _) (by simp)
  clear F2 BX BQ BR hB c9 c10 f10 c11 f11 c12 f12 c13 f13 c14 f14 r0 r1 r2 r3
  go_wp2_with (first
    | (refine wpList_load_row rfl 84 _ rfl w.heap.size rfl 84 _ (0, 0) _ BF.h Try.underlying84 rfl (by kernel_rfl) ?_)
    | (refine wpList_store_row rfl 84 _ _ rfl (w.heap.size + 2) _ rfl rfl 84 _ BR2.h (by kernel_rfl) (by rfl) (by kernel_rfl) ?_))
  refine bodyPost_ret (results_cell_row rfl _ _ (w.heap.size + 2) 84 (dcX M d ⟨hp, s, th, x, ver⟩ (⟨2, steps, done, false, en⟩) (q)) (0, 0) _ rfl (Blk.row BR2 (dcX M d ⟨hp, s, th, x, ver⟩ (⟨2, steps, done, false, en⟩) (q))).h Try.underlying84 rfl (by kernel_rfl)) rfl ⟨rfl, below_setRow hB2 (by omega) _⟩
set_option maxRecDepth 100000 in
set_option maxHeartbeats 3200000 in
theorem dkTell_1no (M : MemV) (d : DH) (hp s th x ver : Int) (steps : List StepV) (done : Int) (tu en : Bool) (q : Hd) (qr : BlockH) (r : ReplyV) (w : World) (hv : r.ver ≠ ver) : Calls Try.prog 41 #[.agg (dcX M d ⟨hp, s, th, x, ver⟩ ⟨1, steps, done, tu, en⟩ q), .agg (repA qr r)] w fun e w' => e = .returned (.agg (dcX M d ⟨hp, s, th, x, ver⟩ (⟨8, steps, done, false, en⟩) (q))) ∧ Below w.heap.size w w' := by
  have q1 : (r.ver != ver) = true := by simpa using hv
  clear hv
  have hB : Below w.heap.size w (((w.alloc (.cells (dcX M d ⟨hp, s, th, x, ver⟩ ⟨1, steps, done, tu, en⟩ q) 84)).alloc (.cells (repA qr r) 50)).alloc (.cells dcZ 84)) := by (repeat (first | exact Below.refl _ _ | assumption | refine below_alloc2 ?_ (by first | exact Nat.le_refl _ | omega) _ | refine Below.drew ?_ | refine below_drewN ?_ _ | refine below_push2 ?_ ‹_› (by first | exact Nat.le_refl _ | omega) | refine Below.setCell ?_ (by first | (simp; done) | (simp; omega) | omega) _))
  have BX := ((Blk.new w (dcX M d ⟨hp, s, th, x, ver⟩ ⟨1, steps, done, tu, en⟩ q) 84).alloc (.cells (repA qr r) 50)).alloc (.cells dcZ 84)
  have BQ : Blk (((w.alloc (.cells (dcX M d ⟨hp, s, th, x, ver⟩ ⟨1, steps, done, tu, en⟩ q) 84)).alloc (.cells (repA qr r) 50)).alloc (.cells dcZ 84)) (w.heap.size + 1) (repA qr r) 50 := by
    have := (Blk.new (w.alloc (.cells (dcX M d ⟨hp, s, th, x, ver⟩ ⟨1, steps, done, tu, en⟩ q) 84)) (repA qr r) 50).alloc (.cells dcZ 84)
    simpa using this
  have BR : Blk (((w.alloc (.cells (dcX M d ⟨hp, s, th, x, ver⟩ ⟨1, steps, done, tu, en⟩ q) 84)).alloc (.cells (repA qr r) 50)).alloc (.cells dcZ 84)) (w.heap.size + 2) dcZ 84 := by
    have := Blk.new ((w.alloc (.cells (dcX M d ⟨hp, s, th, x, ver⟩ ⟨1, steps, done, tu, en⟩ q) 84)).alloc (.cells (repA qr r) 50)) dcZ 84
    simpa using this
  go_enter Try.func41, Try.ntmps41
  go_upto_region 1 with (fail)
  generalize (((w.alloc (.cells (dcX M d ⟨hp, s, th, x, ver⟩ ⟨1, steps, done, tu, en⟩ q) 84)).alloc (.cells (repA qr r) 50)).alloc (.cells dcZ 84)) = w1 at hB BX BQ BR ⊢
  have hs1 : w.heap.size + 2 < w1.heap.size := BR.lt
  have c9 : w1.cell? ⟨w.heap.size, 9, none⟩ = some (.int .u64 ver) := BX.at 9 rfl
  have c10 : w1.cell? ⟨w.heap.size, 10, none⟩ = some (.int .i64 1) := BX.at 10 rfl
  have f10 := BX.free 10
  have c11 : w1.cell? ⟨w.heap.size, 11, none⟩ = some (.slice q.a steps.length q.c) := BX.at 11 rfl
  have f11 := BX.free 11
  have c12 : w1.cell? ⟨w.heap.size, 12, none⟩ = some (.int .u64 done) := BX.at 12 rfl
  have f12 := BX.free 12
  have c13 : w1.cell? ⟨w.heap.size, 13, none⟩ = some (.bool tu) := BX.at 13 rfl
  have f13 := BX.free 13
  have c14 : w1.cell? ⟨w.heap.size, 14, none⟩ = some (.bool en) := BX.at 14 rfl
  have f14 := BX.free 14
  have r0 := BQ.at 0 rfl
  have r1 := BQ.at 1 rfl
  have r2 := BQ.at 2 rfl
  have r3 := BQ.at 3 rfl
  have BF := ((BX.set 13 (.bool false)).set 10 (.int .i64 2)).set 10 (.int .i64 8)
  simp only [List.setIfInBounds_toArray, List.set_cons_succ, List.set_cons_zero] at BF
  go_upto_region 35 with (fail)
  have F2 := (((Fr.refl [w.heap.size] w1).setb 13 (.bool false)).setb 10 (.int .i64 2)).setb 10 (.int .i64 8)
  have BR2 := F2.blk BR (by simp)
  have hB2 := F2.below hB (Nat.le_refl _) (by simp)
  clear F2 BX BQ BR hB c9 c10 f10 c11 f11 c12 f12 c13 f13 c14 f14 r0 r1 r2 r3
  go_wp2_with (first
    | (refine wpList_load_row rfl 84 _ rfl w.heap.size rfl 84 _ (0, 0) _ BF.h Try.underlying84 rfl (by kernel_rfl) ?_)
    | (refine wpList_store_row rfl 84 _ _ rfl (w.heap.size + 2) _ rfl rfl 84 _ BR2.h (by kernel_rfl) (by rfl) (by kernel_rfl) ?_))
  refine bodyPost_ret (results_cell_row rfl _ _ (w.heap.size + 2) 84 (dcX M d ⟨hp, s, th, x, ver⟩ (⟨8, steps, done, false, en⟩) (q)) (0, 0) _ rfl (Blk.row BR2 (dcX M d ⟨hp, s, th, x, ver⟩ (⟨8, steps, done, false, en⟩) (q))).h Try.underlying84 rfl (by kernel_rfl)) rfl ⟨rfl, below_setRow hB2 (by omega) _⟩
set_option maxRecDepth 100000 in
set_option maxHeartbeats 3200000 in
theorem dkTell_5 (M : MemV) (d : DH) (hp s th x ver : Int) (steps : List StepV) (done : Int) (tu en : Bool) (q : Hd) (qr : BlockH) (r : ReplyV) (w : World) (hv : r.ver = ver) : Calls Try.prog 41 #[.agg (dcX M d ⟨hp, s, th, x, ver⟩ ⟨5, steps, done, tu, en⟩ q), .agg (repA qr r)] w fun e w' => e = .returned (.agg (dcX M d ⟨hp, s, th, x, ver⟩ (⟨6, steps, done, false, en⟩) (q))) ∧ Below w.heap.size w w' := by
  have q1 : (r.ver != ver) = false := by simpa using hv
  clear hv
  have hB : Below w.heap.size w (((w.alloc (.cells (dcX M d ⟨hp, s, th, x, ver⟩ ⟨5, steps, done, tu, en⟩ q) 84)).alloc (.cells (repA qr r) 50)).alloc (.cells dcZ 84)) := by (repeat (first | exact Below.refl _ _ | assumption | refine below_alloc2 ?_ (by first | exact Nat.le_refl _ | omega) _ | refine Below.drew ?_ | refine below_drewN ?_ _ | refine below_push2 ?_ ‹_› (by first | exact Nat.le_refl _ | omega) | refine Below.setCell ?_ (by first | (simp; done) | (simp; omega) | omega) _))
  have BX := ((Blk.new w (dcX M d ⟨hp, s, th, x, ver⟩ ⟨5, steps, done, tu, en⟩ q) 84).alloc (.cells (repA qr r) 50)).alloc (.cells dcZ 84)
  have BQ : Blk (((w.alloc (.cells (dcX M d ⟨hp, s, th, x, ver⟩ ⟨5, steps, done, tu, en⟩ q) 84)).alloc (.cells (repA qr r) 50)).alloc (.cells dcZ 84)) (w.heap.size + 1) (repA qr r) 50 := by
    have := (Blk.new (w.alloc (.cells (dcX M d ⟨hp, s, th, x, ver⟩ ⟨5, steps, done, tu, en⟩ q) 84)) (repA qr r) 50).alloc (.cells dcZ 84)
    simpa using this
  have BR : Blk (((w.alloc (.cells (dcX M d ⟨hp, s, th, x, ver⟩ ⟨5, steps, done, tu, en⟩ q) 84)).alloc (.cells (repA qr r) 50)).alloc (.cells dcZ 84)) (w.heap.size + 2) dcZ 84 := by
    have := Blk.new ((w.alloc (.cells (dcX M d ⟨hp, s, th, x, ver⟩ ⟨5, steps, done, tu, en⟩ q) 84)).alloc (.cells (repA qr r) 50)) dcZ 84
    simpa using this
  go_enter Try.func41, Try.ntmps41
  go_upto_region 1 with (fail)
  generalize (((w.alloc (.cells (dcX M d ⟨hp, s, th, x, ver⟩ ⟨5, steps, done, tu, en⟩ q) 84)).alloc (.cells (repA qr r) 50)).alloc (.cells dcZ 84)) = w1 at hB BX BQ BR ⊢
  have hs1 : w.heap.size + 2 < w1.heap.size := BR.lt
  have c9 : w1.cell? ⟨w.heap.size, 9, none⟩ = some (.int .u64 ver) := BX.at 9 rfl
  have c10 : w1.cell? ⟨w.heap.size, 10, none⟩ = some (.int .i64 5) := BX.at 10 rfl
  have f10 := BX.free 10
  have c11 : w1.cell? ⟨w.heap.size, 11, none⟩ = some (.slice q.a steps.length q.c) := BX.at 11 rfl
  have f11 := BX.free 11
  have c12 : w1.cell? ⟨w.heap.size, 12, none⟩ = some (.int .u64 done) := BX.at 12 rfl
  have f12 := BX.free 12
  have c13 : w1.cell? ⟨w.heap.size, 13, none⟩ = some (.bool tu) := BX.at 13 rfl
  have f13 := BX.free 13
  have c14 : w1.cell? ⟨w.heap.size, 14, none⟩ = some (.bool en) := BX.at 14 rfl
  have f14 := BX.free 14
  have r0 := BQ.at 0 rfl
  have r1 := BQ.at 1 rfl
  have r2 := BQ.at 2 rfl
  have r3 := BQ.at 3 rfl
  have BF := (BX.set 13 (.bool false)).set 10 (.int .i64 6)
  simp only [List.setIfInBounds_toArray, List.set_cons_succ, List.set_cons_zero] at BF
  go_upto_region 35 with (fail)
  have F2 := ((Fr.refl [w.heap.size] w1).setb 13 (.bool false)).setb 10 (.int .i64 6)
  have BR2 := F2.blk BR (by simp)
  have hB2 := F2.below hB (Nat.le_refl _) (by simp)
  clear F2 BX BQ BR hB c9 c10 f10 c11 f11 c12 f12 c13 f13 c14 f14 r0 r1 r2 r3
  go_wp2_with (first
    | (refine wpList_load_row rfl 84 _ rfl w.heap.size rfl 84 _ (0, 0) _ BF.h Try.underlying84 rfl (by kernel_rfl) ?_)
    | (refine wpList_store_row rfl 84 _ _ rfl (w.heap.size + 2) _ rfl rfl 84 _ BR2.h (by kernel_rfl) (by rfl) (by kernel_rfl) ?_))
  refine bodyPost_ret (results_cell_row rfl _ _ (w.heap.size + 2) 84 (dcX M d ⟨hp, s, th, x, ver⟩ (⟨6, steps, done, false, en⟩) (q)) (0, 0) _ rfl (Blk.row BR2 (dcX M d ⟨hp, s, th, x, ver⟩ (⟨6, steps, done, false, en⟩) (q))).h Try.underlying84 rfl (by kernel_rfl)) rfl ⟨rfl, below_setRow hB2 (by omega) _⟩
set_option maxRecDepth 100000 in
set_option maxHeartbeats 3200000 in
theorem dkTell_5no (M : MemV) (d : DH) (hp s th x ver : Int) (steps : List StepV) (done : Int) (tu en : Bool) (q : Hd) (qr : BlockH) (r : ReplyV) (w : World) (hv : r.ver ≠ ver) : Calls Try.prog 41 #[.agg (dcX M d ⟨hp, s, th, x, ver⟩ ⟨5, steps, done, tu, en⟩ q), .agg (repA qr r)] w fun e w' => e = .returned (.agg (dcX M d ⟨hp, s, th, x, ver⟩ (⟨8, steps, done, false, en⟩) (q))) ∧ Below w.heap.size w w' := by
  have q1 : (r.ver != ver) = true := by simpa using hv
  clear hv
  have hB : Below w.heap.size w (((w.alloc (.cells (dcX M d ⟨hp, s, th, x, ver⟩ ⟨5, steps, done, tu, en⟩ q) 84)).alloc (.cells (repA qr r) 50)).alloc (.cells dcZ 84)) := by (repeat (first | exact Below.refl _ _ | assumption | refine below_alloc2 ?_ (by first | exact Nat.le_refl _ | omega) _ | refine Below.drew ?_ | refine below_drewN ?_ _ | refine below_push2 ?_ ‹_› (by first | exact Nat.le_refl _ | omega) | refine Below.setCell ?_ (by first | (simp; done) | (simp; omega) | omega) _))
  have BX := ((Blk.new w (dcX M d ⟨hp, s, th, x, ver⟩ ⟨5, steps, done, tu, en⟩ q) 84).alloc (.cells (repA qr r) 50)).alloc (.cells dcZ 84)
  have BQ : Blk (((w.alloc (.cells (dcX M d ⟨hp, s, th, x, ver⟩ ⟨5, steps, done, tu, en⟩ q) 84)).alloc (.cells (repA qr r) 50)).alloc (.cells dcZ 84)) (w.heap.size + 1) (repA qr r) 50 := by
    have := (Blk.new (w.alloc (.cells (dcX M d ⟨hp, s, th, x, ver⟩ ⟨5, steps, done, tu, en⟩ q) 84)) (repA qr r) 50).alloc (.cells dcZ 84)
    simpa using this
  have BR : Blk (((w.alloc (.cells (dcX M d ⟨hp, s, th, x, ver⟩ ⟨5, steps, done, tu, en⟩ q) 84)).alloc (.cells (repA qr r) 50)).alloc (.cells dcZ 84)) (w.heap.size + 2) dcZ 84 := by
    have := Blk.new ((w.alloc (.cells (dcX M d ⟨hp, s, th, x, ver⟩ ⟨5, steps, done, tu, en⟩ q) 84)).alloc (.cells (repA qr r) 50)) dcZ 84
    simpa using this
  go_enter Try.func41, Try.ntmps41
  go_upto_region 1 with (fail)
  generalize (((w.alloc (.cells (dcX M d ⟨hp, s, th, x, ver⟩ ⟨5, steps, done, tu, en⟩ q) 84)).alloc (.cells (repA qr r) 50)).alloc (.cells dcZ 84)) = w1 at hB BX BQ BR ⊢
  have hs1 : w.heap.size + 2 < w1.heap.size := BR.lt
  have c9 : w1.cell? ⟨w.heap.size, 9, none⟩ = some (.int .u64 ver) := BX.at 9 rfl
  have c10 : w1.cell? ⟨w.heap.size, 10, none⟩ = some (.int .i64 5) := BX.at 10 rfl
  have f10 := BX.free 10
  have c11 : w1.cell? ⟨w.heap.size, 11, none⟩ = some (.slice q.a steps.length q.c) := BX.at 11 rfl
  have f11 := BX.free 11
  have c12 : w1.cell? ⟨w.heap.size, 12, none⟩ = some (.int .u64 done) := BX.at 12 rfl
  have f12 := BX.free 12
  have c13 : w1.cell? ⟨w.heap.size, 13, none⟩ = some (.bool tu) := BX.at 13 rfl
  have f13 := BX.free 13
  have c14 : w1.cell? ⟨w.heap.size, 14, none⟩ = some (.bool en) := BX.at 14 rfl
  have f14 := BX.free 14
  have r0 := BQ.at 0 rfl
  have r1 := BQ.at 1 rfl
  have r2 := BQ.at 2 rfl
  have r3 := BQ.at 3 rfl
  have BF := ((BX.set 13 (.bool false)).set 10 (.int .i64 6)).set 10 (.int .i64 8)
  simp only [List.setIfInBounds_toArray, List.set_cons_succ, List.set_cons_zero] at BF
  go_upto_region 35 with (fail)
  have F2 := (((Fr.refl [w.heap.size] w1).setb 13 (.bool false)).setb 10 (.int .i64 6)).setb 10 (.int .i64 8)
  have BR2 := F2.blk BR (by simp)
  have hB2 := F2.below hB (Nat.le_refl _) (by simp)
  clear F2 BX BQ BR hB c9 c10 f10 c11 f11 c12 f12 c13 f13 c14 f14 r0 r1 r2 r3
  go_wp2_with (first
    | (refine wpList_load_row rfl 84 _ rfl w.heap.size rfl 84 _ (0, 0) _ BF.h Try.underlying84 rfl (by kernel_rfl) ?_)
    | (refine wpList_store_row rfl 84 _ _ rfl (w.heap.size + 2) _ rfl rfl 84 _ BR2.h (by kernel_rfl) (by rfl) (by kernel_rfl) ?_))
  refine bodyPost_ret (results_cell_row rfl _ _ (w.heap.size + 2) 84 (dcX M d ⟨hp, s, th, x, ver⟩ (⟨8, steps, done, false, en⟩) (q)) (0, 0) _ rfl (Blk.row BR2 (dcX M d ⟨hp, s, th, x, ver⟩ (⟨8, steps, done, false, en⟩) (q))).h Try.underlying84 rfl (by kernel_rfl)) rfl ⟨rfl, below_setRow hB2 (by omega) _⟩
set_option maxRecDepth 100000 in
set_option maxHeartbeats 3200000 in
theorem dkTell_4 (M : MemV) (d : DH) (hp s th x ver : Int) (steps : List StepV) (done : Int) (tu en : Bool) (q : Hd) (qr : BlockH) (r : ReplyV) (w : World) (hv : r.word = 0) : Calls Try.prog 41 #[.agg (dcX M d ⟨hp, s, th, x, ver⟩ ⟨4, steps, done, tu, en⟩ q), .agg (repA qr r)] w fun e w' => e = .returned (.agg (dcX M d ⟨hp, s, th, x, ver⟩ (⟨5, steps, r.ver, false, en⟩) (q))) ∧ Below w.heap.size w w' := by
  have q1 : (r.word == 0) = true := by simpa using hv
  clear hv
  have hB : Below w.heap.size w (((w.alloc (.cells (dcX M d ⟨hp, s, th, x, ver⟩ ⟨4, steps, done, tu, en⟩ q) 84)).alloc (.cells (repA qr r) 50)).alloc (.cells dcZ 84)) := by (repeat (first | exact Below.refl _ _ | assumption | refine below_alloc2 ?_ (by first | exact Nat.le_refl _ | omega) _ | refine Below.drew ?_ | refine below_drewN ?_ _ | refine below_push2 ?_ ‹_› (by first | exact Nat.le_refl _ | omega) | refine Below.setCell ?_ (by first | (simp; done) | (simp; omega) | omega) _))
  have BX := ((Blk.new w (dcX M d ⟨hp, s, th, x, ver⟩ ⟨4, steps, done, tu, en⟩ q) 84).alloc (.cells (repA qr r) 50)).alloc (.cells dcZ 84)
  have BQ : Blk (((w.alloc (.cells (dcX M d ⟨hp, s, th, x, ver⟩ ⟨4, steps, done, tu, en⟩ q) 84)).alloc (.cells (repA qr r) 50)).alloc (.cells dcZ 84)) (w.heap.size + 1) (repA qr r) 50 := by
    have := (Blk.new (w.alloc (.cells (dcX M d ⟨hp, s, th, x, ver⟩ ⟨4, steps, done, tu, en⟩ q) 84)) (repA qr r) 50).alloc (.cells dcZ 84)
    simpa using this
  have BR : Blk (((w.alloc (.cells (dcX M d ⟨hp, s, th, x, ver⟩ ⟨4, steps, done, tu, en⟩ q) 84)).alloc (.cells (repA qr r) 50)).alloc (.cells dcZ 84)) (w.heap.size + 2) dcZ 84 := by
    have := Blk.new ((w.alloc (.cells (dcX M d ⟨hp, s, th, x, ver⟩ ⟨4, steps, done, tu, en⟩ q) 84)).alloc (.cells (repA qr r) 50)) dcZ 84
    simpa using this
  go_enter Try.func41, Try.ntmps41
  go_upto_region 1 with (fail)
  generalize (((w.alloc (.cells (dcX M d ⟨hp, s, th, x, ver⟩ ⟨4, steps, done, tu, en⟩ q) 84)).alloc (.cells (repA qr r) 50)).alloc (.cells dcZ 84)) = w1 at hB BX BQ BR ⊢
  have hs1 : w.heap.size + 2 < w1.heap.size := BR.lt
  have c9 : w1.cell? ⟨w.heap.size, 9, none⟩ = some (.int .u64 ver) := BX.at 9 rfl
  have c10 : w1.cell? ⟨w.heap.size, 10, none⟩ = some (.int .i64 4) := BX.at 10 rfl
  have f10 := BX.free 10
  have c11 : w1.cell? ⟨w.heap.size, 11, none⟩ = some (.slice q.a steps.length q.c) := BX.at 11 rfl
  have f11 := BX.free 11
  have c12 : w1.cell? ⟨w.heap.size, 12, none⟩ = some (.int .u64 done) := BX.at 12 rfl
  have f12 := BX.free 12
  have c13 : w1.cell? ⟨w.heap.size, 13, none⟩ = some (.bool tu) := BX.at 13 rfl
  have f13 := BX.free 13
  have c14 : w1.cell? ⟨w.heap.size, 14, none⟩ = some (.bool en) := BX.at 14 rfl
  have f14 := BX.free 14
  have r0 := BQ.at 0 rfl
  have r1 := BQ.at 1 rfl
  have r2 := BQ.at 2 rfl
  have r3 := BQ.at 3 rfl
  have BF := (((BX.set 13 (.bool false)).set 12 (.int .u64 r.ver)).set 10 (.int .i64 7)).set 10 (.int .i64 5)
  simp only [List.setIfInBounds_toArray, List.set_cons_succ, List.set_cons_zero] at BF
  go_upto_region 35 with (fail)
  have F2 := ((((Fr.refl [w.heap.size] w1).setb 13 (.bool false)).setb 12 (.int .u64 r.ver)).setb 10 (.int .i64 7)).setb 10 (.int .i64 5)
  have BR2 := F2.blk BR (by simp)
  have hB2 := F2.below hB (Nat.le_refl _) (by simp)
  clear F2 BX BQ BR hB c9 c10 f10 c11 f11 c12 f12 c13 f13 c14 f14 r0 r1 r2 r3
  go_wp2_with (first
    | (refine wpList_load_row rfl 84 _ rfl w.heap.size rfl 84 _ (0, 0) _ BF.h Try.underlying84 rfl (by kernel_rfl) ?_)
    | (refine wpList_store_row rfl 84 _ _ rfl (w.heap.size + 2) _ rfl rfl 84 _ BR2.h (by kernel_rfl) (by rfl) (by kernel_rfl) ?_))
  refine bodyPost_ret (results_cell_row rfl _ _ (w.heap.size + 2) 84 (dcX M d ⟨hp, s, th, x, ver⟩ (⟨5, steps, r.ver, false, en⟩) (q)) (0, 0) _ rfl (Blk.row BR2 (dcX M d ⟨hp, s, th, x, ver⟩ (⟨5, steps, r.ver, false, en⟩) (q))).h Try.underlying84 rfl (by kernel_rfl)) rfl ⟨rfl, below_setRow hB2 (by omega) _⟩
set_option maxRecDepth 100000 in
set_option maxHeartbeats 3200000 in
theorem dkTell_4no (M : MemV) (d : DH) (hp s th x ver : Int) (steps : List StepV) (done : Int) (tu en : Bool) (q : Hd) (qr : BlockH) (r : ReplyV) (w : World) (hv : r.word ≠ 0) : Calls Try.prog 41 #[.agg (dcX M d ⟨hp, s, th, x, ver⟩ ⟨4, steps, done, tu, en⟩ q), .agg (repA qr r)] w fun e w' => e = .returned (.agg (dcX M d ⟨hp, s, th, x, ver⟩ (⟨7, steps, r.ver, false, en⟩) (q))) ∧ Below w.heap.size w w' := by
  have q1 : (r.word == 0) = false := by simpa using hv
  clear hv
  have hB : Below w.heap.size w (((w.alloc (.cells (dcX M d ⟨hp, s, th, x, ver⟩ ⟨4, steps, done, tu, en⟩ q) 84)).alloc (.cells (repA qr r) 50)).alloc (.cells dcZ 84)) := by (repeat (first | exact Below.refl _ _ | assumption | refine below_alloc2 ?_ (by first | exact Nat.le_refl _ | omega) _ | refine Below.drew ?_ | refine below_drewN ?_ _ | refine below_push2 ?_ ‹_› (by first | exact Nat.le_refl _ | omega) | refine Below.setCell ?_ (by first | (simp; done) | (simp; omega) | omega) _))
  have BX := ((Blk.new w (dcX M d ⟨hp, s, th, x, ver⟩ ⟨4, steps, done, tu, en⟩ q) 84).alloc (.cells (repA qr r) 50)).alloc (.cells dcZ 84)
  have BQ : Blk (((w.alloc (.cells (dcX M d ⟨hp, s, th, x, ver⟩ ⟨4, steps, done, tu, en⟩ q) 84)).alloc (.cells (repA qr r) 50)).alloc (.cells dcZ 84)) (w.heap.size + 1) (repA qr r) 50 := by
    have := (Blk.new (w.alloc (.cells (dcX M d ⟨hp, s, th, x, ver⟩ ⟨4, steps, done, tu, en⟩ q) 84)) (repA qr r) 50).alloc (.cells dcZ 84)
    simpa using this
  have BR : Blk (((w.alloc (.cells (dcX M d ⟨hp, s, th, x, ver⟩ ⟨4, steps, done, tu, en⟩ q) 84)).alloc (.cells (repA qr r) 50)).alloc (.cells dcZ 84)) (w.heap.size + 2) dcZ 84 := by
    have := Blk.new ((w.alloc (.cells (dcX M d ⟨hp, s, th, x, ver⟩ ⟨4, steps, done, tu, en⟩ q) 84)).alloc (.cells (repA qr r) 50)) dcZ 84
    simpa using this
  go_enter Try.func41, Try.ntmps41
  go_upto_region 1 with (fail)
  generalize (((w.alloc (.cells (dcX M d ⟨hp, s, th, x, ver⟩ ⟨4, steps, done, tu, en⟩ q) 84)).alloc (.cells (repA qr r) 50)).alloc (.cells dcZ 84)) = w1 at hB BX BQ BR ⊢
  have hs1 : w.heap.size + 2 < w1.heap.size := BR.lt
  have c9 : w1.cell? ⟨w.heap.size, 9, none⟩ = some (.int .u64 ver) := BX.at 9 rfl
  have c10 : w1.cell? ⟨w.heap.size, 10, none⟩ = some (.int .i64 4) := BX.at 10 rfl
  have f10 := BX.free 10
  have c11 : w1.cell? ⟨w.heap.size, 11, none⟩ = some (.slice q.a steps.length q.c) := BX.at 11 rfl
  have f11 := BX.free 11
  have c12 : w1.cell? ⟨w.heap.size, 12, none⟩ = some (.int .u64 done) := BX.at 12 rfl
  have f12 := BX.free 12
  have c13 : w1.cell? ⟨w.heap.size, 13, none⟩ = some (.bool tu) := BX.at 13 rfl
  have f13 := BX.free 13
  have c14 : w1.cell? ⟨w.heap.size, 14, none⟩ = some (.bool en) := BX.at 14 rfl
  have f14 := BX.free 14
  have r0 := BQ.at 0 rfl
  have r1 := BQ.at 1 rfl
  have r2 := BQ.at 2 rfl
  have r3 := BQ.at 3 rfl
  have BF := ((BX.set 13 (.bool false)).set 12 (.int .u64 r.ver)).set 10 (.int .i64 7)
  simp only [List.setIfInBounds_toArray, List.set_cons_succ, List.set_cons_zero] at BF
  go_upto_region 35 with (fail)
  have F2 := (((Fr.refl [w.heap.size] w1).setb 13 (.bool false)).setb 12 (.int .u64 r.ver)).setb 10 (.int .i64 7)
  have BR2 := F2.blk BR (by simp)
  have hB2 := F2.below hB (Nat.le_refl _) (by simp)
  clear F2 BX BQ BR hB c9 c10 f10 c11 f11 c12 f12 c13 f13 c14 f14 r0 r1 r2 r3
  go_wp2_with (first
    | (refine wpList_load_row rfl 84 _ rfl w.heap.size rfl 84 _ (0, 0) _ BF.h Try.underlying84 rfl (by kernel_rfl) ?_)
    | (refine wpList_store_row rfl 84 _ _ rfl (w.heap.size + 2) _ rfl rfl 84 _ BR2.h (by kernel_rfl) (by rfl) (by kernel_rfl) ?_))
  refine bodyPost_ret (results_cell_row rfl _ _ (w.heap.size + 2) 84 (dcX M d ⟨hp, s, th, x, ver⟩ (⟨7, steps, r.ver, false, en⟩) (q)) (0, 0) _ rfl (Blk.row BR2 (dcX M d ⟨hp, s, th, x, ver⟩ (⟨7, steps, r.ver, false, en⟩) (q))).h Try.underlying84 rfl (by kernel_rfl)) rfl ⟨rfl, below_setRow hB2 (by omega) _⟩
set_option maxRecDepth 100000 in
set_option maxHeartbeats 3200000 in
theorem dkTell_2no (M : MemV) (d : DH) (hp s th x ver : Int) (steps : List StepV) (done : Int) (tu en : Bool) (q : Hd) (qr : BlockH) (r : ReplyV) (w : World) (hr : ¬ (r.ok = true ∧ r.block.kind = 2)) : Calls Try.prog 41 #[.agg (dcX M d ⟨hp, s, th, x, ver⟩ ⟨2, steps, done, tu, en⟩ q), .agg (repA qr r)] w fun e w' => e = .returned (.agg (dcX M d ⟨hp, s, th, x, ver⟩ (⟨8, steps, done, false, en⟩) (q))) ∧ Below w.heap.size w w' := by
  by_cases hok : r.ok = true
  · have q1 : (r.block.kind == 2) = false := by simpa using fun e => hr ⟨hok, e⟩
    clear hr
    have hB : Below w.heap.size w (((w.alloc (.cells (dcX M d ⟨hp, s, th, x, ver⟩ ⟨2, steps, done, tu, en⟩ q) 84)).alloc (.cells (repA qr r) 50)).alloc (.cells dcZ 84)) := by (repeat (first | exact Below.refl _ _ | assumption | refine below_alloc2 ?_ (by first | exact Nat.le_refl _ | omega) _ | refine Below.drew ?_ | refine below_drewN ?_ _ | refine below_push2 ?_ ‹_› (by first | exact Nat.le_refl _ | omega) | refine Below.setCell ?_ (by first | (simp; done) | (simp; omega) | omega) _))
    have BX := ((Blk.new w (dcX M d ⟨hp, s, th, x, ver⟩ ⟨2, steps, done, tu, en⟩ q) 84).alloc (.cells (repA qr r) 50)).alloc (.cells dcZ 84)
    have BQ : Blk (((w.alloc (.cells (dcX M d ⟨hp, s, th, x, ver⟩ ⟨2, steps, done, tu, en⟩ q) 84)).alloc (.cells (repA qr r) 50)).alloc (.cells dcZ 84)) (w.heap.size + 1) (repA qr r) 50 := by
      have := (Blk.new (w.alloc (.cells (dcX M d ⟨hp, s, th, x, ver⟩ ⟨2, steps, done, tu, en⟩ q) 84)) (repA qr r) 50).alloc (.cells dcZ 84)
      simpa using this
    have BR : Blk (((w.alloc (.cells (dcX M d ⟨hp, s, th, x, ver⟩ ⟨2, steps, done, tu, en⟩ q) 84)).alloc (.cells (repA qr r) 50)).alloc (.cells dcZ 84)) (w.heap.size + 2) dcZ 84 := by
      have := Blk.new ((w.alloc (.cells (dcX M d ⟨hp, s, th, x, ver⟩ ⟨2, steps, done, tu, en⟩ q) 84)).alloc (.cells (repA qr r) 50)) dcZ 84
      simpa using this
    go_enter Try.func41, Try.ntmps41
    go_upto_region 1 with (fail)
    generalize (((w.alloc (.cells (dcX M d ⟨hp, s, th, x, ver⟩ ⟨2, steps, done, tu, en⟩ q) 84)).alloc (.cells (repA qr r) 50)).alloc (.cells dcZ 84)) = w1 at hB BX BQ BR ⊢
    have hs1 : w.heap.size + 2 < w1.heap.size := BR.lt
    have c9 : w1.cell? ⟨w.heap.size, 9, none⟩ = some (.int .u64 ver) := BX.at 9 rfl
    have c10 : w1.cell? ⟨w.heap.size, 10, none⟩ = some (.int .i64 2) := BX.at 10 rfl
    have f10 := BX.free 10
    have c11 : w1.cell? ⟨w.heap.size, 11, none⟩ = some (.slice q.a steps.length q.c) := BX.at 11 rfl
    have f11 := BX.free 11
    have c12 : w1.cell? ⟨w.heap.size, 12, none⟩ = some (.int .u64 done) := BX.at 12 rfl
    have f12 := BX.free 12
    have c13 : w1.cell? ⟨w.heap.size, 13, none⟩ = some (.bool tu) := BX.at 13 rfl
    have f13 := BX.free 13
    have c14 : w1.cell? ⟨w.heap.size, 14, none⟩ = some (.bool en) := BX.at 14 rfl
    have f14 := BX.free 14
    have r0 := BQ.at 0 rfl
    have r1 := BQ.at 1 rfl
    have r2 := BQ.at 2 rfl
    have r3 := BQ.at 3 rfl
    have r17 := BQ.at 17 rfl
    clear r17
    have BF := (BX.set 13 (.bool false)).set 10 (.int .i64 8)
    simp only [List.setIfInBounds_toArray, List.set_cons_succ, List.set_cons_zero] at BF
    go_upto_region 35 with (fail)
    have F2 := ((Fr.refl [w.heap.size] w1).setb 13 (.bool false)).setb 10 (.int .i64 8)
    have BR2 := F2.blk BR (by simp)
    have hB2 := F2.below hB (Nat.le_refl _) (by simp)
    clear F2 BX BQ BR hB c9 c10 f10 c11 f11 c12 f12 c13 f13 c14 f14 r0 r1 r2 r3
    go_wp2_with (first
      | (refine wpList_load_row rfl 84 _ rfl w.heap.size rfl 84 _ (0, 0) _ BF.h Try.underlying84 rfl (by kernel_rfl) ?_)
      | (refine wpList_store_row rfl 84 _ _ rfl (w.heap.size + 2) _ rfl rfl 84 _ BR2.h (by kernel_rfl) (by rfl) (by kernel_rfl) ?_))
    refine bodyPost_ret (results_cell_row rfl _ _ (w.heap.size + 2) 84 (dcX M d ⟨hp, s, th, x, ver⟩ (⟨8, steps, done, false, en⟩) (q)) (0, 0) _ rfl (Blk.row BR2 (dcX M d ⟨hp, s, th, x, ver⟩ (⟨8, steps, done, false, en⟩) (q))).h Try.underlying84 rfl (by kernel_rfl)) rfl ⟨rfl, below_setRow hB2 (by omega) _⟩
  · have q1 : r.ok = false := by simpa using hok
    clear hr hok
    have hB : Below w.heap.size w (((w.alloc (.cells (dcX M d ⟨hp, s, th, x, ver⟩ ⟨2, steps, done, tu, en⟩ q) 84)).alloc (.cells (repA qr r) 50)).alloc (.cells dcZ 84)) := by (repeat (first | exact Below.refl _ _ | assumption | refine below_alloc2 ?_ (by first | exact Nat.le_refl _ | omega) _ | refine Below.drew ?_ | refine below_drewN ?_ _ | refine below_push2 ?_ ‹_› (by first | exact Nat.le_refl _ | omega) | refine Below.setCell ?_ (by first | (simp; done) | (simp; omega) | omega) _))
    have BX := ((Blk.new w (dcX M d ⟨hp, s, th, x, ver⟩ ⟨2, steps, done, tu, en⟩ q) 84).alloc (.cells (repA qr r) 50)).alloc (.cells dcZ 84)
    have BQ : Blk (((w.alloc (.cells (dcX M d ⟨hp, s, th, x, ver⟩ ⟨2, steps, done, tu, en⟩ q) 84)).alloc (.cells (repA qr r) 50)).alloc (.cells dcZ 84)) (w.heap.size + 1) (repA qr r) 50 := by
      have := (Blk.new (w.alloc (.cells (dcX M d ⟨hp, s, th, x, ver⟩ ⟨2, steps, done, tu, en⟩ q) 84)) (repA qr r) 50).alloc (.cells dcZ 84)
      simpa using this
    have BR : Blk (((w.alloc (.cells (dcX M d ⟨hp, s, th, x, ver⟩ ⟨2, steps, done, tu, en⟩ q) 84)).alloc (.cells (repA qr r) 50)).alloc (.cells dcZ 84)) (w.heap.size + 2) dcZ 84 := by
      have := Blk.new ((w.alloc (.cells (dcX M d ⟨hp, s, th, x, ver⟩ ⟨2, steps, done, tu, en⟩ q) 84)).alloc (.cells (repA qr r) 50)) dcZ 84
      simpa using this
    go_enter Try.func41, Try.ntmps41
    go_upto_region 1 with (fail)
    generalize (((w.alloc (.cells (dcX M d ⟨hp, s, th, x, ver⟩ ⟨2, steps, done, tu, en⟩ q) 84)).alloc (.cells (repA qr r) 50)).alloc (.cells dcZ 84)) = w1 at hB BX BQ BR ⊢
    have hs1 : w.heap.size + 2 < w1.heap.size := BR.lt
    have c9 : w1.cell? ⟨w.heap.size, 9, none⟩ = some (.int .u64 ver) := BX.at 9 rfl
    have c10 : w1.cell? ⟨w.heap.size, 10, none⟩ = some (.int .i64 2) := BX.at 10 rfl
    have f10 := BX.free 10
    have c11 : w1.cell? ⟨w.heap.size, 11, none⟩ = some (.slice q.a steps.length q.c) := BX.at 11 rfl
    have f11 := BX.free 11
    have c12 : w1.cell? ⟨w.heap.size, 12, none⟩ = some (.int .u64 done) := BX.at 12 rfl
    have f12 := BX.free 12
    have c13 : w1.cell? ⟨w.heap.size, 13, none⟩ = some (.bool tu) := BX.at 13 rfl
    have f13 := BX.free 13
    have c14 : w1.cell? ⟨w.heap.size, 14, none⟩ = some (.bool en) := BX.at 14 rfl
    have f14 := BX.free 14
    have r0 := BQ.at 0 rfl
    have r1 := BQ.at 1 rfl
    have r2 := BQ.at 2 rfl
    have r3 := BQ.at 3 rfl
    have r17 := BQ.at 17 rfl
    clear r17
    have BF := (BX.set 13 (.bool false)).set 10 (.int .i64 8)
    simp only [List.setIfInBounds_toArray, List.set_cons_succ, List.set_cons_zero] at BF
    go_upto_region 35 with (fail)
    have F2 := ((Fr.refl [w.heap.size] w1).setb 13 (.bool false)).setb 10 (.int .i64 8)
    have BR2 := F2.blk BR (by simp)
    have hB2 := F2.below hB (Nat.le_refl _) (by simp)
    clear F2 BX BQ BR hB c9 c10 f10 c11 f11 c12 f12 c13 f13 c14 f14 r0 r1 r2 r3
    go_wp2_with (first
      | (refine wpList_load_row rfl 84 _ rfl w.heap.size rfl 84 _ (0, 0) _ BF.h Try.underlying84 rfl (by kernel_rfl) ?_)
      | (refine wpList_store_row rfl 84 _ _ rfl (w.heap.size + 2) _ rfl rfl 84 _ BR2.h (by kernel_rfl) (by rfl) (by kernel_rfl) ?_))
    refine bodyPost_ret (results_cell_row rfl _ _ (w.heap.size + 2) 84 (dcX M d ⟨hp, s, th, x, ver⟩ (⟨8, steps, done, false, en⟩) (q)) (0, 0) _ rfl (Blk.row BR2 (dcX M d ⟨hp, s, th, x, ver⟩ (⟨8, steps, done, false, en⟩) (q))).h Try.underlying84 rfl (by kernel_rfl)) rfl ⟨rfl, below_setRow hB2 (by omega) _⟩
set_option maxRecDepth 100000 in
set_option maxHeartbeats 3200000 in
theorem dkTell_2 (M : MemV) (d : DH) (hp s th x ver : Int) (steps : List StepV) (done : Int) (tu en : Bool) (q : Hd) (qr : BlockH) (r : ReplyV) (w : World) (hok : r.ok = true) (hk : r.block.kind = 2) (hl : 0 < r.block.plan.steps.length) : Calls Try.prog 41 #[.agg (dcX M d ⟨hp, s, th, x, ver⟩ ⟨2, steps, done, tu, en⟩ q), .agg (repA qr r)] w fun e w' => e = .returned (.agg (dcX M d ⟨hp, s, th, x, ver⟩ (⟨3, r.block.plan.steps, done, false, en⟩) (qr.plan.steps))) ∧ Below w.heap.size w w' := by
  have q1 : (r.block.kind == 2) = true := by simpa using hk
  have q2 : ((r.block.plan.steps.length : Int) == 0) = false := by simp; intro e; rw [e] at hl; simp at hl
  clear hk hl
  have hB : Below w.heap.size w (((w.alloc (.cells (dcX M d ⟨hp, s, th, x, ver⟩ ⟨2, steps, done, tu, en⟩ q) 84)).alloc (.cells (repA qr r) 50)).alloc (.cells dcZ 84)) := by (repeat (first | exact Below.refl _ _ | assumption | refine below_alloc2 ?_ (by first | exact Nat.le_refl _ | omega) _ | refine Below.drew ?_ | refine below_drewN ?_ _ | refine below_push2 ?_ ‹_› (by first | exact Nat.le_refl _ | omega) | refine Below.setCell ?_ (by first | (simp; done) | (simp; omega) | omega) _))
  have BX := ((Blk.new w (dcX M d ⟨hp, s, th, x, ver⟩ ⟨2, steps, done, tu, en⟩ q) 84).alloc (.cells (repA qr r) 50)).alloc (.cells dcZ 84)
  have BQ : Blk (((w.alloc (.cells (dcX M d ⟨hp, s, th, x, ver⟩ ⟨2, steps, done, tu, en⟩ q) 84)).alloc (.cells (repA qr r) 50)).alloc (.cells dcZ 84)) (w.heap.size + 1) (repA qr r) 50 := by
    have := (Blk.new (w.alloc (.cells (dcX M d ⟨hp, s, th, x, ver⟩ ⟨2, steps, done, tu, en⟩ q) 84)) (repA qr r) 50).alloc (.cells dcZ 84)
    simpa using this
  have BR : Blk (((w.alloc (.cells (dcX M d ⟨hp, s, th, x, ver⟩ ⟨2, steps, done, tu, en⟩ q) 84)).alloc (.cells (repA qr r) 50)).alloc (.cells dcZ 84)) (w.heap.size + 2) dcZ 84 := by
    have := Blk.new ((w.alloc (.cells (dcX M d ⟨hp, s, th, x, ver⟩ ⟨2, steps, done, tu, en⟩ q) 84)).alloc (.cells (repA qr r) 50)) dcZ 84
    simpa using this
  go_enter Try.func41, Try.ntmps41
  go_upto_region 1 with (fail)
  generalize (((w.alloc (.cells (dcX M d ⟨hp, s, th, x, ver⟩ ⟨2, steps, done, tu, en⟩ q) 84)).alloc (.cells (repA qr r) 50)).alloc (.cells dcZ 84)) = w1 at hB BX BQ BR ⊢
  have hs1 : w.heap.size + 2 < w1.heap.size := BR.lt
  have c9 : w1.cell? ⟨w.heap.size, 9, none⟩ = some (.int .u64 ver) := BX.at 9 rfl
  have c10 : w1.cell? ⟨w.heap.size, 10, none⟩ = some (.int .i64 2) := BX.at 10 rfl
  have f10 := BX.free 10
  have c11 : w1.cell? ⟨w.heap.size, 11, none⟩ = some (.slice q.a steps.length q.c) := BX.at 11 rfl
  have f11 := BX.free 11
  have c12 : w1.cell? ⟨w.heap.size, 12, none⟩ = some (.int .u64 done) := BX.at 12 rfl
  have f12 := BX.free 12
  have c13 : w1.cell? ⟨w.heap.size, 13, none⟩ = some (.bool tu) := BX.at 13 rfl
  have f13 := BX.free 13
  have c14 : w1.cell? ⟨w.heap.size, 14, none⟩ = some (.bool en) := BX.at 14 rfl
  have f14 := BX.free 14
  have r0 := BQ.at 0 rfl
  have r1 := BQ.at 1 rfl
  have r2 := BQ.at 2 rfl
  have r3 := BQ.at 3 rfl
  have r17 := BQ.at 17 rfl
  have BF := (((BX.set 13 (.bool false)).set 10 (.int .i64 8)).set 11 (.slice qr.plan.steps.a r.block.plan.steps.length qr.plan.steps.c)).set 10 (.int .i64 3)
  simp only [List.setIfInBounds_toArray, List.set_cons_succ, List.set_cons_zero] at BF
  go_upto_region 35 with (fail)
  have F2 := ((((Fr.refl [w.heap.size] w1).setb 13 (.bool false)).setb 10 (.int .i64 8)).setb 11 (.slice qr.plan.steps.a r.block.plan.steps.length qr.plan.steps.c)).setb 10 (.int .i64 3)
  have BR2 := F2.blk BR (by simp)
  have hB2 := F2.below hB (Nat.le_refl _) (by simp)
  clear F2 BX BQ BR hB c9 c10 f10 c11 f11 c12 f12 c13 f13 c14 f14 r0 r1 r2 r3
  go_wp2_with (first
    | (refine wpList_load_row rfl 84 _ rfl w.heap.size rfl 84 _ (0, 0) _ BF.h Try.underlying84 rfl (by kernel_rfl) ?_)
    | (refine wpList_store_row rfl 84 _ _ rfl (w.heap.size + 2) _ rfl rfl 84 _ BR2.h (by kernel_rfl) (by rfl) (by kernel_rfl) ?_))
  refine bodyPost_ret (results_cell_row rfl _ _ (w.heap.size + 2) 84 (dcX M d ⟨hp, s, th, x, ver⟩ (⟨3, r.block.plan.steps, done, false, en⟩) (qr.plan.steps)) (0, 0) _ rfl (Blk.row BR2 (dcX M d ⟨hp, s, th, x, ver⟩ (⟨3, r.block.plan.steps, done, false, en⟩) (qr.plan.steps))).h Try.underlying84 rfl (by kernel_rfl)) rfl ⟨rfl, below_setRow hB2 (by omega) _⟩
end Go.Proofs.Ytpempcefgfmniaa.MemP

/-
  bowerref35: the document's carrying out: Tell of a plan without steps: contract.
-/
namespace Go.Proofs.Ytpempcefgfmniaa.MemP
open Go.RowKit RefP CellP Dp
set_option linter.unusedVariables false
set_option linter.unusedSimpArgs false
set_option maxRecDepth 100000 in
set_option maxHeartbeats 3200000 in
theorem dkTell_2nil (M : MemV) (d : DH) (hp s th x ver : Int) (steps : List StepV) (done : Int) (tu en : Bool) (q : Hd) (qr : BlockH) (r : ReplyV) (w : World) (hok : r.ok = true) (hk : r.block.kind = 2) (hl : r.block.plan.steps = []) : Calls Try.prog 41 #[.agg (dcX M d ⟨hp, s, th, x, ver⟩ ⟨2, steps, done, tu, en⟩ q), .agg (repA qr r)] w fun e w' => e = .returned (.agg (dcX M d ⟨hp, s, th, x, ver⟩ (⟨4, r.block.plan.steps, done, false, en⟩) (qr.plan.steps))) ∧ Below w.heap.size w w' := by
  have q1 : (r.block.kind == 2) = true := by simpa using hk
  have q2 : ((r.block.plan.steps.length : Int) == 0) = true := by simp [hl]
  clear hk hl
  have hB : Below w.heap.size w (((w.alloc (.cells (dcX M d ⟨hp, s, th, x, ver⟩ ⟨2, steps, done, tu, en⟩ q) 84)).alloc (.cells (repA qr r) 50)).alloc (.cells dcZ 84)) := by (repeat (first | exact Below.refl _ _ | assumption | refine below_alloc2 ?_ (by first | exact Nat.le_refl _ | omega) _ | refine Below.drew ?_ | refine below_drewN ?_ _ | refine below_push2 ?_ ‹_› (by first | exact Nat.le_refl _ | omega) | refine Below.setCell ?_ (by first | (simp; done) | (simp; omega) | omega) _))
  have BX := ((Blk.new w (dcX M d ⟨hp, s, th, x, ver⟩ ⟨2, steps, done, tu, en⟩ q) 84).alloc (.cells (repA qr r) 50)).alloc (.cells dcZ 84)
  have BQ : Blk (((w.alloc (.cells (dcX M d ⟨hp, s, th, x, ver⟩ ⟨2, steps, done, tu, en⟩ q) 84)).alloc (.cells (repA qr r) 50)).alloc (.cells dcZ 84)) (w.heap.size + 1) (repA qr r) 50 := by
    have := (Blk.new (w.alloc (.cells (dcX M d ⟨hp, s, th, x, ver⟩ ⟨2, steps, done, tu, en⟩ q) 84)) (repA qr r) 50).alloc (.cells dcZ 84)
    simpa using this
  have BR : Blk (((w.alloc (.cells (dcX M d ⟨hp, s, th, x, ver⟩ ⟨2, steps, done, tu, en⟩ q) 84)).alloc (.cells (repA qr r) 50)).alloc (.cells dcZ 84)) (w.heap.size + 2) dcZ 84 := by
    have := Blk.new ((w.alloc (.cells (dcX M d ⟨hp, s, th, x, ver⟩ ⟨2, steps, done, tu, en⟩ q) 84)).alloc (.cells (repA qr r) 50)) dcZ 84
    simpa using this
  go_enter Try.func41, Try.ntmps41
  go_upto_region 1 with (fail)
  generalize (((w.alloc (.cells (dcX M d ⟨hp, s, th, x, ver⟩ ⟨2, steps, done, tu, en⟩ q) 84)).alloc (.cells (repA qr r) 50)).alloc (.cells dcZ 84)) = w1 at hB BX BQ BR ⊢
  have hs1 : w.heap.size + 2 < w1.heap.size := BR.lt
  have c9 : w1.cell? ⟨w.heap.size, 9, none⟩ = some (.int .u64 ver) := BX.at 9 rfl
  have c10 : w1.cell? ⟨w.heap.size, 10, none⟩ = some (.int .i64 2) := BX.at 10 rfl
  have f10 := BX.free 10
  have c11 : w1.cell? ⟨w.heap.size, 11, none⟩ = some (.slice q.a steps.length q.c) := BX.at 11 rfl
  have f11 := BX.free 11
  have c12 : w1.cell? ⟨w.heap.size, 12, none⟩ = some (.int .u64 done) := BX.at 12 rfl
  have f12 := BX.free 12
  have c13 : w1.cell? ⟨w.heap.size, 13, none⟩ = some (.bool tu) := BX.at 13 rfl
  have f13 := BX.free 13
  have c14 : w1.cell? ⟨w.heap.size, 14, none⟩ = some (.bool en) := BX.at 14 rfl
  have f14 := BX.free 14
  have r0 := BQ.at 0 rfl
  have r1 := BQ.at 1 rfl
  have r2 := BQ.at 2 rfl
  have r3 := BQ.at 3 rfl
  have r17 := BQ.at 17 rfl
  have B4 := (((BX.set 13 (.bool false)).set 10 (.int .i64 8)).set 11 (.slice qr.plan.steps.a r.block.plan.steps.length qr.plan.steps.c)).set 10 (.int .i64 3)
  have e10 := B4.at 10 rfl
  have g10 := B4.free 10
  have BF := ((((BX.set 13 (.bool false)).set 10 (.int .i64 8)).set 11 (.slice qr.plan.steps.a r.block.plan.steps.length qr.plan.steps.c)).set 10 (.int .i64 3)).set 10 (.int .i64 4)
  simp only [List.setIfInBounds_toArray, List.set_cons_succ, List.set_cons_zero] at BF
  go_upto_region 35 with (fail)
  have F2 := (((((Fr.refl [w.heap.size] w1).setb 13 (.bool false)).setb 10 (.int .i64 8)).setb 11 (.slice qr.plan.steps.a r.block.plan.steps.length qr.plan.steps.c)).setb 10 (.int .i64 3)).setb 10 (.int .i64 4)
  have BR2 := F2.blk BR (by simp)
  have hB2 := F2.below hB (Nat.le_refl _) (by simp)
  clear F2 BX BQ BR hB c9 c10 f10 c11 f11 c12 f12 c13 f13 c14 f14 r0 r1 r2 r3 r17 e10 g10 B4
  go_wp2_with (first
    | (refine wpList_load_row rfl 84 _ rfl w.heap.size rfl 84 _ (0, 0) _ BF.h Try.underlying84 rfl (by kernel_rfl) ?_)
    | (refine wpList_store_row rfl 84 _ _ rfl (w.heap.size + 2) _ rfl rfl 84 _ BR2.h (by kernel_rfl) (by rfl) (by kernel_rfl) ?_))
  refine bodyPost_ret (results_cell_row rfl _ _ (w.heap.size + 2) 84 (dcX M d ⟨hp, s, th, x, ver⟩ ⟨4, r.block.plan.steps, done, false, en⟩ qr.plan.steps) (0, 0) _ rfl (Blk.row BR2 (dcX M d ⟨hp, s, th, x, ver⟩ ⟨4, r.block.plan.steps, done, false, en⟩ qr.plan.steps)).h Try.underlying84 rfl (by kernel_rfl)) rfl ⟨rfl, below_setRow hB2 (by omega) _⟩
end Go.Proofs.Ytpempcefgfmniaa.MemP

/-
  bowerref35: the document's carrying out: Tell of a step: contract.
-/
namespace Go.Proofs.Ytpempcefgfmniaa.MemP
open Go.RowKit RefP CellP Dp
set_option linter.unusedVariables false
set_option linter.unusedSimpArgs false
abbrev dcY (M : MemV) (d : DH) (p : KP) (at_ : Int) (st : Value) (done : Int) (tu en : Bool) : Array Value := #[.int .i64 M.A, .int .i64 M.T, .slice d.h1.a M.L.length d.h1.c, .slice d.h2.a M.B.length d.h2.c, .slice d.h3.a M.R.length d.h3.c, .int .i64 p.hp, .int .i64 p.s, .int .i64 p.th, .int .u64 p.x, .int .u64 p.ver, .int .i64 at_, st, .int .u64 done, .bool tu, .bool en]
set_option maxRecDepth 100000 in
set_option maxHeartbeats 3200000 in
theorem dkT3_11 (M : MemV) (d : DH) (hp s th x ver : Int) (done : Int) (tu en : Bool) (qr : BlockH) (r : ReplyV) (w : World) (b off : Nat) (sl : Bool) (hb : b < w.heap.size) (hl4 : w.cell? ⟨b, off + 4, none⟩ = some (.bool sl))  : Calls Try.prog 41 #[.agg (dcY M d ⟨hp, s, th, x, ver⟩ 3 (.slice (some ⟨b, off, none⟩) (1) (1)) done tu en), .agg (repA qr r)] w fun e w' => e = .returned (.agg (dcY M d ⟨hp, s, th, x, ver⟩ 4 (.slice (some ⟨b, off, none⟩) (0) (0)) done (sl && r.ok) en)) ∧ Below w.heap.size w w' := by
  cases sl
  · show Calls Try.prog 41 _ w fun e w' => e = .returned (.agg (dcY M d ⟨hp, s, th, x, ver⟩ 4 (.slice (some ⟨b, off, none⟩) (0) (0)) done false en)) ∧ Below w.heap.size w w'
    have hB : Below w.heap.size w (((w.alloc (.cells (dcY M d ⟨hp, s, th, x, ver⟩ 3 (.slice (some ⟨b, off, none⟩) (1) (1)) done tu en) 84)).alloc (.cells (repA qr r) 50)).alloc (.cells dcZ 84)) := by (repeat (first | exact Below.refl _ _ | assumption | refine below_alloc2 ?_ (by first | exact Nat.le_refl _ | omega) _ | refine Below.drew ?_ | refine below_drewN ?_ _ | refine below_push2 ?_ ‹_› (by first | exact Nat.le_refl _ | omega) | refine Below.setCell ?_ (by first | (simp; done) | (simp; omega) | omega) _))
    have BX := ((Blk.new w (dcY M d ⟨hp, s, th, x, ver⟩ 3 (.slice (some ⟨b, off, none⟩) (1) (1)) done tu en) 84).alloc (.cells (repA qr r) 50)).alloc (.cells dcZ 84)
    have BQ : Blk (((w.alloc (.cells (dcY M d ⟨hp, s, th, x, ver⟩ 3 (.slice (some ⟨b, off, none⟩) (1) (1)) done tu en) 84)).alloc (.cells (repA qr r) 50)).alloc (.cells dcZ 84)) (w.heap.size + 1) (repA qr r) 50 := by
      have := (Blk.new (w.alloc (.cells (dcY M d ⟨hp, s, th, x, ver⟩ 3 (.slice (some ⟨b, off, none⟩) (1) (1)) done tu en) 84)) (repA qr r) 50).alloc (.cells dcZ 84)
      simpa using this
    have BR : Blk (((w.alloc (.cells (dcY M d ⟨hp, s, th, x, ver⟩ 3 (.slice (some ⟨b, off, none⟩) (1) (1)) done tu en) 84)).alloc (.cells (repA qr r) 50)).alloc (.cells dcZ 84)) (w.heap.size + 2) dcZ 84 := by
      have := Blk.new ((w.alloc (.cells (dcY M d ⟨hp, s, th, x, ver⟩ 3 (.slice (some ⟨b, off, none⟩) (1) (1)) done tu en) 84)).alloc (.cells (repA qr r) 50)) dcZ 84
      simpa using this
    go_enter Try.func41, Try.ntmps41
    go_upto_region 1 with (fail)
    generalize (((w.alloc (.cells (dcY M d ⟨hp, s, th, x, ver⟩ 3 (.slice (some ⟨b, off, none⟩) (1) (1)) done tu en) 84)).alloc (.cells (repA qr r) 50)).alloc (.cells dcZ 84)) = w1 at hB BX BQ BR ⊢
    have hs1 : w.heap.size + 2 < w1.heap.size := BR.lt
    have c9 : w1.cell? ⟨w.heap.size, 9, none⟩ = some (.int .u64 ver) := BX.at 9 rfl
    have c10 : w1.cell? ⟨w.heap.size, 10, none⟩ = some (.int .i64 3) := BX.at 10 rfl
    have f10 := BX.free 10
    have c11 : w1.cell? ⟨w.heap.size, 11, none⟩ = some (.slice (some ⟨b, off, none⟩) (1) (1)) := BX.at 11 rfl
    have f11 := BX.free 11
    have c12 : w1.cell? ⟨w.heap.size, 12, none⟩ = some (.int .u64 done) := BX.at 12 rfl
    have f12 := BX.free 12
    have c13 : w1.cell? ⟨w.heap.size, 13, none⟩ = some (.bool tu) := BX.at 13 rfl
    have f13 := BX.free 13
    have c14 : w1.cell? ⟨w.heap.size, 14, none⟩ = some (.bool en) := BX.at 14 rfl
    have f14 := BX.free 14
    have r0 := BQ.at 0 rfl
    have r1 := BQ.at 1 rfl
    have r2 := BQ.at 2 rfl
    have r3 := BQ.at 3 rfl
    have c4l : w1.cell? ⟨b, off + 4, none⟩ = some (.bool false) := (hB.cell (p := ⟨b, off + 4, none⟩) hb).trans hl4
    have hbx : ¬ b = w.heap.size := by omega
    have hbx' : ¬ w.heap.size = b := by omega
    clear hl4
    have BF := ((((BX.set 13 (.bool false)).set 13 (.bool false)).set 11 (.slice (some ⟨b, off, none⟩) (0) (0))).set 10 (.int .i64 4))
    simp only [List.setIfInBounds_toArray, List.set_cons_succ, List.set_cons_zero] at BF
    go_upto_region 35 with (fail)
    have F2 := (((((Fr.refl [w.heap.size] w1).setb 13 (.bool false)).setb 13 (.bool false)).setb 11 (.slice (some ⟨b, off, none⟩) (0) (0))).setb 10 (.int .i64 4))
    have BR2 := F2.blk BR (by simp)
    have hB2 := F2.below hB (Nat.le_refl _) (by simp)
    clear F2 BX BQ BR hB c9 c10 f10 c11 f11 c12 f12 c13 f13 c14 f14 r0 r1 r2 r3 c4l
    go_wp2_with (first
      | (refine wpList_load_row rfl 84 _ rfl w.heap.size rfl 84 _ (0, 0) _ BF.h Try.underlying84 rfl (by kernel_rfl) ?_)
      | (refine wpList_store_row rfl 84 _ _ rfl (w.heap.size + 2) _ rfl rfl 84 _ BR2.h (by kernel_rfl) (by rfl) (by kernel_rfl) ?_))
    have BY := Blk.row BR2 (dcY M d ⟨hp, s, th, x, ver⟩ (4) (.slice (some ⟨b, off, none⟩) (0) (0)) done (false) en)
    refine bodyPost_ret (results_cell_row rfl _ _ (w.heap.size + 2) 84 (dcY M d ⟨hp, s, th, x, ver⟩ (4) (.slice (some ⟨b, off, none⟩) (0) (0)) done (false) en) (0, 0) _ rfl BY.h Try.underlying84 rfl (by kernel_rfl)) rfl ⟨rfl, below_setRow hB2 (by omega) _⟩
  · show Calls Try.prog 41 _ w fun e w' => e = .returned (.agg (dcY M d ⟨hp, s, th, x, ver⟩ 4 (.slice (some ⟨b, off, none⟩) (0) (0)) done r.ok en)) ∧ Below w.heap.size w w'
    have hB : Below w.heap.size w (((w.alloc (.cells (dcY M d ⟨hp, s, th, x, ver⟩ 3 (.slice (some ⟨b, off, none⟩) (1) (1)) done tu en) 84)).alloc (.cells (repA qr r) 50)).alloc (.cells dcZ 84)) := by (repeat (first | exact Below.refl _ _ | assumption | refine below_alloc2 ?_ (by first | exact Nat.le_refl _ | omega) _ | refine Below.drew ?_ | refine below_drewN ?_ _ | refine below_push2 ?_ ‹_› (by first | exact Nat.le_refl _ | omega) | refine Below.setCell ?_ (by first | (simp; done) | (simp; omega) | omega) _))
    have BX := ((Blk.new w (dcY M d ⟨hp, s, th, x, ver⟩ 3 (.slice (some ⟨b, off, none⟩) (1) (1)) done tu en) 84).alloc (.cells (repA qr r) 50)).alloc (.cells dcZ 84)
    have BQ : Blk (((w.alloc (.cells (dcY M d ⟨hp, s, th, x, ver⟩ 3 (.slice (some ⟨b, off, none⟩) (1) (1)) done tu en) 84)).alloc (.cells (repA qr r) 50)).alloc (.cells dcZ 84)) (w.heap.size + 1) (repA qr r) 50 := by
      have := (Blk.new (w.alloc (.cells (dcY M d ⟨hp, s, th, x, ver⟩ 3 (.slice (some ⟨b, off, none⟩) (1) (1)) done tu en) 84)) (repA qr r) 50).alloc (.cells dcZ 84)
      simpa using this
    have BR : Blk (((w.alloc (.cells (dcY M d ⟨hp, s, th, x, ver⟩ 3 (.slice (some ⟨b, off, none⟩) (1) (1)) done tu en) 84)).alloc (.cells (repA qr r) 50)).alloc (.cells dcZ 84)) (w.heap.size + 2) dcZ 84 := by
      have := Blk.new ((w.alloc (.cells (dcY M d ⟨hp, s, th, x, ver⟩ 3 (.slice (some ⟨b, off, none⟩) (1) (1)) done tu en) 84)).alloc (.cells (repA qr r) 50)) dcZ 84
      simpa using this
    go_enter Try.func41, Try.ntmps41
    go_upto_region 1 with (fail)
    generalize (((w.alloc (.cells (dcY M d ⟨hp, s, th, x, ver⟩ 3 (.slice (some ⟨b, off, none⟩) (1) (1)) done tu en) 84)).alloc (.cells (repA qr r) 50)).alloc (.cells dcZ 84)) = w1 at hB BX BQ BR ⊢
    have hs1 : w.heap.size + 2 < w1.heap.size := BR.lt
    have c9 : w1.cell? ⟨w.heap.size, 9, none⟩ = some (.int .u64 ver) := BX.at 9 rfl
    have c10 : w1.cell? ⟨w.heap.size, 10, none⟩ = some (.int .i64 3) := BX.at 10 rfl
    have f10 := BX.free 10
    have c11 : w1.cell? ⟨w.heap.size, 11, none⟩ = some (.slice (some ⟨b, off, none⟩) (1) (1)) := BX.at 11 rfl
    have f11 := BX.free 11
    have c12 : w1.cell? ⟨w.heap.size, 12, none⟩ = some (.int .u64 done) := BX.at 12 rfl
    have f12 := BX.free 12
    have c13 : w1.cell? ⟨w.heap.size, 13, none⟩ = some (.bool tu) := BX.at 13 rfl
    have f13 := BX.free 13
    have c14 : w1.cell? ⟨w.heap.size, 14, none⟩ = some (.bool en) := BX.at 14 rfl
    have f14 := BX.free 14
    have r0 := BQ.at 0 rfl
    have r1 := BQ.at 1 rfl
    have r2 := BQ.at 2 rfl
    have r3 := BQ.at 3 rfl
    have c4l : w1.cell? ⟨b, off + 4, none⟩ = some (.bool true) := (hB.cell (p := ⟨b, off + 4, none⟩) hb).trans hl4
    have hbx : ¬ b = w.heap.size := by omega
    have hbx' : ¬ w.heap.size = b := by omega
    clear hl4
    have BF := ((((BX.set 13 (.bool false)).set 13 (.bool r.ok)).set 11 (.slice (some ⟨b, off, none⟩) (0) (0))).set 10 (.int .i64 4))
    simp only [List.setIfInBounds_toArray, List.set_cons_succ, List.set_cons_zero] at BF
    go_upto_region 35 with (fail)
    have F2 := (((((Fr.refl [w.heap.size] w1).setb 13 (.bool false)).setb 13 (.bool r.ok)).setb 11 (.slice (some ⟨b, off, none⟩) (0) (0))).setb 10 (.int .i64 4))
    have BR2 := F2.blk BR (by simp)
    have hB2 := F2.below hB (Nat.le_refl _) (by simp)
    clear F2 BX BQ BR hB c9 c10 f10 c11 f11 c12 f12 c13 f13 c14 f14 r0 r1 r2 r3 c4l
    go_wp2_with (first
      | (refine wpList_load_row rfl 84 _ rfl w.heap.size rfl 84 _ (0, 0) _ BF.h Try.underlying84 rfl (by kernel_rfl) ?_)
      | (refine wpList_store_row rfl 84 _ _ rfl (w.heap.size + 2) _ rfl rfl 84 _ BR2.h (by kernel_rfl) (by rfl) (by kernel_rfl) ?_))
    have BY := Blk.row BR2 (dcY M d ⟨hp, s, th, x, ver⟩ (4) (.slice (some ⟨b, off, none⟩) (0) (0)) done (r.ok) en)
    refine bodyPost_ret (results_cell_row rfl _ _ (w.heap.size + 2) 84 (dcY M d ⟨hp, s, th, x, ver⟩ (4) (.slice (some ⟨b, off, none⟩) (0) (0)) done (r.ok) en) (0, 0) _ rfl BY.h Try.underlying84 rfl (by kernel_rfl)) rfl ⟨rfl, below_setRow hB2 (by omega) _⟩
set_option maxRecDepth 100000 in
set_option maxHeartbeats 3200000 in
theorem dkT3_1 (M : MemV) (d : DH) (hp s th x ver : Int) (done : Int) (tu en : Bool) (qr : BlockH) (r : ReplyV) (w : World) (b off : Nat) (sl : Bool) (hb : b < w.heap.size) (hl4 : w.cell? ⟨b, off + 4, none⟩ = some (.bool sl)) (c : Nat) (h1 : 1 < c) (hm : c ≤ 9223372036854775807) : Calls Try.prog 41 #[.agg (dcY M d ⟨hp, s, th, x, ver⟩ 3 (.slice (some ⟨b, off, none⟩) (1) (c)) done tu en), .agg (repA qr r)] w fun e w' => e = .returned (.agg (dcY M d ⟨hp, s, th, x, ver⟩ 4 (.slice (some ⟨b, off + 5, none⟩) (0) (c - 1)) done (sl && r.ok) en)) ∧ Below w.heap.size w w' := by
  cases sl
  · show Calls Try.prog 41 _ w fun e w' => e = .returned (.agg (dcY M d ⟨hp, s, th, x, ver⟩ 4 (.slice (some ⟨b, off + 5, none⟩) (0) (c - 1)) done false en)) ∧ Below w.heap.size w w'
    have hB : Below w.heap.size w (((w.alloc (.cells (dcY M d ⟨hp, s, th, x, ver⟩ 3 (.slice (some ⟨b, off, none⟩) (1) (c)) done tu en) 84)).alloc (.cells (repA qr r) 50)).alloc (.cells dcZ 84)) := by (repeat (first | exact Below.refl _ _ | assumption | refine below_alloc2 ?_ (by first | exact Nat.le_refl _ | omega) _ | refine Below.drew ?_ | refine below_drewN ?_ _ | refine below_push2 ?_ ‹_› (by first | exact Nat.le_refl _ | omega) | refine Below.setCell ?_ (by first | (simp; done) | (simp; omega) | omega) _))
    have BX := ((Blk.new w (dcY M d ⟨hp, s, th, x, ver⟩ 3 (.slice (some ⟨b, off, none⟩) (1) (c)) done tu en) 84).alloc (.cells (repA qr r) 50)).alloc (.cells dcZ 84)
    have BQ : Blk (((w.alloc (.cells (dcY M d ⟨hp, s, th, x, ver⟩ 3 (.slice (some ⟨b, off, none⟩) (1) (c)) done tu en) 84)).alloc (.cells (repA qr r) 50)).alloc (.cells dcZ 84)) (w.heap.size + 1) (repA qr r) 50 := by
      have := (Blk.new (w.alloc (.cells (dcY M d ⟨hp, s, th, x, ver⟩ 3 (.slice (some ⟨b, off, none⟩) (1) (c)) done tu en) 84)) (repA qr r) 50).alloc (.cells dcZ 84)
      simpa using this
    have BR : Blk (((w.alloc (.cells (dcY M d ⟨hp, s, th, x, ver⟩ 3 (.slice (some ⟨b, off, none⟩) (1) (c)) done tu en) 84)).alloc (.cells (repA qr r) 50)).alloc (.cells dcZ 84)) (w.heap.size + 2) dcZ 84 := by
      have := Blk.new ((w.alloc (.cells (dcY M d ⟨hp, s, th, x, ver⟩ 3 (.slice (some ⟨b, off, none⟩) (1) (c)) done tu en) 84)).alloc (.cells (repA qr r) 50)) dcZ 84
      simpa using this
    go_enter Try.func41, Try.ntmps41
    go_upto_region 1 with (fail)
    generalize (((w.alloc (.cells (dcY M d ⟨hp, s, th, x, ver⟩ 3 (.slice (some ⟨b, off, none⟩) (1) (c)) done tu en) 84)).alloc (.cells (repA qr r) 50)).alloc (.cells dcZ 84)) = w1 at hB BX BQ BR ⊢
    have hs1 : w.heap.size + 2 < w1.heap.size := BR.lt
    have c9 : w1.cell? ⟨w.heap.size, 9, none⟩ = some (.int .u64 ver) := BX.at 9 rfl
    have c10 : w1.cell? ⟨w.heap.size, 10, none⟩ = some (.int .i64 3) := BX.at 10 rfl
    have f10 := BX.free 10
    have c11 : w1.cell? ⟨w.heap.size, 11, none⟩ = some (.slice (some ⟨b, off, none⟩) (1) (c)) := BX.at 11 rfl
    have f11 := BX.free 11
    have c12 : w1.cell? ⟨w.heap.size, 12, none⟩ = some (.int .u64 done) := BX.at 12 rfl
    have f12 := BX.free 12
    have c13 : w1.cell? ⟨w.heap.size, 13, none⟩ = some (.bool tu) := BX.at 13 rfl
    have f13 := BX.free 13
    have c14 : w1.cell? ⟨w.heap.size, 14, none⟩ = some (.bool en) := BX.at 14 rfl
    have f14 := BX.free 14
    have r0 := BQ.at 0 rfl
    have r1 := BQ.at 1 rfl
    have r2 := BQ.at 2 rfl
    have r3 := BQ.at 3 rfl
    have c4l : w1.cell? ⟨b, off + 4, none⟩ = some (.bool false) := (hB.cell (p := ⟨b, off + 4, none⟩) hb).trans hl4
    have hbx : ¬ b = w.heap.size := by omega
    have hbx' : ¬ w.heap.size = b := by omega
    clear hl4
    have BF := ((((BX.set 13 (.bool false)).set 13 (.bool false)).set 11 (.slice (some ⟨b, off + 5, none⟩) (0) (c - 1))).set 10 (.int .i64 4))
    simp only [List.setIfInBounds_toArray, List.set_cons_succ, List.set_cons_zero] at BF
    go_upto_region 35 with (fail)
    have F2 := (((((Fr.refl [w.heap.size] w1).setb 13 (.bool false)).setb 13 (.bool false)).setb 11 (.slice (some ⟨b, off + 5, none⟩) (0) (c - 1))).setb 10 (.int .i64 4))
    have BR2 := F2.blk BR (by simp)
    have hB2 := F2.below hB (Nat.le_refl _) (by simp)
    clear F2 BX BQ BR hB c9 c10 f10 c11 f11 c12 f12 c13 f13 c14 f14 r0 r1 r2 r3 c4l
    go_wp2_with (first
      | (refine wpList_load_row rfl 84 _ rfl w.heap.size rfl 84 _ (0, 0) _ BF.h Try.underlying84 rfl (by kernel_rfl) ?_)
      | (refine wpList_store_row rfl 84 _ _ rfl (w.heap.size + 2) _ rfl rfl 84 _ BR2.h (by kernel_rfl) (by rfl) (by kernel_rfl) ?_))
    have BY := Blk.row BR2 (dcY M d ⟨hp, s, th, x, ver⟩ (4) (.slice (some ⟨b, off + 5, none⟩) (0) (c - 1)) done (false) en)
    refine bodyPost_ret (results_cell_row rfl _ _ (w.heap.size + 2) 84 (dcY M d ⟨hp, s, th, x, ver⟩ (4) (.slice (some ⟨b, off + 5, none⟩) (0) (c - 1)) done (false) en) (0, 0) _ rfl BY.h Try.underlying84 rfl (by kernel_rfl)) rfl ⟨rfl, below_setRow hB2 (by omega) _⟩
  · show Calls Try.prog 41 _ w fun e w' => e = .returned (.agg (dcY M d ⟨hp, s, th, x, ver⟩ 4 (.slice (some ⟨b, off + 5, none⟩) (0) (c - 1)) done r.ok en)) ∧ Below w.heap.size w w'
    have hB : Below w.heap.size w (((w.alloc (.cells (dcY M d ⟨hp, s, th, x, ver⟩ 3 (.slice (some ⟨b, off, none⟩) (1) (c)) done tu en) 84)).alloc (.cells (repA qr r) 50)).alloc (.cells dcZ 84)) := by (repeat (first | exact Below.refl _ _ | assumption | refine below_alloc2 ?_ (by first | exact Nat.le_refl _ | omega) _ | refine Below.drew ?_ | refine below_drewN ?_ _ | refine below_push2 ?_ ‹_› (by first | exact Nat.le_refl _ | omega) | refine Below.setCell ?_ (by first | (simp; done) | (simp; omega) | omega) _))
    have BX := ((Blk.new w (dcY M d ⟨hp, s, th, x, ver⟩ 3 (.slice (some ⟨b, off, none⟩) (1) (c)) done tu en) 84).alloc (.cells (repA qr r) 50)).alloc (.cells dcZ 84)
    have BQ : Blk (((w.alloc (.cells (dcY M d ⟨hp, s, th, x, ver⟩ 3 (.slice (some ⟨b, off, none⟩) (1) (c)) done tu en) 84)).alloc (.cells (repA qr r) 50)).alloc (.cells dcZ 84)) (w.heap.size + 1) (repA qr r) 50 := by
      have := (Blk.new (w.alloc (.cells (dcY M d ⟨hp, s, th, x, ver⟩ 3 (.slice (some ⟨b, off, none⟩) (1) (c)) done tu en) 84)) (repA qr r) 50).alloc (.cells dcZ 84)
      simpa using this
    have BR : Blk (((w.alloc (.cells (dcY M d ⟨hp, s, th, x, ver⟩ 3 (.slice (some ⟨b, off, none⟩) (1) (c)) done tu en) 84)).alloc (.cells (repA qr r) 50)).alloc (.cells dcZ 84)) (w.heap.size + 2) dcZ 84 := by
      have := Blk.new ((w.alloc (.cells (dcY M d ⟨hp, s, th, x, ver⟩ 3 (.slice (some ⟨b, off, none⟩) (1) (c)) done tu en) 84)).alloc (.cells (repA qr r) 50)) dcZ 84
      simpa using this
    go_enter Try.func41, Try.ntmps41
    go_upto_region 1 with (fail)
    generalize (((w.alloc (.cells (dcY M d ⟨hp, s, th, x, ver⟩ 3 (.slice (some ⟨b, off, none⟩) (1) (c)) done tu en) 84)).alloc (.cells (repA qr r) 50)).alloc (.cells dcZ 84)) = w1 at hB BX BQ BR ⊢
    have hs1 : w.heap.size + 2 < w1.heap.size := BR.lt
    have c9 : w1.cell? ⟨w.heap.size, 9, none⟩ = some (.int .u64 ver) := BX.at 9 rfl
    have c10 : w1.cell? ⟨w.heap.size, 10, none⟩ = some (.int .i64 3) := BX.at 10 rfl
    have f10 := BX.free 10
    have c11 : w1.cell? ⟨w.heap.size, 11, none⟩ = some (.slice (some ⟨b, off, none⟩) (1) (c)) := BX.at 11 rfl
    have f11 := BX.free 11
    have c12 : w1.cell? ⟨w.heap.size, 12, none⟩ = some (.int .u64 done) := BX.at 12 rfl
    have f12 := BX.free 12
    have c13 : w1.cell? ⟨w.heap.size, 13, none⟩ = some (.bool tu) := BX.at 13 rfl
    have f13 := BX.free 13
    have c14 : w1.cell? ⟨w.heap.size, 14, none⟩ = some (.bool en) := BX.at 14 rfl
    have f14 := BX.free 14
    have r0 := BQ.at 0 rfl
    have r1 := BQ.at 1 rfl
    have r2 := BQ.at 2 rfl
    have r3 := BQ.at 3 rfl
    have c4l : w1.cell? ⟨b, off + 4, none⟩ = some (.bool true) := (hB.cell (p := ⟨b, off + 4, none⟩) hb).trans hl4
    have hbx : ¬ b = w.heap.size := by omega
    have hbx' : ¬ w.heap.size = b := by omega
    clear hl4
    have BF := ((((BX.set 13 (.bool false)).set 13 (.bool r.ok)).set 11 (.slice (some ⟨b, off + 5, none⟩) (0) (c - 1))).set 10 (.int .i64 4))
    simp only [List.setIfInBounds_toArray, List.set_cons_succ, List.set_cons_zero] at BF
    go_upto_region 35 with (fail)
    have F2 := (((((Fr.refl [w.heap.size] w1).setb 13 (.bool false)).setb 13 (.bool r.ok)).setb 11 (.slice (some ⟨b, off + 5, none⟩) (0) (c - 1))).setb 10 (.int .i64 4))
    have BR2 := F2.blk BR (by simp)
    have hB2 := F2.below hB (Nat.le_refl _) (by simp)
    clear F2 BX BQ BR hB c9 c10 f10 c11 f11 c12 f12 c13 f13 c14 f14 r0 r1 r2 r3 c4l
    go_wp2_with (first
      | (refine wpList_load_row rfl 84 _ rfl w.heap.size rfl 84 _ (0, 0) _ BF.h Try.underlying84 rfl (by kernel_rfl) ?_)
      | (refine wpList_store_row rfl 84 _ _ rfl (w.heap.size + 2) _ rfl rfl 84 _ BR2.h (by kernel_rfl) (by rfl) (by kernel_rfl) ?_))
    have BY := Blk.row BR2 (dcY M d ⟨hp, s, th, x, ver⟩ (4) (.slice (some ⟨b, off + 5, none⟩) (0) (c - 1)) done (r.ok) en)
    refine bodyPost_ret (results_cell_row rfl _ _ (w.heap.size + 2) 84 (dcY M d ⟨hp, s, th, x, ver⟩ (4) (.slice (some ⟨b, off + 5, none⟩) (0) (c - 1)) done (r.ok) en) (0, 0) _ rfl BY.h Try.underlying84 rfl (by kernel_rfl)) rfl ⟨rfl, below_setRow hB2 (by omega) _⟩
set_option maxRecDepth 100000 in
set_option maxHeartbeats 3200000 in
theorem dkT3_n (M : MemV) (d : DH) (hp s th x ver : Int) (done : Int) (tu en : Bool) (qr : BlockH) (r : ReplyV) (w : World) (b off : Nat) (sl : Bool) (hb : b < w.heap.size) (hl4 : w.cell? ⟨b, off + 4, none⟩ = some (.bool sl)) (n c : Nat) (h1 : 1 < n) (h2 : n ≤ c) (hm : c ≤ 9223372036854775807) : Calls Try.prog 41 #[.agg (dcY M d ⟨hp, s, th, x, ver⟩ 3 (.slice (some ⟨b, off, none⟩) (n) (c)) done tu en), .agg (repA qr r)] w fun e w' => e = .returned (.agg (dcY M d ⟨hp, s, th, x, ver⟩ 3 (.slice (some ⟨b, off + 5, none⟩) (n - 1) (c - 1)) done (sl && r.ok) en)) ∧ Below w.heap.size w w' := by
  have hc2 : 1 < c := by omega
  have hn3 : (1 : Int) < (n : Int) := by omega
  have hn4 : ((n : Int) - 1 == 0) = false := by simp; omega
  cases sl
  · show Calls Try.prog 41 _ w fun e w' => e = .returned (.agg (dcY M d ⟨hp, s, th, x, ver⟩ 3 (.slice (some ⟨b, off + 5, none⟩) (n - 1) (c - 1)) done false en)) ∧ Below w.heap.size w w'
    have hB : Below w.heap.size w (((w.alloc (.cells (dcY M d ⟨hp, s, th, x, ver⟩ 3 (.slice (some ⟨b, off, none⟩) (n) (c)) done tu en) 84)).alloc (.cells (repA qr r) 50)).alloc (.cells dcZ 84)) := by (repeat (first | exact Below.refl _ _ | assumption | refine below_alloc2 ?_ (by first | exact Nat.le_refl _ | omega) _ | refine Below.drew ?_ | refine below_drewN ?_ _ | refine below_push2 ?_ ‹_› (by first | exact Nat.le_refl _ | omega) | refine Below.setCell ?_ (by first | (simp; done) | (simp; omega) | omega) _))
    have BX := ((Blk.new w (dcY M d ⟨hp, s, th, x, ver⟩ 3 (.slice (some ⟨b, off, none⟩) (n) (c)) done tu en) 84).alloc (.cells (repA qr r) 50)).alloc (.cells dcZ 84)
    have BQ : Blk (((w.alloc (.cells (dcY M d ⟨hp, s, th, x, ver⟩ 3 (.slice (some ⟨b, off, none⟩) (n) (c)) done tu en) 84)).alloc (.cells (repA qr r) 50)).alloc (.cells dcZ 84)) (w.heap.size + 1) (repA qr r) 50 := by
      have := (Blk.new (w.alloc (.cells (dcY M d ⟨hp, s, th, x, ver⟩ 3 (.slice (some ⟨b, off, none⟩) (n) (c)) done tu en) 84)) (repA qr r) 50).alloc (.cells dcZ 84)
      simpa using this
    have BR : Blk (((w.alloc (.cells (dcY M d ⟨hp, s, th, x, ver⟩ 3 (.slice (some ⟨b, off, none⟩) (n) (c)) done tu en) 84)).alloc (.cells (repA qr r) 50)).alloc (.cells dcZ 84)) (w.heap.size + 2) dcZ 84 := by
      have := Blk.new ((w.alloc (.cells (dcY M d ⟨hp, s, th, x, ver⟩ 3 (.slice (some ⟨b, off, none⟩) (n) (c)) done tu en) 84)).alloc (.cells (repA qr r) 50)) dcZ 84
      simpa using this
    go_enter Try.func41, Try.ntmps41
    go_upto_region 1 with (fail)
    generalize (((w.alloc (.cells (dcY M d ⟨hp, s, th, x, ver⟩ 3 (.slice (some ⟨b, off, none⟩) (n) (c)) done tu en) 84)).alloc (.cells (repA qr r) 50)).alloc (.cells dcZ 84)) = w1 at hB BX BQ BR ⊢
    have hs1 : w.heap.size + 2 < w1.heap.size := BR.lt
    have c9 : w1.cell? ⟨w.heap.size, 9, none⟩ = some (.int .u64 ver) := BX.at 9 rfl
    have c10 : w1.cell? ⟨w.heap.size, 10, none⟩ = some (.int .i64 3) := BX.at 10 rfl
    have f10 := BX.free 10
    have c11 : w1.cell? ⟨w.heap.size, 11, none⟩ = some (.slice (some ⟨b, off, none⟩) (n) (c)) := BX.at 11 rfl
    have f11 := BX.free 11
    have c12 : w1.cell? ⟨w.heap.size, 12, none⟩ = some (.int .u64 done) := BX.at 12 rfl
    have f12 := BX.free 12
    have c13 : w1.cell? ⟨w.heap.size, 13, none⟩ = some (.bool tu) := BX.at 13 rfl
    have f13 := BX.free 13
    have c14 : w1.cell? ⟨w.heap.size, 14, none⟩ = some (.bool en) := BX.at 14 rfl
    have f14 := BX.free 14
    have r0 := BQ.at 0 rfl
    have r1 := BQ.at 1 rfl
    have r2 := BQ.at 2 rfl
    have r3 := BQ.at 3 rfl
    have c4l : w1.cell? ⟨b, off + 4, none⟩ = some (.bool false) := (hB.cell (p := ⟨b, off + 4, none⟩) hb).trans hl4
    have hbx : ¬ b = w.heap.size := by omega
    have hbx' : ¬ w.heap.size = b := by omega
    clear hl4
    have BF := (((BX.set 13 (.bool false)).set 13 (.bool false)).set 11 (.slice (some ⟨b, off + 5, none⟩) (n - 1) (c - 1)))
    simp only [List.setIfInBounds_toArray, List.set_cons_succ, List.set_cons_zero] at BF
    go_upto_region 35 with (fail)
    have F2 := ((((Fr.refl [w.heap.size] w1).setb 13 (.bool false)).setb 13 (.bool false)).setb 11 (.slice (some ⟨b, off + 5, none⟩) (n - 1) (c - 1)))
    have BR2 := F2.blk BR (by simp)
    have hB2 := F2.below hB (Nat.le_refl _) (by simp)
    clear F2 BX BQ BR hB c9 c10 f10 c11 f11 c12 f12 c13 f13 c14 f14 r0 r1 r2 r3 c4l
    go_wp2_with (first
      | (refine wpList_load_row rfl 84 _ rfl w.heap.size rfl 84 _ (0, 0) _ BF.h Try.underlying84 rfl (by kernel_rfl) ?_)
      | (refine wpList_store_row rfl 84 _ _ rfl (w.heap.size + 2) _ rfl rfl 84 _ BR2.h (by kernel_rfl) (by rfl) (by kernel_rfl) ?_))
    have BY := Blk.row BR2 (dcY M d ⟨hp, s, th, x, ver⟩ (3) (.slice (some ⟨b, off + 5, none⟩) (n - 1) (c - 1)) done (false) en)
    refine bodyPost_ret (results_cell_row rfl _ _ (w.heap.size + 2) 84 (dcY M d ⟨hp, s, th, x, ver⟩ (3) (.slice (some ⟨b, off + 5, none⟩) (n - 1) (c - 1)) done (false) en) (0, 0) _ rfl BY.h Try.underlying84 rfl (by kernel_rfl)) rfl ⟨rfl, below_setRow hB2 (by omega) _⟩
  · show Calls Try.prog 41 _ w fun e w' => e = .returned (.agg (dcY M d ⟨hp, s, th, x, ver⟩ 3 (.slice (some ⟨b, off + 5, none⟩) (n - 1) (c - 1)) done r.ok en)) ∧ Below w.heap.size w w'
    have hB : Below w.heap.size w (((w.alloc (.cells (dcY M d ⟨hp, s, th, x, ver⟩ 3 (.slice (some ⟨b, off, none⟩) (n) (c)) done tu en) 84)).alloc (.cells (repA qr r) 50)).alloc (.cells dcZ 84)) := by (repeat (first | exact Below.refl _ _ | assumption | refine below_alloc2 ?_ (by first | exact Nat.le_refl _ | omega) _ | refine Below.drew ?_ | refine below_drewN ?_ _ | refine below_push2 ?_ ‹_› (by first | exact Nat.le_refl _ | omega) | refine Below.setCell ?_ (by first | (simp; done) | (simp; omega) | omega) _))
    have BX := ((Blk.new w (dcY M d ⟨hp, s, th, x, ver⟩ 3 (.slice (some ⟨b, off, none⟩) (n) (c)) done tu en) 84).alloc (.cells (repA qr r) 50)).alloc (.cells dcZ 84)
    have BQ : Blk (((w.alloc (.cells (dcY M d ⟨hp, s, th, x, ver⟩ 3 (.slice (some ⟨b, off, none⟩) (n) (c)) done tu en) 84)).alloc (.cells (repA qr r) 50)).alloc (.cells dcZ 84)) (w.heap.size + 1) (repA qr r) 50 := by
      have := (Blk.new (w.alloc (.cells (dcY M d ⟨hp, s, th, x, ver⟩ 3 (.slice (some ⟨b, off, none⟩) (n) (c)) done tu en) 84)) (repA qr r) 50).alloc (.cells dcZ 84)
      simpa using this
    have BR : Blk (((w.alloc (.cells (dcY M d ⟨hp, s, th, x, ver⟩ 3 (.slice (some ⟨b, off, none⟩) (n) (c)) done tu en) 84)).alloc (.cells (repA qr r) 50)).alloc (.cells dcZ 84)) (w.heap.size + 2) dcZ 84 := by
      have := Blk.new ((w.alloc (.cells (dcY M d ⟨hp, s, th, x, ver⟩ 3 (.slice (some ⟨b, off, none⟩) (n) (c)) done tu en) 84)).alloc (.cells (repA qr r) 50)) dcZ 84
      simpa using this
    go_enter Try.func41, Try.ntmps41
    go_upto_region 1 with (fail)
    generalize (((w.alloc (.cells (dcY M d ⟨hp, s, th, x, ver⟩ 3 (.slice (some ⟨b, off, none⟩) (n) (c)) done tu en) 84)).alloc (.cells (repA qr r) 50)).alloc (.cells dcZ 84)) = w1 at hB BX BQ BR ⊢
    have hs1 : w.heap.size + 2 < w1.heap.size := BR.lt
    have c9 : w1.cell? ⟨w.heap.size, 9, none⟩ = some (.int .u64 ver) := BX.at 9 rfl
    have c10 : w1.cell? ⟨w.heap.size, 10, none⟩ = some (.int .i64 3) := BX.at 10 rfl
    have f10 := BX.free 10
    have c11 : w1.cell? ⟨w.heap.size, 11, none⟩ = some (.slice (some ⟨b, off, none⟩) (n) (c)) := BX.at 11 rfl
    have f11 := BX.free 11
    have c12 : w1.cell? ⟨w.heap.size, 12, none⟩ = some (.int .u64 done) := BX.at 12 rfl
    have f12 := BX.free 12
    have c13 : w1.cell? ⟨w.heap.size, 13, none⟩ = some (.bool tu) := BX.at 13 rfl
    have f13 := BX.free 13
    have c14 : w1.cell? ⟨w.heap.size, 14, none⟩ = some (.bool en) := BX.at 14 rfl
    have f14 := BX.free 14
    have r0 := BQ.at 0 rfl
    have r1 := BQ.at 1 rfl
    have r2 := BQ.at 2 rfl
    have r3 := BQ.at 3 rfl
    have c4l : w1.cell? ⟨b, off + 4, none⟩ = some (.bool true) := (hB.cell (p := ⟨b, off + 4, none⟩) hb).trans hl4
    have hbx : ¬ b = w.heap.size := by omega
    have hbx' : ¬ w.heap.size = b := by omega
    clear hl4
    have BF := (((BX.set 13 (.bool false)).set 13 (.bool r.ok)).set 11 (.slice (some ⟨b, off + 5, none⟩) (n - 1) (c - 1)))
    simp only [List.setIfInBounds_toArray, List.set_cons_succ, List.set_cons_zero] at BF
    go_upto_region 35 with (fail)
    have F2 := ((((Fr.refl [w.heap.size] w1).setb 13 (.bool false)).setb 13 (.bool r.ok)).setb 11 (.slice (some ⟨b, off + 5, none⟩) (n - 1) (c - 1)))
    have BR2 := F2.blk BR (by simp)
    have hB2 := F2.below hB (Nat.le_refl _) (by simp)
    clear F2 BX BQ BR hB c9 c10 f10 c11 f11 c12 f12 c13 f13 c14 f14 r0 r1 r2 r3 c4l
    go_wp2_with (first
      | (refine wpList_load_row rfl 84 _ rfl w.heap.size rfl 84 _ (0, 0) _ BF.h Try.underlying84 rfl (by kernel_rfl) ?_)
      | (refine wpList_store_row rfl 84 _ _ rfl (w.heap.size + 2) _ rfl rfl 84 _ BR2.h (by kernel_rfl) (by rfl) (by kernel_rfl) ?_))
    have BY := Blk.row BR2 (dcY M d ⟨hp, s, th, x, ver⟩ (3) (.slice (some ⟨b, off + 5, none⟩) (n - 1) (c - 1)) done (r.ok) en)
    refine bodyPost_ret (results_cell_row rfl _ _ (w.heap.size + 2) 84 (dcY M d ⟨hp, s, th, x, ver⟩ (3) (.slice (some ⟨b, off + 5, none⟩) (n - 1) (c - 1)) done (r.ok) en) (0, 0) _ rfl BY.h Try.underlying84 rfl (by kernel_rfl)) rfl ⟨rfl, below_setRow hB2 (by omega) _⟩
/-- a step -/
def DT3 (M : MemV) (d : DH) (p : KP) (k : KS) (S : List Nat) (w : World) (e : Ending) (w' : World) : Prop := ∃ q : Hd, e = .returned (.agg (dcX M d p k q)) ∧ HRow Dp.stepT w S q k.steps ∧ Below w.heap.size w w'
set_option maxHeartbeats 1600000 in
theorem dkTell_3 {S : List Nat} (M : MemV) (d : DH) (hp s th x ver : Int) (steps : List StepV) (done : Int) (tu en : Bool) (q : Hd) (qr : BlockH) (r : ReplyV) (w : World) (H : HRow Dp.stepT w S q steps) (h0 : 0 < steps.length) : Calls Try.prog 41 #[.agg (dcX M d ⟨hp, s, th, x, ver⟩ ⟨3, steps, done, tu, en⟩ q), .agg (repA qr r)] w (DT3 M d ⟨hp, s, th, x, ver⟩ ⟨if steps.length ≤ 1 then 4 else 3, steps.tail, done, (steps.headD stepZ).lin && r.ok, en⟩ S w) := by
  obtain ⟨b, off, ha, hb, hn, hok, hr⟩ := step_cell H h0
  have hcap := H.le
  have hcm := H.cap
  have hmx : (maxLen : Nat) = 9223372036854775807 := by unfold maxLen; rfl
  obtain ⟨qa, qc⟩ := q
  simp only at ha hcap hcm
  subst ha
  have hl4 : w.cell? ⟨b, off + 4, none⟩ = some (.bool (steps.headD stepZ).lin) := hr 4 _ rfl
  have htl : steps.tail.length = steps.length - 1 := List.length_tail
  by_cases hn1 : steps.length ≤ 1
  · have hn : steps.length = 1 := by omega
    have htl0 : steps.tail.length = 0 := by omega
    rw [if_pos hn1]
    by_cases hc1 : qc ≤ 1
    · obtain rfl : qc = 1 := by omega
      have := dkT3_11 M d hp s th x ver done tu en qr r w b off _ hb hl4
      rw [show Value.slice (some ⟨b, off, none⟩) 1 1 = .slice (some ⟨b, off, none⟩) steps.length 1 by rw [hn]] at this
      refine (show Calls _ _ _ _ _ from this).mono ?_
      rintro e w' ⟨rfl, hb'⟩
      refine ⟨⟨some ⟨b, off, none⟩, 0⟩, ?_, step_one H (by show 1 ≤ 1; omega) _ _ (Nat.zero_le _), hb'⟩
      show _ = Ending.returned (.agg (dcY M d ⟨hp, s, th, x, ver⟩ 4 (.slice (some ⟨b, off, none⟩) steps.tail.length 0) done _ en))
      rw [htl0]
    · have := dkT3_1 M d hp s th x ver done tu en qr r w b off _ hb hl4 qc (by omega) (by omega)
      rw [show Value.slice (some ⟨b, off, none⟩) 1 qc = .slice (some ⟨b, off, none⟩) steps.length qc by rw [hn]] at this
      refine (show Calls _ _ _ _ _ from this).mono ?_
      rintro e w' ⟨rfl, hb'⟩
      refine ⟨⟨some ⟨b, off + 5, none⟩, qc - 1⟩, ?_, step_tail H h0 (by omega), hb'⟩
      show _ = Ending.returned (.agg (dcY M d ⟨hp, s, th, x, ver⟩ 4 (.slice (some ⟨b, off + 5, none⟩) steps.tail.length (qc - 1)) done _ en))
      rw [htl0]
  · rw [if_neg hn1]
    refine (show Calls _ _ _ _ _ from dkT3_n M d hp s th x ver done tu en qr r w b off _ hb hl4 steps.length qc (by omega) hcap (by omega)).mono ?_
    rintro e w' ⟨rfl, hb'⟩
    refine ⟨⟨some ⟨b, off + 5, none⟩, qc - 1⟩, ?_, step_tail H h0 (by omega), hb'⟩
    show _ = Ending.returned (.agg (dcY M d ⟨hp, s, th, x, ver⟩ 3 (.slice (some ⟨b, off + 5, none⟩) steps.tail.length (qc - 1)) done _ en))
    rw [htl]
end Go.Proofs.Ytpempcefgfmniaa.MemP

/-
  bowerref35: Next and Tell: contracts, in one; New.
-/
namespace Go.Proofs.Ytpempcefgfmniaa.MemP
open Go.RowKit RefP CellP Dp
set_option linter.unusedVariables false
set_option linter.unusedSimpArgs false
/-- a gate that may be carried out -/
structure KGate (p : KP) : Prop where
  g : gateB p.s p.th p.x = true
  s : 2 ≤ p.s
theorem max_of {p : KP} (h : KGate p) (hx : 0 ≤ p.x) : maxW p.x = if p.s = 3 then 1 else p.x := by
  obtain ⟨h1, h2, h3⟩ := gateB_yes h.g
  have h4 := h.s
  rcases h3 with ⟨h5, _⟩ | ⟨h5, h6⟩ | ⟨h5, h6⟩
  · omega
  · have : p.s = 3 := by omega
    rw [if_pos this, h6]; rfl
  · rw [if_neg (by omega)]
    unfold maxW
    rw [if_neg (fun hx1 => ?_)]
    have : p.x = 0 := by omega
    rw [this] at h6
    exact absurd h6 (by decide)
theorem dk_next {S : List Nat} (M : MemV) (d : DH) (p : KP) (k : KS) (q : Hd) (w : World) (hA : M.A ≤ 8192) (hT : M.T ≤ 16) (P : KPok p) (hG : KGate p) (H : HRow Dp.stepT w S q k.steps) (h0 : 0 ≤ k.at_) (h1 : k.at_ ≤ 7) (h3 : k.at_ = 3 → 0 < k.steps.length) :
    Calls Try.prog 37 #[.agg (dcX M d p k q)] w fun e w' => e = .returned (.tuple #[.agg (acc26 nilH (kAcc M.A M.T p k)).toArray, .bool true]) ∧ Below w.heap.size w w' := by
  have hmx := max_of hG P.x.1
  obtain ⟨hp, s, th, x, ver⟩ := p
  obtain ⟨at_, steps, done, tu, en⟩ := k
  have hc := k_cases h0 h1
  simp only at hc H h3 hmx
  clear h0 h1 P hG
  rcases hc with rfl | rfl | rfl | rfl | rfl | rfl | rfl | rfl
  · exact dkNext_0 M d hp s th x ver steps done tu en q w hA hT
  · exact dkNext_1 M d hp s th x ver steps done tu en q w hA hT
  · exact dkNext_2 M d hp s th x ver steps done tu en q w hA hT
  · exact dkNext_3 M d hp s th x ver steps done tu en q w hA hT H (h3 rfl)
  · exact dkNext_4 M d hp s th x ver steps done tu en q w hA hT
  · exact dkNext_5 M d hp s th x ver steps done tu en q w hA hT
  · have e : (acc26 nilH (kAcc M.A M.T ⟨hp, s, th, x, ver⟩ ⟨6, steps, done, tu, en⟩)).toArray = accY 3 (atI M.A M.T 3 th) done (maxW x) := rfl
    rw [e, hmx]
    by_cases h : s = 3
    · rw [if_pos h]
      exact dkNext_6s M d hp s th x ver steps done tu en q w hA hT h
    · rw [if_neg h]
      exact dkNext_6 M d hp s th x ver steps done tu en q w hA hT h
  · exact dkNext_7 M d hp s th x ver steps done tu en q w hA hT
theorem dk_over (M : MemV) (d : DH) (p : KP) (k : KS) (q : Hd) (w : World) (hA : M.A ≤ 8192) (hT : M.T ≤ 16) (h8 : k.at_ = 8) :
    Calls Try.prog 37 #[.agg (dcX M d p k q)] w fun e w' => e = .returned (.tuple #[.agg (accY 0 0 0 0), .bool false]) ∧ Below w.heap.size w w' := by
  obtain ⟨at_, steps, done, tu, en⟩ := k
  simp only at h8
  subst h8
  exact dkNext_8 M d p.hp p.s p.th p.x p.ver steps done tu en q w hA hT
theorem dk_tell {S : List Nat} (M : MemV) (d : DH) (p : KP) (k : KS) (q : Hd) (qr : BlockH) (r : ReplyV) (w : World) (H : HRow Dp.stepT w S q k.steps) (hr : RepOk w S qr r) (h0 : 0 ≤ k.at_) (h1 : k.at_ ≤ 7) (h3 : k.at_ = 3 → 0 < k.steps.length) :
    Calls Try.prog 41 #[.agg (dcX M d p k q), .agg (repA qr r)] w (DT3 M d p (dkTell p k r) S w) := by
  obtain ⟨hp, s, th, x, ver⟩ := p
  obtain ⟨at_, steps, done, tu, en⟩ := k
  have hc := k_cases h0 h1
  have hst := hr.block.plan.steps
  simp only at hc H h3
  clear h0 h1 hr
  rcases hc with rfl | rfl | rfl | rfl | rfl | rfl | rfl | rfl
  · refine (dkTell_0 M d hp s th x ver steps done tu en q qr r w).mono ?_
    rintro e w' ⟨rfl, hb⟩
    have e : dkTell ⟨hp, s, th, x, ver⟩ ⟨0, steps, done, tu, en⟩ r = ⟨1, steps, done, false, en⟩ := by simp [dkTell, kTell]
    rw [e]; exact ⟨q, rfl, H, hb⟩
  · by_cases hv : r.ver = ver
    · refine (dkTell_1 M d hp s th x ver steps done tu en q qr r w hv).mono ?_
      rintro e w' ⟨rfl, hb⟩
      have e : dkTell ⟨hp, s, th, x, ver⟩ ⟨1, steps, done, tu, en⟩ r = ⟨2, steps, done, false, en⟩ := by simp [dkTell, kTell, hv]
      rw [e]; exact ⟨q, rfl, H, hb⟩
    · refine (dkTell_1no M d hp s th x ver steps done tu en q qr r w hv).mono ?_
      rintro e w' ⟨rfl, hb⟩
      have e : dkTell ⟨hp, s, th, x, ver⟩ ⟨1, steps, done, tu, en⟩ r = ⟨8, steps, done, false, en⟩ := by simp [dkTell, kTell, hv]
      rw [e]; exact ⟨q, rfl, H, hb⟩
  · by_cases hok : r.ok = true ∧ r.block.kind = 2
    · by_cases hl : r.block.plan.steps = []
      · refine (dkTell_2nil M d hp s th x ver steps done tu en q qr r w hok.1 hok.2 hl).mono ?_
        rintro e w' ⟨rfl, hb⟩
        have e : dkTell ⟨hp, s, th, x, ver⟩ ⟨2, steps, done, tu, en⟩ r = ⟨4, r.block.plan.steps, done, false, en⟩ := by simp [dkTell, kTell, hok, hl]
        rw [e]; exact ⟨qr.plan.steps, rfl, hst, hb⟩
      · refine (dkTell_2 M d hp s th x ver steps done tu en q qr r w hok.1 hok.2 (List.length_pos_iff.2 hl)).mono ?_
        rintro e w' ⟨rfl, hb⟩
        have e : dkTell ⟨hp, s, th, x, ver⟩ ⟨2, steps, done, tu, en⟩ r = ⟨3, r.block.plan.steps, done, false, en⟩ := by simp [dkTell, kTell, hok, hl]
        rw [e]; exact ⟨qr.plan.steps, rfl, hst, hb⟩
    · refine (dkTell_2no M d hp s th x ver steps done tu en q qr r w hok).mono ?_
      rintro e w' ⟨rfl, hb⟩
      have e : dkTell ⟨hp, s, th, x, ver⟩ ⟨2, steps, done, tu, en⟩ r = ⟨8, steps, done, false, en⟩ := by simp [dkTell, kTell, hok]
      rw [e]; exact ⟨q, rfl, H, hb⟩
  · exact dkTell_3 M d hp s th x ver steps done tu en q qr r w H (h3 rfl)
  · by_cases hv : r.word = 0
    · refine (dkTell_4 M d hp s th x ver steps done tu en q qr r w hv).mono ?_
      rintro e w' ⟨rfl, hb⟩
      have e : dkTell ⟨hp, s, th, x, ver⟩ ⟨4, steps, done, tu, en⟩ r = ⟨5, steps, r.ver, false, en⟩ := by simp [dkTell, kTell, hv]
      rw [e]; exact ⟨q, rfl, H, hb⟩
    · refine (dkTell_4no M d hp s th x ver steps done tu en q qr r w hv).mono ?_
      rintro e w' ⟨rfl, hb⟩
      have e : dkTell ⟨hp, s, th, x, ver⟩ ⟨4, steps, done, tu, en⟩ r = ⟨7, steps, r.ver, false, en⟩ := by simp [dkTell, kTell, hv]
      rw [e]; exact ⟨q, rfl, H, hb⟩
  · by_cases hv : r.ver = ver
    · refine (dkTell_5 M d hp s th x ver steps done tu en q qr r w hv).mono ?_
      rintro e w' ⟨rfl, hb⟩
      have e : dkTell ⟨hp, s, th, x, ver⟩ ⟨5, steps, done, tu, en⟩ r = ⟨6, steps, done, false, en⟩ := by simp [dkTell, kTell, hv]
      rw [e]; exact ⟨q, rfl, H, hb⟩
    · refine (dkTell_5no M d hp s th x ver steps done tu en q qr r w hv).mono ?_
      rintro e w' ⟨rfl, hb⟩
      have e : dkTell ⟨hp, s, th, x, ver⟩ ⟨5, steps, done, tu, en⟩ r = ⟨8, steps, done, false, en⟩ := by simp [dkTell, kTell, hv]
      rw [e]; exact ⟨q, rfl, H, hb⟩
  · refine (dkTell_6 M d hp s th x ver steps done tu en q qr r w).mono ?_
    rintro e w' ⟨rfl, hb⟩
    have e : dkTell ⟨hp, s, th, x, ver⟩ ⟨6, steps, done, tu, en⟩ r = ⟨7, steps, done, false, en⟩ := by simp [dkTell, kTell]
    rw [e]; exact ⟨q, rfl, H, hb⟩
  · refine (dkTell_7 M d hp s th x ver steps done tu en q qr r w).mono ?_
    rintro e w' ⟨rfl, hb⟩
    have e : dkTell ⟨hp, s, th, x, ver⟩ ⟨7, steps, done, tu, en⟩ r = ⟨8, steps, done, false, r.ok⟩ := by simp [dkTell, kTell]
    rw [e]; exact ⟨q, rfl, H, hb⟩
end Go.Proofs.Ytpempcefgfmniaa.MemP
