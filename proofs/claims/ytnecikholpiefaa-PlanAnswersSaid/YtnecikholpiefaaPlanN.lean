/-
  The chapter's example of plans: contract.
-/
import Derived.Test.YtnecikholpiefaaPlanM
namespace Go.Proofs.Ytnecikholpiefaa.Dp
open Go.RowKit RefP FoP Go.Sort
set_option linter.unusedVariables false
set_option linter.unusedSimpArgs false
theorem changeT_mk {w : World} {S : List Nat} {q : NodeH} {x : ChangeV} (h : ChangeOk w S q x) : changeT.rep w S (changeL q x) x :=
  ⟨[_], _, rfl, ⟨rfl, wf_i64 h.cell⟩, [_], _, rfl, ⟨rfl, wf_i64 h.from_⟩, [_], _, rfl, ⟨rfl, wf_u64 h.word⟩, [_], _, rfl, ⟨rfl, wf_u64 h.ver⟩, [_], _, rfl, rfl, [_], _, rfl, rfl, _, [], by simp, nodeT_mk h.node, rfl⟩
def chE : ChangeV := ⟨0, -1, 16385, 0, false, true, fNodeZ⟩
def askE : AskV := ⟨⟨1, ⟨#[]⟩, 0, []⟩, [chE], [16386, 16387], 3, 4⟩
theorem askE_may : mayK askE = true := by decide
def planE : PlanV := ⟨3, ⟨1, ⟨#[]⟩, 0, []⟩, [⟨0, 0, 16385, 16386, true⟩], []⟩
theorem askE_fill : askE.words.zip (fillV askE) = [(16386, nodeB fNodeZ), (16387, ⟨2, fNodeZ, planE, []⟩)] := by rfl
theorem askE_ok {w : World} {b b2 : Nat} {T T2 : TypeId} (B : Blk w b (changeA ⟨Hd.nil, Hd.nil, Hd.nil⟩ chE) T) (B2 : Blk w b2 #[.int .u64 16386, .int .u64 16387] T2) : AskOk w [] ⟨Hd.nil, ⟨some ⟨b, 0, none⟩, 1⟩, ⟨some ⟨b2, 0, none⟩, 2⟩⟩ askE := by
  refine ⟨⟨show I64 1 from ⟨by decide, by decide⟩, Nat.zero_le _, show U64 0 from ⟨by decide, by decide⟩, HRow.nil _ _ _⟩, ⟨Nat.le_refl _, by show 1 ≤ maxLen; unfold maxLen; omega, fun _ => ⟨b, 0, rfl, B.lt, by simp, fun i x hx => ?_⟩⟩, ⟨Nat.le_refl _, by show 2 ≤ maxLen; unfold maxLen; omega, fun _ => ⟨b2, 0, rfl, B2.lt, by simp, fun i x hx => ?_⟩⟩, show I64 3 from ⟨by decide, by decide⟩, show I64 4 from ⟨by decide, by decide⟩⟩
  · match i, hx with
    | 0, hx =>
      simp [askE] at hx
      subst hx
      refine ⟨changeL ⟨Hd.nil, Hd.nil, Hd.nil⟩ chE, changeT_mk ⟨show I64 0 from ⟨by decide, by decide⟩, show I64 (-1) from ⟨by decide, by decide⟩, show U64 16385 from ⟨by decide, by decide⟩, show U64 0 from ⟨by decide, by decide⟩, node0_ok _ _⟩, fun j v hj => ?_⟩
      have := B.at j (v := v) (by rw [← Array.getElem?_toList]; exact hj)
      simpa using this
    | i + 1, hx => simp [askE] at hx
  · match i, hx with
    | 0, hx =>
      simp [askE] at hx
      subst hx
      refine ⟨[.int .u64 16386], ⟨rfl, by decide⟩, fun j v hj => ?_⟩
      have hj0 : j = 0 := by have := (List.getElem?_eq_some_iff.1 hj).1; simp at this; omega
      subst hj0
      simp at hj
      subst hj
      exact B2.at 0 rfl
    | 1, hx =>
      simp [askE] at hx
      subst hx
      refine ⟨[.int .u64 16387], ⟨rfl, by decide⟩, fun j v hj => ?_⟩
      have hj0 : j = 0 := by have := (List.getElem?_eq_some_iff.1 hj).1; simp at this; omega
      subst hj0
      simp at hj
      subst hj
      exact B2.at 1 rfl
    | i + 2, hx => simp [askE] at hx
set_option maxRecDepth 100000 in
set_option maxHeartbeats 3200000 in
theorem plives_any (w : World) : Calls Try.prog 6 #[] w fun e w' => e = .returned (.bool true) ∧ Below w.heap.size w w' := by
  go_enter Try.func6, Try.ntmps6
  go_upto_region 2 with (fail)
  have hb1 : Below w.heap.size w ((w.alloc (.cells #[.int .i64 0, .int .i64 (-1), .int .u64 16385, .int .u64 0, .bool false, .bool true, .int .i64 0, .string ⟨#[]⟩, .string ⟨#[]⟩, .bool false, .int .i64 0, .slice none 0 0, .slice none 0 0, .slice none 0 0] 60)).alloc (.cells #[.int .i64 1, .string ⟨#[]⟩, .int .u64 0, .slice none 0 0, .slice (some ⟨w.heap.size, 0, none⟩) 1 1] 36)) := by (repeat (first | exact Below.refl _ _ | assumption | refine below_alloc2 ?_ (by first | exact Nat.le_refl _ | omega) _ | refine Below.drew ?_ | refine below_drewN ?_ _ | refine below_push2 ?_ ‹_› (by first | exact Nat.le_refl _ | omega) | refine Below.setCell ?_ (by first | (simp; done) | (simp; omega) | omega) _))
  have BC := (Blk.new w #[.int .i64 0, .int .i64 (-1), .int .u64 16385, .int .u64 0, .bool false, .bool true, .int .i64 0, .string ⟨#[]⟩, .string ⟨#[]⟩, .bool false, .int .i64 0, .slice none 0 0, .slice none 0 0, .slice none 0 0] 60).alloc (.cells #[.int .i64 1, .string ⟨#[]⟩, .int .u64 0, .slice none 0 0, .slice (some ⟨w.heap.size, 0, none⟩) 1 1] 36)
  have BD := Blk.new (w.alloc (.cells #[.int .i64 0, .int .i64 (-1), .int .u64 16385, .int .u64 0, .bool false, .bool true, .int .i64 0, .string ⟨#[]⟩, .string ⟨#[]⟩, .bool false, .int .i64 0, .slice none 0 0, .slice none 0 0, .slice none 0 0] 60)) #[.int .i64 1, .string ⟨#[]⟩, .int .u64 0, .slice none 0 0, .slice (some ⟨w.heap.size, 0, none⟩) 1 1] 36
  rw [World.size_alloc] at BD
  generalize (w.alloc (.cells #[.int .i64 0, .int .i64 (-1), .int .u64 16385, .int .u64 0, .bool false, .bool true, .int .i64 0, .string ⟨#[]⟩, .string ⟨#[]⟩, .bool false, .int .i64 0, .slice none 0 0, .slice none 0 0, .slice none 0 0] 60)).alloc (.cells #[.int .i64 1, .string ⟨#[]⟩, .int .u64 0, .slice none 0 0, .slice (some ⟨w.heap.size, 0, none⟩) 1 1] 36) = w1 at hb1 BC BD ⊢
  refine wp_region_held_drew (S := fun w' => w'.cell? ⟨w.heap.size + 1, 0, none⟩ = some (.int .i64 1) ∧ w'.cell? ⟨w.heap.size + 1, 1, none⟩ = some (.string ⟨#[]⟩) ∧ w'.cell? ⟨w.heap.size + 1, 2, none⟩ = some (.int .u64 0) ∧ w'.cell? ⟨w.heap.size + 1, 3, none⟩ = some (.slice none 0 0) ∧ w'.cell? ⟨w.heap.size + 1, 4, none⟩ = some (.slice (some ⟨w.heap.size, 0, none⟩) 1 1)) (by kernel_rfl) ⟨BD.at 0 rfl, BD.at 1 rfl, BD.at 2 rfl, BD.at 3 rfl, BD.at 4 rfl⟩ (fun hHeld => ?_)
  have hb2 := hb1.drew
  have BC2 := BC.drew
  have BD2 := BD.drew
  clear hb1 BC BD
  generalize w1.drew = w2 at hb2 BC2 BD2 hHeld ⊢
  have hS2 : w2.cell? ⟨w.heap.size + 1, 0, none⟩ = some (.int .i64 1) ∧ w2.cell? ⟨w.heap.size + 1, 1, none⟩ = some (.string ⟨#[]⟩) ∧ w2.cell? ⟨w.heap.size + 1, 2, none⟩ = some (.int .u64 0) ∧ w2.cell? ⟨w.heap.size + 1, 3, none⟩ = some (.slice none 0 0) ∧ w2.cell? ⟨w.heap.size + 1, 4, none⟩ = some (.slice (some ⟨w.heap.size, 0, none⟩) 1 1) := ⟨BD2.at 0 rfl, BD2.at 1 rfl, BD2.at 2 rfl, BD2.at 3 rfl, BD2.at 4 rfl⟩
  have e1 : packI 1 1 = 16386 := by decide
  have e2 : packI 2 1 = 16387 := by decide
  refine wpAnyH_take (i := 0) (oi := ⟨_, _, _, _, _, _⟩) (v := ?_) rfl (by kernel_rfl) (by kernel_rfl) (by kernel_rfl) (fun _ _ _ h => h) (Or.inl ⟨by rfl, ?_⟩) (by assumption) ?_
  rotate_left
  · intro wS hSw
    try dsimp only at hSw
    go_simp
    try with_reducible rfl
  try simp only [Act.put, List.setIfInBounds_toArray, List.set_cons_zero, List.set_cons_succ]
  refine wpAnyH_ready (rs := [1]) (by kernel_rfl) (by simp) ?_
  refine AllReadyH.cons rfl (fun K hK => ?_) AllReadyH.nil
  go_simp
  have k1 := dpack_any 1 1 w2 (by omega) (by omega) (by omega) (by omega)
  rw [e1] at k1
  refine k1.mono ?_
  rintro e w3 ⟨rfl, rfl⟩
  refine hK.out _ _ hS2 (fun hHeld => ?_)
  clear hK K k1
  refine wpAnyH_ready (rs := [2]) (by kernel_rfl) (by simp) ?_
  refine AllReadyH.cons rfl (fun K hK => ?_) AllReadyH.nil
  go_simp
  have k2 := dpack_any 2 1 w2 (by omega) (by omega) (by omega) (by omega)
  rw [e2] at k2
  refine k2.mono ?_
  rintro e w3 ⟨rfl, rfl⟩
  refine hK.out _ _ hS2 (fun hHeld => ?_)
  clear hK K k2 e1 e2
  refine wpAnyH_ready (rs := [3]) (by kernel_rfl) (by simp) ?_
  refine AllReadyH.cons rfl (fun K hK => ?_) AllReadyH.nil
  go_simp
  have hbW : Below w2.heap.size w2 (w2.alloc (.cells #[.int .u64 16386, .int .u64 16387] 22)) := (Below.refl _ _).alloc (Nat.le_refl _) _
  have BW := Blk.new w2 #[.int .u64 16386, .int .u64 16387] 22
  have BC3 := BC2.below hbW
  have BD3 := BD2.below hbW
  have hb3 := below_push2 hb2 hbW (Nat.le_refl _)
  have hS3 : (w2.alloc (.cells #[.int .u64 16386, .int .u64 16387] 22)).cell? ⟨w.heap.size + 1, 0, none⟩ = some (.int .i64 1) ∧ (w2.alloc (.cells #[.int .u64 16386, .int .u64 16387] 22)).cell? ⟨w.heap.size + 1, 1, none⟩ = some (.string ⟨#[]⟩) ∧ (w2.alloc (.cells #[.int .u64 16386, .int .u64 16387] 22)).cell? ⟨w.heap.size + 1, 2, none⟩ = some (.int .u64 0) ∧ (w2.alloc (.cells #[.int .u64 16386, .int .u64 16387] 22)).cell? ⟨w.heap.size + 1, 3, none⟩ = some (.slice none 0 0) ∧ (w2.alloc (.cells #[.int .u64 16386, .int .u64 16387] 22)).cell? ⟨w.heap.size + 1, 4, none⟩ = some (.slice (some ⟨w.heap.size, 0, none⟩) 1 1) := ⟨BD3.at 0 rfl, BD3.at 1 rfl, BD3.at 2 rfl, BD3.at 3 rfl, BD3.at 4 rfl⟩
  refine hK.out _ _ hS3 (fun hHeld => ?_)
  clear hK K
  have HE := askE_ok BC3 BW
  have k3 := pfill_yes [] _ askE _ HE (by decide) (by decide) (by decide) askE_may
  refine wpAnyH_ready (rs := [4]) (by kernel_rfl) (by simp) ?_
  refine AllReadyH.cons rfl (fun K hK => ?_) AllReadyH.nil
  go_simp
  refine (show Calls _ _ _ _ _ from k3).mono ?_
  rintro e w4 ⟨a, c, rfl, HR, hb4⟩
  rw [askE_fill] at HR
  rw [askE_fill]
  have BD4 := BD3.below hb4
  have hbF := below_push2 hb3 hb4 (Nat.le_refl _)
  have hS4 : w4.cell? ⟨w.heap.size + 1, 0, none⟩ = some (.int .i64 1) ∧ w4.cell? ⟨w.heap.size + 1, 1, none⟩ = some (.string ⟨#[]⟩) ∧ w4.cell? ⟨w.heap.size + 1, 2, none⟩ = some (.int .u64 0) ∧ w4.cell? ⟨w.heap.size + 1, 3, none⟩ = some (.slice none 0 0) ∧ w4.cell? ⟨w.heap.size + 1, 4, none⟩ = some (.slice (some ⟨w.heap.size, 0, none⟩) 1 1) := ⟨BD4.at 0 rfl, BD4.at 1 rfl, BD4.at 2 rfl, BD4.at 3 rfl, BD4.at 4 rfl⟩
  refine hK.out _ _ hS4 (fun hHeld => ?_)
  clear hK K k3 HE
  refine wpAnyH_take (i := 5) (oi := ⟨_, _, _, _, _, _⟩) (v := ?_) rfl (by kernel_rfl) (by kernel_rfl) (by kernel_rfl) (fun _ _ _ h => h) (Or.inl ⟨by rfl, ?_⟩) (by assumption) ?_
  rotate_left
  · intro wS hSw
    try dsimp only at hSw
    go_simp
    try with_reducible rfl
  try simp only [Act.put, List.setIfInBounds_toArray, List.set_cons_zero, List.set_cons_succ]
  refine wpAnyH_take (i := 6) (oi := ⟨_, _, _, _, _, _⟩) (v := ?_) rfl (by kernel_rfl) (by kernel_rfl) (by kernel_rfl) (fun _ _ _ h => h) (Or.inl ⟨by rfl, ?_⟩) (by assumption) ?_
  rotate_left
  · intro wS hSw
    try dsimp only at hSw
    go_simp
    try with_reducible rfl
  try simp only [Act.put, List.setIfInBounds_toArray, List.set_cons_zero, List.set_cons_succ]
  refine wpAnyH_take (i := 7) (oi := ⟨_, _, _, _, _, _⟩) (v := ?_) rfl (by kernel_rfl) (by kernel_rfl) (by kernel_rfl) (fun _ _ _ h => h) (Or.inl ⟨by rfl, ?_⟩) (by assumption) ?_
  rotate_left
  · intro wS hSw
    try dsimp only at hSw
    go_simp
    try with_reducible rfl
  try simp only [Act.put, List.setIfInBounds_toArray, List.set_cons_zero, List.set_cons_succ]
  refine wpAnyH_take (i := 8) (oi := ⟨_, _, _, _, _, _⟩) (v := ?_) rfl (by kernel_rfl) (by kernel_rfl) (by kernel_rfl) (fun _ _ _ h => h) (Or.inl ⟨by rfl, ?_⟩) (by assumption) ?_
  rotate_left
  · intro wS hSw
    try dsimp only at hSw
    go_simp
    try with_reducible rfl
  try simp only [Act.put, List.setIfInBounds_toArray, List.set_cons_zero, List.set_cons_succ]
  refine wpAnyH_take (i := 9) (oi := ⟨_, _, _, _, _, _⟩) (v := ?_) rfl (by kernel_rfl) (by kernel_rfl) (by kernel_rfl) (fun _ _ _ h => h) (Or.inl ⟨by rfl, ?_⟩) (by assumption) ?_
  rotate_left
  · intro wS hSw
    try dsimp only at hSw
    go_simp
    try with_reducible rfl
  try simp only [Act.put, List.setIfInBounds_toArray, List.set_cons_zero, List.set_cons_succ]
  refine wpAnyH_done (by kernel_rfl) ?_ _
  clear hHeld hS4 hS3 hS2 BD4 BD3 BD2 BC3 BC2 BW hbW hb2 hb3 hb4
  obtain ⟨b, off, ha, hbl, _, hc⟩ := HR.row (by simp)
  simp only at ha
  subst ha
  obtain ⟨cs0, r0, v0⟩ := hc 0 _ rfl
  obtain ⟨q0, rfl, _, _⟩ := filledT_of r0
  obtain ⟨cs1, r1, v1⟩ := hc 1 _ rfl
  obtain ⟨q1, rfl, _, h1⟩ := filledT_of r1
  have p0 : w4.cell? ⟨b, off + 28, none⟩ = some (.int .i64 3) := v1 10 _ rfl
  obtain ⟨bs, os, has, hbs, hcs, _⟩ := step_at h1.plan.steps 0 (by decide)
  have p5 : w4.cell? ⟨b, off + 18 + 1 + 9 + 5, none⟩ = some (.slice (some ⟨bs, os, none⟩) 1 q1.plan.steps.c) := by rw [← has]; exact v1 15 _ rfl
  have p6 : w4.cell? ⟨bs, os + 3, none⟩ = some (.int .u64 16386) := hcs 3 _ rfl
  have p7 : w4.cell? ⟨b, off, none⟩ = some (.int .u64 16386) := v0 0 _ rfl
  have r4 : w4.rangeAt b (off + 18 + 1 + 9) (planA q1.plan planE).toList := fun j v hj => by
    have hj7 : j < 7 := (List.getElem?_eq_some_iff.1 hj).1
    have h7 : j = 0 ∨ j = 1 ∨ j = 2 ∨ j = 3 ∨ j = 4 ∨ j = 5 ∨ j = 6 := by omega
    have := v1 (10 + j) v (by rcases h7 with e | e | e | e | e | e | e <;> subst e <;> exact hj)
    rw [show off + 18 + 1 + 9 + j = off + 1 * filledT.k + (10 + j) by rw [filledT_k]; omega]
    exact this
  have rP := QuietRow.range_regrown r4
  have hq1 := h1.plan.steps
  have kL := fun d os => Calls.regrown_of (plin_any [] q1.plan planE (grow (redrawn w4 d) os) (hq1.keep (Keeps.of_below (below_regrown w4 d os))) (by decide))
  rw [show linV planE.steps = true from rfl] at kL
  have P0 := cell_regrown p0
  have P5 := cell_regrown p5
  have P6 := cell_regrown p6
  have P7 := cell_regrown p7
  clear hc HR r0 r1 v0 v1 h1 hcs has r4 hq1 p0 p5 p6 p7
  go_upto_region 3 with (fail)
  refine wp_region_quiet_below (by kernel_rfl) (by kernel_rfl) ?_
  iterate 50 (first
    | go_big_quiet_skip
    | (go_big_quiet_want; first
      | ((refine QuietRow.quiet_load_arr 46 _ rfl b (off + 18 + 1 + 9) rfl (planA q1.plan planE) _ rP Try.underlying46 rfl (by kernel_rfl) ?_); simp only [Act.put, List.setIfInBounds_toArray, List.set_cons_succ, List.set_cons_zero]; go_big_quiet_on)
      | (go_big_quiet_op; first | go_big_quiet_on | go_big_quiet_call (with_reducible exact kL _ _))))
  refine wpQuiet_nil ?_
  intro w5 hw'
  have hb5 := RefP.below_of_regrown hw'
  clear hw'
  go_wp2_with fail
  go_ret
  exact ⟨rfl, below_push2 hbF hb5 (Nat.le_refl _)⟩
end Go.Proofs.Ytnecikholpiefaa.Dp
