/-
  MemoryKeeps: what is got of a block is what was put there last by the same reference. For every two blocks; no condition.
-/
import Derived.Test.YtfnjggefinkcaaaLift
import Derived.Test.YtfnjggefinkcaaaMemDeepP
import Derived.Test.YtfnjggefinkcaaaMemLives
import Derived.Test.YtfnjggefinkcaaaLightA
import Derived.Test.YtfnjggefinkcaaaKeepsP
import Derived.Test.YtfnjggefinkcaaaApiSized
import Derived.Test.YtfnjggefinkcaaaQuietRow
namespace Go.Proofs.Ytfnjggefinkcaaa.memoryKeeps
open Go.ChangeShapes Go.WideShapes Go.ChangeAt Go.RowKit RefP CellP MemP Dp Go.Sort QuietRow
set_option linter.unusedVariables false
set_option linter.unusedSimpArgs false
/-- an access of a block alone -/
abbrev accB (b : BlockV) : AccV := ⟨0, 0, 0, 0, b, ⟨0, ⟨#[]⟩, ⟨#[]⟩, 0, 0⟩⟩
theorem few_of {x : AccV} (h : lightA x = true) (s : SmB x.block) : Few x.block ∧ ∀ k ∈ x.block.node.keys, k.size ≤ 100 := by
  have hr : reachBytes = 0x7ffffffff000 := rfl
  have s1 := s.ans
  have s2 := s.pairs
  simp only [lightA, lightN, Bool.and_eq_true, decide_eq_true_eq, List.all_eq_true] at h
  obtain ⟨⟨h1, h2, h3, h4, _⟩, h5, h6, h7⟩ := h
  have hs : (x.block.pairs.length : Int) + x.block.plan.ans.pairs.length ≤ 60 := by
    rw [sumW, IntKind.wrap_i64] at h7; omega
  exact ⟨⟨by omega, by omega, by omega, by omega, by omega, by omega, by omega⟩, h1⟩
/-- a row of two accesses -/
theorem two_row {w : World} {g : Nat} {q q2 : BlockH} {x y : AccV} {T : TypeId} (B : Blk w g (acc26 q x ++ acc26 q2 y).toArray T) (h : accT.rep w [] (acc26 q x) x) (h2 : accT.rep w [] (acc26 q2 y) y) : RowRep accT w [] (some ⟨g, 0, none⟩) [x, y] := by
  intro _
  refine ⟨g, 0, rfl, B.lt, by simp, fun i z hz => ?_⟩
  have hi : i = 0 ∨ i = 1 := by
    have := (List.getElem?_eq_some_iff.1 hz).1
    simp at this; omega
  rcases hi with rfl | rfl
  · simp at hz
    subst hz
    refine ⟨_, h, fun j v hj => ?_⟩
    have hj26 : j < (acc26 q x).length := (List.getElem?_eq_some_iff.1 hj).1
    refine B.at _ ?_
    rw [List.getElem?_toArray, show 0 + 0 * accT.k + j = j by omega, List.getElem?_append_left hj26]; exact hj
  · simp at hz
    subst hz
    refine ⟨_, h2, fun j v hj => ?_⟩
    have hj26 : j < (acc26 q2 y).length := (List.getElem?_eq_some_iff.1 hj).1
    refine B.at _ ?_
    rw [List.getElem?_toArray, show 0 + 1 * accT.k + j = (acc26 q x).length + j from rfl, List.getElem?_append_right (by omega), Nat.add_sub_cancel_left]; exact hj
theorem accT_mk {w : World} {S : List Nat} {q : BlockH} {x : AccV} (h : AccOk w S q x) : accT.rep w S (acc26 q x) x :=
  ⟨[_], _, rfl, ⟨rfl, wf_i64 h.kind⟩, [_], _, rfl, ⟨rfl, wf_i64 h.at_⟩, [_], _, rfl, ⟨rfl, wf_u64 h.ver⟩, [_], _, rfl, ⟨rfl, wf_u64 h.word⟩, blockL q x.block, _, rfl, blockT_mk h.block, opL x.op, [], rfl, opT_mk h.op, rfl⟩
theorem accB_rep {w : World} {q : BlockH} {b : BlockV} (H : BlockOk w [] q b) : accT.rep w [] (acc26 q (accB b)) (accB b) :=
  accT_mk ⟨⟨by simp [accB], by simp [accB]⟩, ⟨by simp [accB], by simp [accB]⟩, ⟨by simp [accB], by simp [accB]⟩, ⟨by simp [accB], by simp [accB]⟩, H, ⟨⟨by simp [accB], by simp [accB]⟩, Nat.zero_le _, Nat.zero_le _, ⟨by simp [accB], by simp [accB]⟩, ⟨by simp [accB], by simp [accB]⟩⟩⟩
theorem replyA_block (q : BlockH) (c : BlockV) (j : Nat) (v : Value) (h : (blockA q c).toList[j]? = some v) : (replyA true 0 0 q c)[3 + j]? = some v := by
  have hj : j < 17 := (List.getElem?_eq_some_iff.1 h).1
  obtain rfl | rfl | rfl | rfl | rfl | rfl | rfl | rfl | rfl | rfl | rfl | rfl | rfl | rfl | rfl | rfl | rfl : j = 0 ∨ j = 1 ∨ j = 2 ∨ j = 3 ∨ j = 4 ∨ j = 5 ∨ j = 6 ∨ j = 7 ∨ j = 8 ∨ j = 9 ∨ j = 10 ∨ j = 11 ∨ j = 12 ∨ j = 13 ∨ j = 14 ∨ j = 15 ∨ j = 16 := by omega
  all_goals exact h
abbrev rowAcc (q q2 : BlockH) (b c : BlockV) : Array Value := #[.int .i64 0, .int .i64 0, .int .u64 0, .int .u64 0, .int .i64 b.kind, .int .i64 b.node.level, .string b.node.low, .string b.node.high, .bool b.node.last, .int .i64 b.node.next, .slice q.node.keys.a b.node.keys.length q.node.keys.c, .slice q.node.vals.a b.node.vals.length q.node.vals.c, .slice q.node.kids.a b.node.kids.length q.node.kids.c, .int .i64 b.plan.thread, .int .i64 b.plan.ans.code, .string b.plan.ans.key, .int .u64 b.plan.ans.val, .slice q.plan.pairs.a b.plan.ans.pairs.length q.plan.pairs.c, .slice q.plan.steps.a b.plan.steps.length q.plan.steps.c, .slice q.plan.extra.a b.plan.extra.length q.plan.extra.c, .slice q.pairs.a b.pairs.length q.pairs.c, .int .i64 0, .string ⟨#[]⟩, .string ⟨#[]⟩, .int .u64 0, .int .i64 0, .int .i64 0, .int .i64 0, .int .u64 0, .int .u64 0, .int .i64 c.kind, .int .i64 c.node.level, .string c.node.low, .string c.node.high, .bool c.node.last, .int .i64 c.node.next, .slice q2.node.keys.a c.node.keys.length q2.node.keys.c, .slice q2.node.vals.a c.node.vals.length q2.node.vals.c, .slice q2.node.kids.a c.node.kids.length q2.node.kids.c, .int .i64 c.plan.thread, .int .i64 c.plan.ans.code, .string c.plan.ans.key, .int .u64 c.plan.ans.val, .slice q2.plan.pairs.a c.plan.ans.pairs.length q2.plan.pairs.c, .slice q2.plan.steps.a c.plan.steps.length q2.plan.steps.c, .slice q2.plan.extra.a c.plan.extra.length q2.plan.extra.c, .slice q2.pairs.a c.pairs.length q2.pairs.c, .int .i64 0, .string ⟨#[]⟩, .string ⟨#[]⟩, .int .u64 0, .int .i64 0]
set_option maxRecDepth 100000 in
set_option maxHeartbeats 40000000 in
theorem walk (q q2 : BlockH) (b c : BlockV) (w : World) (H : BlockOk w [] q b) (H2 : BlockOk w [] q2 c) (sb : SmB b) (sc : SmB c) :
    Calls Try.prog 5 #[.agg (blockA q b), .agg (blockA q2 c)] w fun e w' => e = .returned (.bool true) ∧ Below w.heap.size w w' := by
  have hb1 : Below w.heap.size w (((w.alloc (.cells (blockA q b) 35)).alloc (.cells (blockA q2 c) 35)).alloc (.cells (rowAcc q q2 b c) 39)) := by (repeat (first | exact Below.refl _ _ | assumption | refine below_alloc2 ?_ (by first | exact Nat.le_refl _ | omega) _ | refine Below.drew ?_ | refine below_drewN ?_ _ | refine below_push2 ?_ ‹_› (by first | exact Nat.le_refl _ | omega) | refine Below.setCell ?_ (by first | (simp; done) | (simp; omega) | omega) _))
  have BB := ((Blk.new w (blockA q b) 35).alloc (.cells (blockA q2 c) 35)).alloc (.cells (rowAcc q q2 b c) 39)
  have BC : Blk (((w.alloc (.cells (blockA q b) 35)).alloc (.cells (blockA q2 c) 35)).alloc (.cells (rowAcc q q2 b c) 39)) (w.heap.size + 1) (blockA q2 c) 35 := by
    have := (Blk.new (w.alloc (.cells (blockA q b) 35)) (blockA q2 c) 35).alloc (.cells (rowAcc q q2 b c) 39)
    simpa using this
  have BA : Blk (((w.alloc (.cells (blockA q b) 35)).alloc (.cells (blockA q2 c) 35)).alloc (.cells (rowAcc q q2 b c) 39)) (w.heap.size + 1 + 1) (rowAcc q q2 b c) 39 := by
    have := Blk.new ((w.alloc (.cells (blockA q b) 35)).alloc (.cells (blockA q2 c) 35)) (rowAcc q q2 b c) 39
    simpa using this
  have B0 := (Blk.new w (blockA q b) 35).alloc (.cells (blockA q2 c) 35)
  have B1 : Blk ((w.alloc (.cells (blockA q b) 35)).alloc (.cells (blockA q2 c) 35)) (w.heap.size + 1) (blockA q2 c) 35 := by
    have := Blk.new (w.alloc (.cells (blockA q b) 35)) (blockA q2 c) 35
    simpa using this
  go_enter Try.func5, Try.ntmps5
  go_wp2_with (first
    | (refine wpList_load_row rfl 35 _ rfl w.heap.size rfl 35 _ (0, 0) _ B0.h Try.underlying35 rfl (by kernel_rfl) ?_)
    | (refine wpList_load_row rfl 35 _ rfl (w.heap.size + 1) rfl 35 _ (0, 0) _ B1.h Try.underlying35 rfl (by kernel_rfl) ?_))
  have hAR := two_row BA (accT.keep (accB_rep H) (Keeps.of_below hb1)) (accT.keep (accB_rep H2) (Keeps.of_below hb1))
  generalize hW : (((w.alloc (.cells (blockA q b) 35)).alloc (.cells (blockA q2 c) 35)).alloc (.cells (rowAcc q q2 b c) 39)) = w1 at hb1 BB BC hAR ⊢
  clear hW BA B0 B1
  refine (light_any [] (some ⟨w.heap.size + 1 + 1, 0, none⟩) 2 [accB b, accB c] w1 hAR (by simp)).mono ?_
  rintro e w2 ⟨rfl, hb2⟩
  replace hb1 := below_push2 hb1 hb2 (Nat.le_refl _)
  replace BB := BB.below hb2
  replace BC := BC.below hb2
  clear hb2 hAR
  have lBC2 := BC.lt
  have hfo := rep_ok
  cases hL : lightL [accB b, accB c]
  · go_wp2_with fail
    refine (lives_any _).mono ?_
    rintro e w3 ⟨rfl, hb3⟩
    go_wp2_with fail
    go_ret
    exact ⟨rfl, below_push2 hb1 hb3 (Nat.le_refl _)⟩
  obtain ⟨fb, kb⟩ := few_of (x := accB b) (by simp [lightL] at hL; exact hL.1) sb
  obtain ⟨fc, kc⟩ := few_of (x := accB c) (by simp [lightL] at hL; exact hL.2) sc
  go_wp2_with fail
  refine (mnew_yes 3 1 0 w2 (by omega) (by omega) (by omega) (by omega) (by omega) (by omega)).mono ?_
  rintro e w3 ⟨o, oc, g, gb, gr, rfl, hM, hb3, ho, hoc, hg, hgb, hgr⟩
  have hB := below_push2 hb1 hb3 (Nat.le_refl _)
  have hs1 := hb1.size
  have hs3 := hb3.size
  replace BB := BB.below hb3
  replace BC := BC.below hb3
  have lBC := BC.lt
  clear hb1 hb3 hL
  have e1 : loadW (freshL 3 1 0) (atI 3 1 0 0) = 16385 := by decide +kernel
  have e2 : nameB 3 1 (freshL 3 1 0) 16385 = true := by decide +kernel
  have e3 : nameP 3 16385 = ((0 : Nat) : Int) := by decide +kernel
  have e4 : nameB 3 1 (storeL (freshL 3 1 0) 3 4) 16385 = false := by decide +kernel
  generalize freshL 3 1 0 = L at hM e1 e2 e4
  generalize (List.replicate 3 zb).set 0 eb = bs at hM
  generalize List.replicate 1 zo = rs at hM
  go_wp2_with fail
  refine (node_any 0 _ hM (by omega) (by omega)).mono ?_
  rintro e w4 ⟨rfl, hb4⟩
  replace hM := hM.below hb4
  replace hB := below_push2 hB hb4 (Nat.le_refl _)
  replace BB := BB.below hb4
  replace BC := BC.below hb4
  have hs4 := hb4.size
  go_wp2_with fail
  refine (mload_any _ _ hM).mono ?_
  rw [e1]
  rintro e w5 ⟨rfl, hb5⟩
  replace hM := hM.below hb5
  replace hB := below_push2 hB hb5 (Nat.le_refl _)
  replace BB := BB.below hb5
  replace BC := BC.below hb5
  have hs5 := hb5.size
  clear hb4 hb5 e1
  have lo1 := hM.head.lt
  have lo2 := hM.cells.head.lt
  have lo3 := hM.cells.rows.lt
  have lo4 := hM.blocks.lt
  have lo5 := hM.records.lt
  have hB6 := below_alloc2 hB (Nat.le_refl _) (.cells (blockA q b) 35)
  have M6 := hM.below ((Below.refl _ w5).alloc (Nat.le_refl _) (.cells (blockA q b) 35))
  have BO6 := Blk.new w5 (blockA q b) 35
  have BB6 := BB.alloc (.cells (blockA q b) 35)
  have BC6 := BC.alloc (.cells (blockA q b) 35)
  have hs6 := World.size_alloc w5 (.cells (blockA q b) 35)
  generalize hW : w5.alloc (.cells (blockA q b) 35) = w6 at hB6 M6 BO6 BB6 BC6 hs6
  replace hs6 := Lib.hid hs6
  replace hW := Lib.hid hW
  go_upto_region 6 with (first
    | (refine wpList_load_row rfl 35 _ rfl w.heap.size rfl 35 _ (0, 0) _ BB.h Try.underlying35 rfl (by kernel_rfl) ?_)
    | (refine wpList_store_row rfl 35 _ _ rfl w5.heap.size _ rfl rfl 35 _ (Blk.new w5 _ _).h (by kernel_rfl) (by rfl) (by kernel_rfl) ?_; rw [World.setRow_alloc_new, hW.out]))
  clear hW hM hB BB BC
  obtain ⟨gk, ck, w7, A7⟩ := app_strs (H.node.keys.keep (Keeps.of_below hB6)) (Nat.le_trans fb.keys (by omega))
  have x6 := (BB6.alloc (.cells #[] 9)).at 6 rfl
  have BO7 := BO6.below A7.below
  have y6 := BO7.at 6 rfl
  have yf6 := BO7.free 6
  have hr7 := A7.run
  go_upto_region 7 with (at_builtin; refine wpList_append_run hr7.out rfl (by rfl) (by rfl) (by rfl) ?_)
  have hB7 := below_push2 hB6 A7.below (Nat.le_refl _)
  have M7 := M6.below A7.below
  have BB7 := BB6.below A7.below
  have BC7 := BC6.below A7.below
  have K7 := A7.row
  have gk6 := A7.ge
  obtain ⟨cur, BG7, hcur⟩ := A7.blk
  have hs7 := A7.below.size
  have hlo : w.heap.size + 1 < w5.heap.size := by omega
  obtain ⟨vk, hvk⟩ : ∃ v, v = Value.slice (some ⟨gk, 0, none⟩) b.node.keys.length ck := ⟨_, rfl⟩
  obtain ⟨q', hq'⟩ : ∃ q' : BlockH, q' = ⟨⟨⟨some ⟨gk, 0, none⟩, ck⟩, q.node.vals, q.node.kids⟩, q.plan, q.pairs⟩ := ⟨_, rfl⟩
  have F8 : Fr [w5.heap.size] w7 (w7.setCell ⟨w5.heap.size, 6, none⟩ vk) := (Fr.refl _ _).set _ _ (.inl (by simp))
  have hB8 := hB7.setCell (p := ⟨w5.heap.size, 6, none⟩) (show w.heap.size ≤ w5.heap.size by omega) vk
  have M8 := M7.off F8 (by simp; omega)
  have BB8 := F8.blk BB7 (by simp; omega)
  have BC8 := F8.blk BC7 (by simp; omega)
  have BO8 := BO7.set 6 vk
  rw [show (blockA q b).setIfInBounds 6 vk = blockA q' b from by subst hvk; subst hq'; simp [blockA]] at BO8
  have BG8 := F8.blk BG7 (by have hh := hs6.out; simp; omega)
  have K8 := (K7.keep (F8.keeps.more (S' := List.range w6.heap.size) (by have hh := hs6.out; simp; omega))).more (S' := [w5.heap.size]) (by have hh := hs6.out; simp; omega)
  obtain ⟨w8, hw8⟩ : ∃ w8, w8 = w7.setCell ⟨w5.heap.size, 6, none⟩ vk := ⟨_, rfl⟩
  rw [← hvk, ← hw8]
  rw [← hw8] at F8 hB8 M8 BB8 BC8 BO8 BG8 K8
  have hs8 : w6.heap.size ≤ w8.heap.size := by rw [hw8]; simpa using hs7
  clear hw8 hB6 M6 BB6 BC6 BO6 BO7 hB7 M7 BB7 BC7 K7 BG7 F8 x6 y6 yf6 hr7 A7 hs7
  obtain ⟨gp, cp, w9, A9⟩ := app_pairs (H.pairs.keep (Keeps.of_below hB8)) (Nat.le_trans fb.pairs (by omega))
  have x16 := (BB8.alloc (.cells #[] 64)).at 16 rfl
  have BO9 := BO8.below A9.below
  have y16 := BO9.at 16 rfl
  have yf16 := BO9.free 16
  have hr9 := A9.run
  go_upto_region 8 with (at_builtin; refine wpList_append_run hr9.out rfl (by rfl) (by rfl) (by rfl) ?_)
  have hB9 := below_push2 hB8 A9.below (Nat.le_refl _)
  have M9 := M8.below A9.below
  have BB9 := BB8.below A9.below
  have BC9 := BC8.below A9.below
  have BG9 := BG8.below A9.below
  have K9 := K8.keep (Keeps.of_below A9.below)
  have P9 := A9.row
  have gp8 := A9.ge
  have hgkp : gk < gp := Nat.lt_of_lt_of_le BG8.lt gp8
  obtain ⟨cur2, BH9, hcur2⟩ := A9.blk
  have hs9 := A9.below.size
  obtain ⟨vp, hvp⟩ : ∃ v, v = Value.slice (some ⟨gp, 0, none⟩) b.pairs.length cp := ⟨_, rfl⟩
  obtain ⟨qo, hqo⟩ : ∃ qo : BlockH, qo = ⟨q'.node, q'.plan, ⟨some ⟨gp, 0, none⟩, cp⟩⟩ := ⟨_, rfl⟩
  have F10 : Fr [w5.heap.size] w9 (w9.setCell ⟨w5.heap.size, 16, none⟩ vp) := (Fr.refl _ _).set _ _ (.inl (by simp))
  have hB10 := hB9.setCell (p := ⟨w5.heap.size, 16, none⟩) (show w.heap.size ≤ w5.heap.size by omega) vp
  have M10 := M9.off F10 (by simp; omega)
  have BB10 := F10.blk BB9 (by simp; omega)
  have BC10 := F10.blk BC9 (by simp; omega)
  have BO10 := BO9.set 16 vp
  rw [show (blockA q' b).setIfInBounds 16 vp = blockA qo b from by subst hvp; subst hqo; simp [blockA]] at BO10
  have BG10 := F10.blk BG9 (by have hh := hs6.out; simp; omega)
  have BH10 := F10.blk BH9 (by have hh := hs6.out; simp; omega)
  have K10 := K9.keep (F10.keeps.more (S' := [w5.heap.size]) (by simp))
  have P10 := (P9.keep (F10.keeps.more (S' := List.range w8.heap.size) (by have hh := hs6.out; simp; omega))).more (S' := []) (by simp)
  have HO : BlockOk (w9.setCell ⟨w5.heap.size, 16, none⟩ vp) [] qo b := by
    have hk := Keeps.of_below (S := []) hB10
    subst hqo
    refine ⟨H.kind, ⟨H.node.level, H.node.low, H.node.high, H.node.next, ?_, ?_, ?_⟩, ?_, P10⟩
    · subst hq'; exact K10.more (by simp)
    · subst hq'; exact H.node.vals.keep hk
    · subst hq'; exact H.node.kids.keep hk
    · subst hq'; exact H.plan.keep hk
  obtain ⟨w10, hw10⟩ : ∃ w10, w10 = w9.setCell ⟨w5.heap.size, 16, none⟩ vp := ⟨_, rfl⟩
  rw [← hvp, ← hw10]
  rw [← hw10] at hB10 M10 BB10 BC10 BO10 BG10 BH10 HO
  have hs10 : w8.heap.size ≤ w10.heap.size := by rw [hw10]; simpa using hs9
  clear hw10 hB8 M8 BB8 BC8 BO8 BG8 K8 hB9 M9 BB9 BC9 BO9 BG9 BH9 K9 F10 x16 y16 yf16 hr9 A9 hs9 P9 P10 K10
  replace hqo := Lib.hid hqo
  replace hq' := Lib.hid hq'
  replace hvk := Lib.hid hvk
  clear hvp
  go_wp2_with (refine wpList_load_row rfl 35 _ rfl w5.heap.size rfl 35 _ (0, 0) _ BO10.h Try.underlying35 rfl (by kernel_rfl) ?_)
  refine (show Calls _ _ _ _ _ from do_put_yes 0 0 16385 (.int .i64 0) (.string ⟨#[]⟩) (.string ⟨#[]⟩) (.int .u64 0) (.int .i64 0) 0 [] qo b w10 M10 (by omega) (by omega) e2 (by omega) e3 HO fb).mono ?_
  rintro e w11 ⟨rfl, ⟨qm, M11, H11⟩, F11⟩
  have hB11 := F11.below hB10 (Nat.le_refl _) (by simp; omega)
  have BB11 := F11.blk BB10 (by simp; omega)
  have BC11 := F11.blk BC10 (by simp; omega)
  have BO11 := F11.blk BO10 (by simp; omega)
  have BG11 := F11.blk BG10 (by have hh := hs6.out; simp; omega)
  have BH11 := F11.blk BH10 (by have hh := hs6.out; simp; omega)
  have lg : gk < w10.heap.size := BG10.lt
  have lp : gp < w10.heap.size := BH10.lt
  have hs11 := F11.size
  have hgk : w5.heap.size + 1 ≤ gk := by have hh := hs6.out; omega
  have hgp : w5.heap.size + 1 ≤ gp := by have hh := hs6.out; omega
  clear hB10 M10 BB10 BC10 BO10 BG10 BH10 HO F11 gk6 gp8 hs8 hs10 hs6
  have x6 : w11.cell? ⟨w5.heap.size, 6, none⟩ = some (.slice (some ⟨gk, 0, none⟩) b.node.keys.length ck) := by rw [BO11.at 6 rfl]; have e1 := hqo.out; have e2 := hq'.out; subst e1; subst e2; rfl
  go_wp2_with fail
  have hmx : (maxLen : Nat) = 9223372036854775807 := by unfold maxLen; rfl
  have fbk := fb.keys
  have fbp := fb.pairs
  have lo6 := BO11.lt
  have x16 : w11.cell? ⟨w5.heap.size, 16, none⟩ = some (.slice (some ⟨gp, 0, none⟩) b.pairs.length cp) := by rw [BO11.at 16 rfl]; have e1 := hqo.out; have e2 := hq'.out; subst e1; subst e2; rfl
  go_loopw [55] (fun i wr => ∃ (k : Nat) (cu : Array Value), k ≤ b.node.keys.length ∧ i = .int .i64 k ∧ Fr [gk] w11 wr ∧ Blk wr gk cu 9 ∧ (∀ j (hj : j < b.node.keys.length), k ≤ j → cu[j]? = some (.string b.node.keys[j]))) (fun i _ => b.node.keys.length - (intOf i).toNat)
  case atStart => exact ⟨0, cur, Nat.zero_le _, rfl, Fr.refl _ _, BG11, fun j hj _ => by simpa [strC] using hcur j hj 0 _ rfl⟩
  case round =>
    obtain ⟨k, cu, hk, rfl, hF, BG, hall⟩ := hrel
    have c6 := (hF.keeps.cell (p := ⟨w5.heap.size, 6, none⟩) lo6 (by simp; omega)).trans x6
    clear x6
    by_cases hlt : k < b.node.keys.length
    · have hlt' : (k : Int) < (b.node.keys.length : Int) := by omega
      have c0 := BG.at k (hall k hlt (Nat.le_refl _))
      have f0 := BG.free k
      have hs : (b.node.keys[k]).size ≤ 100 := kb _ (List.getElem_mem hlt)
      have hst : ∀ v : Value, ∃ cu', Blk (wr.setCell ⟨gk, k, none⟩ v) gk cu' 9 ∧ (∀ j (hj : j < b.node.keys.length), k + 1 ≤ j → cu'[j]? = some (.string b.node.keys[j])) := fun v =>
        ⟨_, BG.set k v, fun j hj hle => by rw [Array.getElem?_setIfInBounds_ne (by omega)]; exact hall j hj (by omega)⟩
      generalize b.node.keys[k] = s at c0 hs
      clear hall
      go_wp2_with fail
      go_roundw
      case rel =>
        obtain ⟨cu', B', h'⟩ := hst (.string (s ++ ⟨#[120]⟩))
        exact ⟨k + 1, cu', by omega, by go_num, hF.set _ _ (.inl (by simp)), B', h'⟩
      case measure => simp [intOf]; omega
    · obtain rfl : k = b.node.keys.length := by omega
      have hB12 := hF.below hB11 (Nat.le_refl _) (by simp; omega)
      have M12 := M11.off hF (by simp; omega)
      have BB12 := hF.blk BB11 (by simp; omega)
      have BC12 := hF.blk BC11 (by simp; omega)
      have BH12 := hF.blk BH11 (by simp; omega)
      have H12 := H11.keep (hF.keeps.more (S' := List.range w10.heap.size) (by simp; omega))
      have c16 := (hF.keeps.cell (p := ⟨w5.heap.size, 16, none⟩) lo6 (by simp; omega)).trans x16
      have lo7 : w5.heap.size < wr.heap.size := Nat.lt_of_lt_of_le lo6 hF.size
      have hs12 := hF.size
      clear hB11 M11 BB11 BC11 BH11 H11 x16 hall BG BG11 hF c6 BO11
      go_wp2_with fail
      obtain ⟨w12, rfl⟩ : ∃ w12, w12 = wr := ⟨_, rfl⟩
      go_loopw [70] (fun i wq => ∃ (k : Nat) (cu : Array Value), k ≤ b.pairs.length ∧ i = .int .i64 k ∧ Fr [gp] w12 wq ∧ Blk wq gp cu 64 ∧ (∀ j (hj : j < b.pairs.length), k ≤ j → cu[j * 2 + 1]? = some (.int .u64 (b.pairs[j]).val))) (fun i _ => b.pairs.length - (intOf i).toNat)
      case atStart => exact ⟨0, cur2, Nat.zero_le _, rfl, Fr.refl _ _, BH12, fun j hj _ => hcur2 j hj 1 _ rfl⟩
      case round =>
        obtain ⟨k, cu', hk', rfl, hF', BG', hall'⟩ := hrel
        have d16 := (hF'.keeps.cell (p := ⟨w5.heap.size, 16, none⟩) lo7 (by simp; omega)).trans c16
        clear c16
        by_cases hlt : k < b.pairs.length
        · have hlt' : (k : Int) < (b.pairs.length : Int) := by omega
          have c0 := BG'.at (k * 2 + 1) (hall' k hlt (Nat.le_refl _))
          have f0 := BG'.free (k * 2 + 1)
          have hst : ∀ v : Value, ∃ cu'', Blk (wr.setCell ⟨gp, k * 2 + 1, none⟩ v) gp cu'' 64 ∧ (∀ j (hj : j < b.pairs.length), k + 1 ≤ j → cu''[j * 2 + 1]? = some (.int .u64 (b.pairs[j]).val)) := fun v =>
            ⟨_, BG'.set (k * 2 + 1) v, fun j hj hle => by rw [Array.getElem?_setIfInBounds_ne (by omega)]; exact hall' j hj (by omega)⟩
          generalize (b.pairs[k]).val = s at c0
          clear hall'
          go_wp2_with fail
          go_roundw
          case rel =>
            obtain ⟨cu'', B', h'⟩ := hst (.int .u64 (IntKind.u64.wrap (s + 1)))
            exact ⟨k + 1, cu'', by omega, by go_num, hF'.set _ _ (.inl (by simp)), B', h'⟩
          case measure => simp [intOf]; omega
        obtain rfl : k = b.pairs.length := by omega
        have hB13 := hF'.below hB12 (Nat.le_refl _) (by simp; omega)
        have M13 := M12.off hF' (by simp; omega)
        have BB13 := hF'.blk BB12 (by simp; omega)
        have BC13 := hF'.blk BC12 (by simp; omega)
        have H13 := H12.keep (hF'.keeps.more (S' := List.range w10.heap.size) (by simp; omega))
        have hs13 := hF'.size
        have hlb := M13.lb
        simp only [List.length_set] at hlb
        clear hB12 M12 BB12 BC12 BH12 H12 hall' BG' hF' d16
        go_upto_region 20 with (fail)
        go_wp2_with fail
        refine (do_get_yes 0 0 16385 _ _ _ _ _ _ _ _ _ _ _ _ _ _ _ _ _ _ _ _ _ _ 0 _ qm b wr M13 (by omega) (by omega) e2 (by omega) e3 (by simp [List.getD, hlb]) H13 fb).mono ?_
        rintro e w14 ⟨⟨qr, rfl, H14⟩, hb14⟩
        have hB15 := below_alloc2 (below_push2 hB13 hb14 (Nat.le_refl _)) (Nat.le_refl _) (.cells (replyA true 0 0 qr b) 50)
        have hb15 := (hb14).alloc (by have := hb14.size; omega) (.cells (replyA true 0 0 qr b) 50)
        have M15 := M13.below hb15
        have BB15 := BB13.below hb15
        have BC15 := BC13.below hb15
        have H15 := H13.keep (Keeps.of_below hb15)
        have HR15 := (H14.keep (Keeps.of_below ((Below.refl _ w14).alloc (Nat.le_refl _) (.cells (replyA true 0 0 qr b) 50)))).more (S' := []) (by simp)
        have BR15 := Blk.new w14 (replyA true 0 0 qr b) 50
        have hs15 := hb15.size
        clear hB13 M13 BB13 BC13 H13 H14 hb14 hb15
        generalize hW : w14.alloc (.cells (replyA true 0 0 qr b) 50) = w15 at hB15 M15 BB15 BC15 H15 HR15 BR15 hs15
        replace hW := Lib.hid hW
        go_upto_region 21 with (refine wpList_store_row rfl 50 _ _ rfl w14.heap.size _ rfl rfl 50 _ (Blk.new w14 _ _).h (by kernel_rfl) (by rfl) (by kernel_rfl) ?_; rw [World.setRow_alloc_new, hW.out])
        clear hW
        have x0 := BB15.at 0 rfl
        have x1 := BB15.at 1 rfl
        have x2 := BB15.at 2 rfl
        have x3 := BB15.at 3 rfl
        have x4 := BB15.at 4 rfl
        have x5 := BB15.at 5 rfl
        have x6 := BB15.at 6 rfl
        have x7 := BB15.at 7 rfl
        have x8 := BB15.at 8 rfl
        have x9 := BB15.at 9 rfl
        have x10 := BB15.at 10 rfl
        have x11 := BB15.at 11 rfl
        have x12 := BB15.at 12 rfl
        have x13 := BB15.at 13 rfl
        have x14 := BB15.at 14 rfl
        have x15 := BB15.at 15 rfl
        have x16 := BB15.at 16 rfl
        have r0 := BR15.at 0 rfl
        have r3 := BR15.at 3 rfl
        have r4 := BR15.at 4 rfl
        have r5 := BR15.at 5 rfl
        have r6 := BR15.at 6 rfl
        have r7 := BR15.at 7 rfl
        have r8 := BR15.at 8 rfl
        have r9 := BR15.at 9 rfl
        have r10 := BR15.at 10 rfl
        have r11 := BR15.at 11 rfl
        have r12 := BR15.at 12 rfl
        have r13 := BR15.at 13 rfl
        have r14 := BR15.at 14 rfl
        have r15 := BR15.at 15 rfl
        have r16 := BR15.at 16 rfl
        have r17 := BR15.at 17 rfl
        have r18 := BR15.at 18 rfl
        have r19 := BR15.at 19 rfl
        go_wp2_with fail
        refine (show Calls _ _ _ _ _ from sameB_any [] [] qr q b b w15 HR15 (H.keep (Keeps.of_below hB15))).mono ?_
        rintro e w16 ⟨rfl, hb16⟩
        rw [decide_eq_true (show b = b from rfl)]
        replace hB15 := below_push2 hB15 hb16 (Nat.le_refl _)
        replace M15 := M15.below hb16
        replace BB15 := BB15.below hb16
        replace BC15 := BC15.below hb16
        have hs16 := hb16.size
        clear hb16 H15 HR15 BR15 x0 x1 x2 x3 x4 x5 x6 x7 x8 x9 x10 x11 x12 x13 x14 x15 x16 r0 r3 r4 r5 r6 r7 r8 r9 r10 r11 r12 r13 r14 r15 r16 r17 r18 r19
        go_wp2_with (refine wpList_load_row rfl 35 _ rfl (w.heap.size + 1) rfl 35 _ (0, 0) _ BC15.h Try.underlying35 rfl (by kernel_rfl) ?_)
        refine (show Calls _ _ _ _ _ from do_put_yes 0 0 16385 (.int .i64 0) (.string ⟨#[]⟩) (.string ⟨#[]⟩) (.int .u64 0) (.int .i64 0) 0 [] q2 c w16 M15 (by omega) (by omega) e2 (by omega) e3 (H2.keep (Keeps.of_below hB15)) fc).mono ?_
        rintro e w17 ⟨rfl, ⟨qn, M17, H17⟩, F17⟩
        have hB17 := F17.below hB15 (Nat.le_refl _) (by simp; omega)
        have BB17 := F17.blk BB15 (by simp; omega)
        have BC17 := F17.blk BC15 (by simp; omega)
        have hs17 := F17.size
        clear hB15 M15 BB15 BC15 F17
        go_wp2_with fail
        refine (do_get_yes 0 0 16385 _ _ _ _ _ _ _ _ _ _ _ _ _ _ _ _ _ _ _ _ _ _ 0 _ qn c w17 M17 (by omega) (by omega) e2 (by omega) e3 (by simp [List.getD, hlb]) H17 fc).mono ?_
        rintro e w18 ⟨⟨qs, rfl, H18⟩, hb18⟩
        have hB19 := below_alloc2 (below_push2 hB17 hb18 (Nat.le_refl _)) (Nat.le_refl _) (.cells (replyA true 0 0 qs c) 50)
        have hb19 := (hb18).alloc (by have := hb18.size; omega) (.cells (replyA true 0 0 qs c) 50)
        have M19 := M17.below hb19
        have BB19 := BB17.below hb19
        have BC19 := BC17.below hb19
        have HS19 := (H18.keep (Keeps.of_below ((Below.refl _ w18).alloc (Nat.le_refl _) (.cells (replyA true 0 0 qs c) 50)))).more (S' := [g, gb]) (by simp; omega)
        have BS19 := Blk.new w18 (replyA true 0 0 qs c) 50
        have hs18 := hb18.size
        have hs19 := hb19.size
        clear hB17 M17 BB17 BC17 H17 H18 hb18 hb19
        generalize hW : w18.alloc (.cells (replyA true 0 0 qs c) 50) = w19 at hB19 M19 BB19 BC19 HS19 BS19 hs19
        replace hW := Lib.hid hW
        as_aux_lemma =>
          go_upto_region 25 with (refine wpList_store_row rfl 50 _ _ rfl w18.heap.size _ rfl rfl 50 _ (Blk.new w18 _ _).h (by kernel_rfl) (by rfl) (by kernel_rfl) ?_; rw [World.setRow_alloc_new, hW.out])
          clear hW
          go_wp2_with fail
          refine (muse_any 0 _ M19 (by omega) (by omega)).mono ?_
          rintro e w20 ⟨rfl, hb20⟩
          replace hB19 := below_push2 hB19 hb20 (Nat.le_refl _)
          replace M19 := M19.below hb20
          replace BB19 := BB19.below hb20
          replace BC19 := BC19.below hb20
          replace BS19 := BS19.below hb20
          replace HS19 := HS19.keep (Keeps.of_below hb20)
          have hs20 := hb20.size
          clear hb20
          go_wp2_with fail
          refine (do_store (atI 3 1 1 0) 0 4 _ _ _ _ _ _ _ _ _ _ _ _ _ _ _ _ _ _ _ _ _ _ w20 M19 (by omega) (by omega)).mono ?_
          rintro e w21 ⟨rfl, M21, F21⟩
          have hB21 := F21.below hB19 (Nat.le_refl _) (by simp; omega)
          have BB21 := F21.blk BB19 (by simp; omega)
          have BC21 := F21.blk BC19 (by simp; omega)
          have BS21 := F21.blk BS19 (by simp; omega)
          have HS21 := HS19.keep F21.keeps
          have hs21 := F21.size
          have hkb := Keeps.of_below (S := []) hB21
          rw [show atI 3 1 1 0 = 3 from by decide +kernel] at M21
          clear hB19 M19 BB19 BC19 BS19 HS19 F21
          as_aux_lemma =>
            go_upto_region 26 with (fail)
            have s0 := fun d os => cell_regrown (BS21.at 0 rfl) d os
            have rS := range_regrown (show w21.rangeAt w18.heap.size 3 (blockA qs c).toList from fun j v hj => BS21.at (3 + j) (replyA_block qs c j v hj))
            have rB := range_regrown (show w21.rangeAt w.heap.size 0 (blockA q b).toList from fun j v hj => BB21.at (0 + j) (by rw [Nat.zero_add, ← Array.getElem?_toList]; exact hj))
            have rC := range_regrown (show w21.rangeAt (w.heap.size + 1) 0 (blockA q2 c).toList from fun j v hj => BC21.at (0 + j) (by rw [Nat.zero_add, ← Array.getElem?_toList]; exact hj))
            have kb := fun (S : List Nat) d os => Keeps.of_below (S := S) (below_regrown w21 d os)
            have kw := fun (S : List Nat) d os => (Keeps.of_below (S := S) hB21).trans (kb S d os)
            have k1 := fun d os => Calls.regrown_of (sameB_any [g, gb] [] qs q2 c c (grow (redrawn w21 d) os) (HS21.keep (kb _ d os)) (H2.keep (kw _ d os)))
            simp only [decide_true] at k1
            have k2 := fun d os => Calls.regrown_of (msame_any [] [] q q2 b c (grow (redrawn w21 d) os) (H.keep (kw _ d os)) (H2.keep (kw _ d os)))
            have k3 := fun d os => Calls.regrown_of (sameB_any [] [] q q2 b c (grow (redrawn w21 d) os) (H.keep (kw _ d os)) (H2.keep (kw _ d os)))
            have k4 := fun d os => Calls.regrown_of (do_get_no 0 0 16385 (.int .i64 0) (.int .i64 0) (.string ⟨#[]⟩) (.string ⟨#[]⟩) (.bool false) (.int .i64 0) (.slice none 0 0) (.slice none 0 0) (.slice none 0 0) (.int .i64 0) (.int .i64 0) (.string ⟨#[]⟩) (.int .u64 0) (.slice none 0 0) (.slice none 0 0) (.slice none 0 0) (.slice none 0 0) (.int .i64 0) (.string ⟨#[]⟩) (.string ⟨#[]⟩) (.int .u64 0) (.int .i64 0) (grow (redrawn w21 d) os) (M21.below (below_regrown w21 d os)) (by omega) (by omega) e4)
            have k5 := fun d os => Calls.regrown_of (lives_any (grow (redrawn w21 d) os))
            generalize decide (b = c) = t at k2 k3
            clear kb kw hkb H H2 M21 BB21 BC21 BS21 HS21
            as_aux_lemma =>
              refine wp_region_quiet_below (by kernel_rfl) (by kernel_rfl) ?_
              iterate 29 (first
                | go_big_quiet_skip
                | (go_big_quiet_want; first
                  | ((first
                      | (refine quiet_load_arr 35 _ rfl w18.heap.size 3 rfl (blockA qs c) _ rS Try.underlying35 rfl (by kernel_rfl) ?_)
                      | (refine quiet_load_arr 35 _ rfl w.heap.size 0 rfl (blockA q b) _ rB Try.underlying35 rfl (by kernel_rfl) ?_)
                      | (refine quiet_load_arr 35 _ rfl (w.heap.size + 1) 0 rfl (blockA q2 c) _ rC Try.underlying35 rfl (by kernel_rfl) ?_)); simp only [Act.put, List.setIfInBounds_toArray, List.set_cons_succ, List.set_cons_zero]; go_big_quiet_on)
                  | (go_big_quiet_op; first | go_big_quiet_on | go_big_quiet_call (first | with_reducible exact k1 _ _ | with_reducible exact k2 _ _ | with_reducible exact k3 _ _ | with_reducible exact k4 _ _ | with_reducible exact k5 _ _))))
              refine wpQuiet_nil ?_
              intro w22 hw'
              have hb22 := RefP.below_of_regrown hw'
              clear hw'
              go_wp2_with fail
              go_ret
              exact ⟨rfl, below_push2 hB21 hb22 (Nat.le_refl _)⟩

set_option maxRecDepth 100000 in
theorem contract (H : Type) (enc : TypeId × Value → H) (W : World) (base : Nat) (args : Array Value) (ds : List (DataW H)) (p : List MemPlace)
    (hval : ∀ (j : Nat) t v, Try.f5.params[j]? = some t → args[j]? = some v → Value.okWide Try.prog W .any base t v)
    (hA : DataW.TrodAll enc Try.prog W 0 (fun _ => true) true Try.f5.params.toList args.toList ds p)
    (hz : ∀ (j : Nat) t d, Try.f5.params[j]? = some t → ds[j]? = some d → ∀ n ∈ DataW.weights Try.prog t d, n ≤ reachBytes) :
    Calls Try.prog 5 args W fun e W' => e = .returned (.bool true) ∧ Below W.heap.size W W' := by
  rw [Try.params5] at hA hval hz
  obtain ⟨v0, vs0, d0, ds0, p0, q0, hargs, rfl, rfl, h0, r0⟩ := trodAll_cons hA
  obtain ⟨v1, vs1, d1, ds1, p1, q1, rfl, rfl, rfl, h1, r1⟩ := trodAll_cons r0
  obtain ⟨rfl, rfl, rfl⟩ := trodAll_nil r1
  obtain rfl : args = #[v0, v1] := by cases args; simp_all
  obtain ⟨cs, x, rfl, hx, sx⟩ := oz_agg oz_block Try.underlying35 (hval 0 35 v0 rfl rfl) h0 (hz 0 35 d0 rfl rfl)
  obtain ⟨cs2, y, rfl, hy, sy⟩ := oz_agg oz_block Try.underlying35 (hval 1 35 v1 rfl rfl) h1 (hz 1 35 d1 rfl rfl)
  obtain ⟨q, hcs, hok⟩ := blockT_of hx
  obtain ⟨q2, hcs2, hok2⟩ := blockT_of hy
  obtain rfl : cs = blockA q x := by rw [← Array.toList_inj, hcs]; rfl
  obtain rfl : cs2 = blockA q2 y := by rw [← Array.toList_inj, hcs2]; rfl
  exact walk q q2 x y W hok hok2 sx sy

/-! THE ROW's STEP -/
set_option maxRecDepth 100000 in
theorem lifted (os : Os) (started : os.Started) (H : Type) (enc : TypeId × Value → H) :
    ReturnsInHanded {} Try.checked os 5 .any (Rows.memoryKeepsSpec.pre6 enc Try.prog Try.f5 Rows.memoryKeepsRow.domain false) (Rows.memoryKeepsSpec.post enc Try.prog Try.f5 false true false false) := by
  refine returnsInHanded_of_change_sized (C := Try.checked) Lift.own started (by kernel_rfl) Try.func5
    (ChangeSpec.witness6 (enc := enc) (C := Try.checked) false ⟨#[], #[.agg #[.int .i64 0, .int .i64 0, .string ⟨#[]⟩, .string ⟨#[]⟩, .bool false, .int .i64 0, .slice none 0 0, .slice none 0 0, .slice none 0 0, .int .i64 0, .int .i64 0, .string ⟨#[]⟩, .int .u64 0, .slice none 0 0, .slice none 0 0, .slice none 0 0, .slice none 0 0], .agg #[.int .i64 0, .int .i64 0, .string ⟨#[]⟩, .string ⟨#[]⟩, .bool false, .int .i64 0, .slice none 0 0, .slice none 0 0, .slice none 0 0, .int .i64 0, .int .i64 0, .string ⟨#[]⟩, .int .u64 0, .slice none 0 0, .slice none 0 0, .slice none 0 0, .slice none 0 0]], []⟩ 8 (by kernel_rfl) (by kernel_rfl) (by kernel_rfl) (by kernel_rfl)) ?_
  intro W base args ds gs before hval0 hW hcnd hz0 _
  have hval : ∀ (j : Nat) t v, Try.f5.params[j]? = some t → args[j]? = some v → Value.okWide Try.prog W .any base t v := hval0
  have hW' := hW
  obtain ⟨p, q, hA0, hV, rfl, hfz, hnd⟩ := hW
  have hA : DataW.TrodAll enc Try.prog W 0 (fun _ => true) true Try.f5.params.toList args.toList ds p := hA0
  have hlen : ds.length = 2 := by
    have hl := Lift.trodAll_len _ _ _ _ hA
    rw [Try.params5] at hl
    simpa using hl
  have hall := fun W' (hb : Below W.heap.size W W') => Lift.trodAll_below Lift.laidOut hb Try.f5.params.toList args.toList ds p (by kernel_rfl) hA
  obtain ⟨rfl, rfl⟩ := trodVars_none hV
  refine (contract H enc W base args ds p hval hA (fun j t d ht hd => Dp.sized_arg hz0 (by simpa using ht) hd)).mono fun e W' ⟨he, bel⟩ => ?_
  subst he
  have hspec : (Rows.memoryKeepsSpec.fn H (ds ++ [])).results = [.lit (.bool true)] ∧ (Rows.memoryKeepsSpec.fn H (ds ++ [])).args = ds ∧ (Rows.memoryKeepsSpec.fn H (ds ++ [])).vars = [] := by
    match ds, hlen with
    | [d1, d2], _ => exact ⟨rfl, rfl, rfl⟩
  exact ⟨_, rfl, _, _, _, [], _, [], hW', by rw [hspec.1]; exact trodAll_mk1 (shut_bool Try.underlying4 _), by rw [hspec.2.1]; exact hall W' bel, by rw [hspec.2.2]; rfl, bel.frame _, fun h => by cases h⟩

theorem over : Rows.memoryKeepsRow.holds Try.pinned (OpenSpec.ofChange Rows.memoryKeepsSpec) :=
  OpenClaim.holds_of_wide 5 Try.f5 rfl rfl rfl rfl rfl rfl rfl ⟨rfl, rfl, rfl, rfl, rfl⟩ rfl rfl rfl rfl rfl (by kernel_rfl) Try.func5 (by kernel_rfl)
    (of_decide_eq_true (by kernel_rfl)) (by unfold Func.isWrapper; first | (rw [if_pos (by decide +kernel)]; kernel_rfl) | (rw [if_neg (by decide +kernel)]; exact ⟨rfl, rfl⟩))
    (fun os started H enc _ => lifted os started H enc)

theorem proved : Rows.MemoryKeepsSaid := over
#print axioms proved
end Go.Proofs.Ytfnjggefinkcaaa.memoryKeeps
