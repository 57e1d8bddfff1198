/-
  memory's copied: contract.
-/
import Derived.Test.YtfnjggefinkcaaaDeepClone2
import Derived.Test.YtfnjggefinkcaaaDeepSame5
namespace Go.Proofs.Ytfnjggefinkcaaa.Dp
open Go.RowKit RefP MemP
set_option linter.unusedVariables false
set_option linter.unusedSimpArgs false
/-- cells of a block behind a store of some -/
def sets' (cs : Array Value) : Nat → List Value → Array Value
  | _, [] => cs
  | o, v :: r => sets' (cs.setIfInBounds o v) (o + 1) r
theorem blk_sets' {b : Nat} {T : TypeId} : ∀ (vs : List Value) (o : Nat) (w : World) (cs : Array Value), Blk w b cs T → Blk (w.setCells b o vs) b (sets' cs o vs) T
  | [], _, _, _, h => h
  | v :: r, o, w, cs, h => blk_sets' r (o + 1) _ _ (h.set o v)
theorem fr_sets' {S : List Nat} {b : Nat} (hb : b ∈ S) : ∀ (vs : List Value) (o : Nat) (w : World), Fr S w (w.setCells b o vs)
  | [], _, _ => Fr.refl _ _
  | v :: r, o, w => ((Fr.refl _ _).set _ _ (.inl hb)).trans (fr_sets' hb r (o + 1) _)
theorem below_sets' {B b : Nat} {w0 : World} (hb : B ≤ b) : ∀ (vs : List Value) (o : Nat) (w : World), Below B w0 w → Below B w0 (w.setCells b o vs)
  | [], _, _, h => h
  | v :: r, o, w, h => below_sets' hb r (o + 1) _ (h.setCell (p := ⟨b, o, none⟩) hb v)
theorem there_blk' {w : World} {b o n : Nat} {cs : Array Value} {T : TypeId} (h : Blk w b cs T) (hn : o + n ≤ cs.size) : w.there b o n := fun j hj => by
  refine ⟨?_, h.free _⟩
  rw [h.at (o + j) (Array.getElem?_eq_getElem (show o + j < cs.size by omega))]; rfl
theorem range_sub {m n : Nat} {w : World} (h : m ≤ n) : ∀ b ∈ List.range m, b ∈ List.range n ∨ w.heap.size ≤ b := fun b hb => .inl (by simp at *; omega)
abbrev bkZ : Array Value := #[.int .i64 0, .int .i64 0, .string ⟨#[]⟩, .string ⟨#[]⟩, .bool false, .int .i64 0, .slice none 0 0, .slice none 0 0, .slice none 0 0, .int .i64 0, .int .i64 0, .string ⟨#[]⟩, .int .u64 0, .slice none 0 0, .slice none 0 0, .slice none 0 0, .slice none 0 0]
theorem sets_node (h : BlockH) (n : NodeH) (x : BlockV) : sets' (blockA h x) 1 (nodeA n x.node).toList = blockA ⟨n, h.plan, h.pairs⟩ x := by
  simp [sets', blockA, nodeA]
/-- few elements -/
structure Few (x : BlockV) : Prop where
  keys : x.node.keys.length ≤ 1000
  vals : x.node.vals.length ≤ 1000
  kids : x.node.kids.length ≤ 1000
  steps : x.plan.steps.length ≤ 1000
  extra : x.plan.extra.length ≤ 1000
  apairs : x.plan.ans.pairs.length ≤ 1000
  pairs : x.pairs.length ≤ 1000
set_option maxRecDepth 100000 in
set_option maxHeartbeats 3200000 in
theorem copied_any (S : List Nat) (h : BlockH) (x : BlockV) (w : World) (H : BlockOk w S h x) (hf : Few x) :
    Calls Try.prog 34 #[.agg (blockA h x)] w fun e w' => (∃ h', e = .returned (.agg (blockA h' x)) ∧ BlockOk w' (List.range w.heap.size) h' x) ∧ Below w.heap.size w w' := by
  have hb0 : Below w.heap.size w ((w.alloc (.cells (blockA h x) 35)).alloc (.cells bkZ 35)) := by (repeat (first | exact Below.refl _ _ | assumption | refine below_alloc2 ?_ (by first | exact Nat.le_refl _ | omega) _ | refine Below.drew ?_ | refine below_drewN ?_ _ | refine below_push2 ?_ ‹_› (by first | exact Nat.le_refl _ | omega) | refine Below.setCell ?_ (by first | (simp; done) | (simp; omega) | omega) _))
  have BB := (Blk.new w (blockA h x) 35).alloc (.cells bkZ 35)
  have BR : Blk ((w.alloc (.cells (blockA h x) 35)).alloc (.cells bkZ 35)) (w.heap.size + 1) bkZ 35 := by
    have := Blk.new (w.alloc (.cells (blockA h x) 35)) bkZ 35
    simpa using this
  go_enter Try.func34, Try.ntmps34
  go_wp2_with fail
  generalize ((w.alloc (.cells (blockA h x) 35)).alloc (.cells bkZ 35)) = w1 at hb0 BB BR ⊢
  have hl1 : w.heap.size + 2 ≤ w1.heap.size := BR.lt
  refine (show Calls _ _ _ _ _ from nclone_any S h.node x.node w1 (H.node.keep (Keeps.of_below hb0)) hf.keys hf.vals hf.kids).mono ?_
  rintro e w2 ⟨⟨n2, rfl, N2⟩, hb2⟩
  replace N2 := N2.more (S' := List.range (w.heap.size + 2)) (range_sub hl1)
  have BB2 := BB.below hb2
  have BR2 := BR.below hb2
  have hB2 := below_push2 hb0 hb2 (Nat.le_refl _)
  have hth := there_blk' (o := 1) (n := 8) BB2 (by simp)
  have hl2 := hb2.size
  clear hb0 BB BR hb2
  go_upto_region 2 with (refine wpList_store_mid rfl 27 _ _ rfl w.heap.size 1 (nodeA n2 x.node) rfl rfl hth (by kernel_rfl) (by kernel_rfl) ?_)
  have BB3 := blk_sets' (nodeA n2 x.node).toList 1 _ _ BB2
  rw [sets_node] at BB3
  have F3 := fr_sets' (S := [w.heap.size]) (b := w.heap.size) (by simp) (nodeA n2 x.node).toList 1 w2
  have BR3 := F3.blk BR2 (by simp)
  have hB3 := below_sets' (b := w.heap.size) (Nat.le_refl _) (nodeA n2 x.node).toList 1 _ hB2
  have N3 := N2.keep (F3.keeps.more (S' := List.range (w.heap.size + 2)) (by simp))
  clear F3 hth BB2 BR2 hB2 N2 hl2
  generalize w2.setCells w.heap.size 1 (nodeA n2 x.node).toList = w3 at BB3 BR3 hB3 N3 ⊢
  have c3 := BB3.at 14 rfl
  go_wp2_with fail
  have hl3 : w.heap.size + 2 ≤ w3.heap.size := BR3.lt
  refine (show Calls _ _ _ _ _ from clStep_any S h.plan.steps x.plan.steps w3 (H.plan.steps.keep (Keeps.of_below hB3)) hf.steps).mono ?_
  rintro e w4 ⟨⟨q4, rfl, R4⟩, hb4⟩
  have BB4 := BB3.below hb4
  have c4 := BB4.at 14 rfl
  have f4 := BB4.free 14
  have BB5 := BB4.set 14 (.slice q4.a x.plan.steps.length q4.c)
  rw [show (blockA _ x).setIfInBounds 14 (.slice q4.a x.plan.steps.length q4.c) = blockA ⟨n2, ⟨h.plan.pairs, q4, h.plan.extra⟩, h.pairs⟩ x from by simp [blockA]] at BB5
  have K4 := (Keeps.of_below (S := List.range (w.heap.size + 2)) hb4).trans (Keeps.set (S := List.range (w.heap.size + 2)) (w := w4) ⟨w.heap.size, 14, none⟩ (.slice q4.a x.plan.steps.length q4.c) (by simp))
  have Rq4 := R4.more (S' := List.range (w.heap.size + 2)) (range_sub hl3)
  replace Rq4 := Rq4.keep (Keeps.set (S := List.range (w.heap.size + 2)) (w := w4) ⟨w.heap.size, 14, none⟩ (.slice q4.a x.plan.steps.length q4.c) (by simp))
  have BR5 := (BR3.below hb4).far ⟨w.heap.size, 14, none⟩ (.slice q4.a x.plan.steps.length q4.c) (by simp)
  have hB5 := (below_push2 hB3 hb4 (Nat.le_refl _)).setCell (p := ⟨w.heap.size, 14, none⟩) (Nat.le_refl _) (.slice q4.a x.plan.steps.length q4.c)
  go_upto_region 3 with (fail)
  obtain ⟨w5, hw5⟩ : ∃ wz, wz = w4.setCell ⟨w.heap.size, 14, none⟩ (.slice q4.a x.plan.steps.length q4.c) := ⟨_, rfl⟩
  rw [← hw5] at BB5 K4 Rq4 BR5 hB5 ⊢
  clear c3 c4 f4 BB3 BB4 BR3 hB3 hb4 R4 hl3 hw5
  have N5 := N3.keep K4
  clear N3 K4
  have c5 := BB5.at 15 rfl
  go_wp2_with fail
  have hl5 : w.heap.size + 2 ≤ w5.heap.size := BR5.lt
  refine (show Calls _ _ _ _ _ from clU64_any S h.plan.extra x.plan.extra w5 (H.plan.extra.keep (Keeps.of_below hB5)) hf.extra).mono ?_
  rintro e w6 ⟨⟨q6, rfl, R6⟩, hb6⟩
  have BB6 := BB5.below hb6
  have c6 := BB6.at 15 rfl
  have f6 := BB6.free 15
  have BB7 := BB6.set 15 (.slice q6.a x.plan.extra.length q6.c)
  rw [show (blockA _ x).setIfInBounds 15 (.slice q6.a x.plan.extra.length q6.c) = blockA ⟨n2, ⟨h.plan.pairs, q4, q6⟩, h.pairs⟩ x from by simp [blockA]] at BB7
  have K6 := (Keeps.of_below (S := List.range (w.heap.size + 2)) hb6).trans (Keeps.set (S := List.range (w.heap.size + 2)) (w := w6) ⟨w.heap.size, 15, none⟩ (.slice q6.a x.plan.extra.length q6.c) (by simp))
  have Rq6 := R6.more (S' := List.range (w.heap.size + 2)) (range_sub hl5)
  replace Rq6 := Rq6.keep (Keeps.set (S := List.range (w.heap.size + 2)) (w := w6) ⟨w.heap.size, 15, none⟩ (.slice q6.a x.plan.extra.length q6.c) (by simp))
  have BR7 := (BR5.below hb6).far ⟨w.heap.size, 15, none⟩ (.slice q6.a x.plan.extra.length q6.c) (by simp)
  have hB7 := (below_push2 hB5 hb6 (Nat.le_refl _)).setCell (p := ⟨w.heap.size, 15, none⟩) (Nat.le_refl _) (.slice q6.a x.plan.extra.length q6.c)
  go_upto_region 4 with (fail)
  obtain ⟨w7, hw7⟩ : ∃ wz, wz = w6.setCell ⟨w.heap.size, 15, none⟩ (.slice q6.a x.plan.extra.length q6.c) := ⟨_, rfl⟩
  rw [← hw7] at BB7 K6 Rq6 BR7 hB7 ⊢
  clear c5 c6 f6 BB5 BB6 BR5 hB5 hb6 R6 hl5 hw7
  have N7 := N5.keep K6
  have Rq47 := Rq4.keep K6
  clear N5 Rq4 K6
  have c7 := BB7.at 13 rfl
  go_wp2_with fail
  have hl7 : w.heap.size + 2 ≤ w7.heap.size := BR7.lt
  refine (show Calls _ _ _ _ _ from clPair_any S h.plan.pairs x.plan.ans.pairs w7 (H.plan.ans.pairs.keep (Keeps.of_below hB7)) hf.apairs).mono ?_
  rintro e w8 ⟨⟨q8, rfl, R8⟩, hb8⟩
  have BB8 := BB7.below hb8
  have c8 := BB8.at 13 rfl
  have f8 := BB8.free 13
  have BB9 := BB8.set 13 (.slice q8.a x.plan.ans.pairs.length q8.c)
  rw [show (blockA _ x).setIfInBounds 13 (.slice q8.a x.plan.ans.pairs.length q8.c) = blockA ⟨n2, ⟨q8, q4, q6⟩, h.pairs⟩ x from by simp [blockA]] at BB9
  have K8 := (Keeps.of_below (S := List.range (w.heap.size + 2)) hb8).trans (Keeps.set (S := List.range (w.heap.size + 2)) (w := w8) ⟨w.heap.size, 13, none⟩ (.slice q8.a x.plan.ans.pairs.length q8.c) (by simp))
  have Rq8 := R8.more (S' := List.range (w.heap.size + 2)) (range_sub hl7)
  replace Rq8 := Rq8.keep (Keeps.set (S := List.range (w.heap.size + 2)) (w := w8) ⟨w.heap.size, 13, none⟩ (.slice q8.a x.plan.ans.pairs.length q8.c) (by simp))
  have BR9 := (BR7.below hb8).far ⟨w.heap.size, 13, none⟩ (.slice q8.a x.plan.ans.pairs.length q8.c) (by simp)
  have hB9 := (below_push2 hB7 hb8 (Nat.le_refl _)).setCell (p := ⟨w.heap.size, 13, none⟩) (Nat.le_refl _) (.slice q8.a x.plan.ans.pairs.length q8.c)
  go_upto_region 5 with (fail)
  obtain ⟨w9, hw9⟩ : ∃ wz, wz = w8.setCell ⟨w.heap.size, 13, none⟩ (.slice q8.a x.plan.ans.pairs.length q8.c) := ⟨_, rfl⟩
  rw [← hw9] at BB9 K8 Rq8 BR9 hB9 ⊢
  clear c7 c8 f8 BB7 BB8 BR7 hB7 hb8 R8 hl7 hw9
  have N9 := N7.keep K8
  have Rq49 := Rq47.keep K8
  have Rq69 := Rq6.keep K8
  clear N7 Rq47 Rq6 K8
  have c9 := BB9.at 16 rfl
  go_wp2_with fail
  have hl9 : w.heap.size + 2 ≤ w9.heap.size := BR9.lt
  refine (show Calls _ _ _ _ _ from clPair_any S h.pairs x.pairs w9 (H.pairs.keep (Keeps.of_below hB9)) hf.pairs).mono ?_
  rintro e w10 ⟨⟨q10, rfl, R10⟩, hb10⟩
  have BB10 := BB9.below hb10
  have c10 := BB10.at 16 rfl
  have f10 := BB10.free 16
  have BB11 := BB10.set 16 (.slice q10.a x.pairs.length q10.c)
  rw [show (blockA _ x).setIfInBounds 16 (.slice q10.a x.pairs.length q10.c) = blockA ⟨n2, ⟨q8, q4, q6⟩, q10⟩ x from by simp [blockA]] at BB11
  have K10 := (Keeps.of_below (S := List.range (w.heap.size + 2)) hb10).trans (Keeps.set (S := List.range (w.heap.size + 2)) (w := w10) ⟨w.heap.size, 16, none⟩ (.slice q10.a x.pairs.length q10.c) (by simp))
  have Rq10 := R10.more (S' := List.range (w.heap.size + 2)) (range_sub hl9)
  replace Rq10 := Rq10.keep (Keeps.set (S := List.range (w.heap.size + 2)) (w := w10) ⟨w.heap.size, 16, none⟩ (.slice q10.a x.pairs.length q10.c) (by simp))
  have BR11 := (BR9.below hb10).far ⟨w.heap.size, 16, none⟩ (.slice q10.a x.pairs.length q10.c) (by simp)
  have hB11 := (below_push2 hB9 hb10 (Nat.le_refl _)).setCell (p := ⟨w.heap.size, 16, none⟩) (Nat.le_refl _) (.slice q10.a x.pairs.length q10.c)
  go_upto_region 6 with (fail)
  obtain ⟨w11, hw11⟩ : ∃ wz, wz = w10.setCell ⟨w.heap.size, 16, none⟩ (.slice q10.a x.pairs.length q10.c) := ⟨_, rfl⟩
  rw [← hw11] at BB11 K10 Rq10 BR11 hB11 ⊢
  clear c9 c10 f10 BB9 BB10 BR9 hB9 hb10 R10 hl9 hw11
  have N11 := N9.keep K10
  have Rq411 := Rq49.keep K10
  have Rq611 := Rq69.keep K10
  have Rq811 := Rq8.keep K10
  clear N9 Rq49 Rq69 Rq8 K10
  go_wp2_with (first
    | (refine wpList_load_row rfl 35 _ rfl w.heap.size rfl 35 _ (0, 0) _ BB11.h Try.underlying35 rfl (by kernel_rfl) ?_)
    | (refine wpList_store_row rfl 35 _ _ rfl (w.heap.size + 1) _ rfl rfl 35 _ BR11.h (by kernel_rfl) (by rfl) (by kernel_rfl) ?_))
  generalize hh : (⟨n2, ⟨q8, q4, q6⟩, q10⟩ : BlockH) = h' at BB11
  have FR := Fr.row (S := [w.heap.size + 1]) (w := w11) (w.heap.size + 1) (blockA h' x) (by simp)
  have KR := FR.keeps.more (S' := List.range (w.heap.size + 2)) (by simp)
  refine bodyPost_ret (results_cell_row rfl _ _ (w.heap.size + 1) 35 (blockA h' x) (0, 0) _ rfl (Blk.row BR11 (blockA h' x)).h Try.underlying35 rfl (by kernel_rfl)) rfl ⟨⟨h', rfl, ?_⟩, below_setRow hB11 (by omega) _⟩
  refine BlockOk.more (S := List.range (w.heap.size + 2)) ?_ (range_sub (by omega))
  subst hh
  exact ⟨H.kind, N11.keep KR, ⟨H.plan.thread, ⟨H.plan.ans.code, H.plan.ans.key, H.plan.ans.val, Rq811.keep KR⟩, Rq411.keep KR, Rq611.keep KR⟩, Rq10.keep KR⟩
end Go.Proofs.Ytfnjggefinkcaaa.Dp
