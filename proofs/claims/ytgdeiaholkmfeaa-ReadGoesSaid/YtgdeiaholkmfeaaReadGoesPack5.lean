/-
  read: Next, Tell, Known in any state, with any reply: contracts.
-/
import Derived.Test.YtgdeiaholkmfeaaRows
import Derived.SizedLaws
import Derived.Lib.QuietBelow
import Derived.BigQuiet
import Derived.Test.YtgdeiaholkmfeaaReadGoesPack4

namespace Go.Proofs.Ytgdeiaholkmfeaa.MemP
open Go.RowKit RefP CellP Dp
set_option linter.unusedVariables false
set_option linter.unusedSimpArgs false
set_option maxRecDepth 100000 in
set_option maxHeartbeats 3200000 in
theorem rdTell_0no {o oc g gb gr A T : Nat} {L : List (Int × Int)} {bs rs : List (List Value)} (t : Nat) (th : Int) (su : Bool) (cell word ver : Int) (n0 n1 n2 n3 n4 n5 n6 n7 : Value) (w : World) (h : MemAt w o oc g gb gr A T L bs rs) (t0 : 0 ≤ th) (t1 : th < T) (l0 : 0 ≤ cell) (l1 : cell < A) (hdis : ¬ o = t ∧ ¬ oc = t ∧ ¬ g = t ∧ ¬ gb = t ∧ ¬ gr = t) (B : Blk w t (rdA (some ⟨o, 0, none⟩) th 0 0 su cell word ver n0 n1 n2 n3 n4 n5 n6 n7) 70) (ok : Bool) (x v : Int) (x0 : 0 ≤ x) (x1 : x ≤ 18446744073709551615) (ho : opensB x = false) :
    Calls Try.prog 17 #[.pointer (some ⟨t, 0, none⟩), .agg #[.bool ok, .int .u64 x, .int .u64 v, .int .i64 0, .int .i64 0, .string ⟨#[]⟩, .string ⟨#[]⟩, .bool false, .int .i64 0, .slice none 0 0, .slice none 0 0, .slice none 0 0, .int .i64 0, .int .i64 0, .string ⟨#[]⟩, .int .u64 0, .slice none 0 0, .slice none 0 0, .slice none 0 0, .slice none 0 0, .int .i64 0, .string ⟨#[]⟩, .string ⟨#[]⟩, .int .u64 0, .int .i64 0]] w fun e w' => e = .returned (.tuple #[]) ∧ Blk w' t (rdA (some ⟨o, 0, none⟩) th 1 1 false cell x v n0 n1 n2 n3 n4 n5 n6 n7) 70 ∧ Fr [t] w w' := by
  have hb0 : Below w.heap.size w ((w.alloc (.cells #[.pointer (some ⟨t, 0, none⟩)] 48)).alloc (.cells (#[.bool ok, .int .u64 x, .int .u64 v, .int .i64 0, .int .i64 0, .string ⟨#[]⟩, .string ⟨#[]⟩, .bool false, .int .i64 0, .slice none 0 0, .slice none 0 0, .slice none 0 0, .int .i64 0, .int .i64 0, .string ⟨#[]⟩, .int .u64 0, .slice none 0 0, .slice none 0 0, .slice none 0 0, .slice none 0 0, .int .i64 0, .string ⟨#[]⟩, .string ⟨#[]⟩, .int .u64 0, .int .i64 0]) 46)) := by (repeat (first | exact Below.refl _ _ | assumption | refine below_alloc2 ?_ (by first | exact Nat.le_refl _ | omega) _ | refine Below.drew ?_ | refine below_drewN ?_ _ | refine below_push2 ?_ ‹_› (by first | exact Nat.le_refl _ | omega) | refine Below.setCell ?_ (by first | (simp; done) | (simp; omega) | omega) _))
  have BP := (Blk.new w #[.pointer (some ⟨t, 0, none⟩)] 48).alloc (.cells (#[.bool ok, .int .u64 x, .int .u64 v, .int .i64 0, .int .i64 0, .string ⟨#[]⟩, .string ⟨#[]⟩, .bool false, .int .i64 0, .slice none 0 0, .slice none 0 0, .slice none 0 0, .int .i64 0, .int .i64 0, .string ⟨#[]⟩, .int .u64 0, .slice none 0 0, .slice none 0 0, .slice none 0 0, .slice none 0 0, .int .i64 0, .string ⟨#[]⟩, .string ⟨#[]⟩, .int .u64 0, .int .i64 0]) 46)
  have BQ : Blk ((w.alloc (.cells #[.pointer (some ⟨t, 0, none⟩)] 48)).alloc (.cells (#[.bool ok, .int .u64 x, .int .u64 v, .int .i64 0, .int .i64 0, .string ⟨#[]⟩, .string ⟨#[]⟩, .bool false, .int .i64 0, .slice none 0 0, .slice none 0 0, .slice none 0 0, .int .i64 0, .int .i64 0, .string ⟨#[]⟩, .int .u64 0, .slice none 0 0, .slice none 0 0, .slice none 0 0, .slice none 0 0, .int .i64 0, .string ⟨#[]⟩, .string ⟨#[]⟩, .int .u64 0, .int .i64 0]) 46)) (w.heap.size + 1) (#[.bool ok, .int .u64 x, .int .u64 v, .int .i64 0, .int .i64 0, .string ⟨#[]⟩, .string ⟨#[]⟩, .bool false, .int .i64 0, .slice none 0 0, .slice none 0 0, .slice none 0 0, .int .i64 0, .int .i64 0, .string ⟨#[]⟩, .int .u64 0, .slice none 0 0, .slice none 0 0, .slice none 0 0, .slice none 0 0, .int .i64 0, .string ⟨#[]⟩, .string ⟨#[]⟩, .int .u64 0, .int .i64 0]) 46 := by
    have := Blk.new (w.alloc (.cells #[.pointer (some ⟨t, 0, none⟩)] 48)) (#[.bool ok, .int .u64 x, .int .u64 v, .int .i64 0, .int .i64 0, .string ⟨#[]⟩, .string ⟨#[]⟩, .bool false, .int .i64 0, .slice none 0 0, .slice none 0 0, .slice none 0 0, .int .i64 0, .int .i64 0, .string ⟨#[]⟩, .int .u64 0, .slice none 0 0, .slice none 0 0, .slice none 0 0, .slice none 0 0, .int .i64 0, .string ⟨#[]⟩, .string ⟨#[]⟩, .int .u64 0, .int .i64 0]) 46
    simpa using this
  have hlt := B.lt
  have h1 := h.below hb0
  have B1 := B.below hb0
  go_enter Try.func17, Try.ntmps17
  go_upto_region 1 with (fail)
  generalize ((w.alloc (.cells #[.pointer (some ⟨t, 0, none⟩)] 48)).alloc (.cells (#[.bool ok, .int .u64 x, .int .u64 v, .int .i64 0, .int .i64 0, .string ⟨#[]⟩, .string ⟨#[]⟩, .bool false, .int .i64 0, .slice none 0 0, .slice none 0 0, .slice none 0 0, .int .i64 0, .int .i64 0, .string ⟨#[]⟩, .int .u64 0, .slice none 0 0, .slice none 0 0, .slice none 0 0, .slice none 0 0, .int .i64 0, .string ⟨#[]⟩, .string ⟨#[]⟩, .int .u64 0, .int .i64 0]) 46)) = w1 at hb0 BP BQ h1 B1 ⊢
  have p0 := BP.at 0 rfl
  have c4 := B1.at 4 rfl
  have f4 := B1.free 4
  have hmo := h.head.lt
  have F2 : Fr [t] w1 (w1.setCell ⟨t, 4, none⟩ (.bool false)) := (Fr.refl _ _).set _ _ (.inl (by simp))
  have B2 := B1.set 4 (.bool false)
  have BP2 := F2.blk BP (by simp; omega)
  have BQ2 := F2.blk BQ (by simp; omega)
  have h2 := h1.off F2 (by simp; exact hdis)
  have p2 := BP2.at 0 rfl
  go_wp2_with fail
  generalize w1.setCell ⟨t, 4, none⟩ (.bool false) = w2 at F2 B2 BP2 BQ2 h2 p2 ⊢
  have B2' : Blk w2 t (rdA (some ⟨o, 0, none⟩) th 0 0 false cell word ver n0 n1 n2 n3 n4 n5 n6 n7) 70 := by simpa [rdA] using B2
  refine (rdNext_0 t th false cell word ver n0 n1 n2 n3 n4 n5 n6 n7 _ h2 B2' t0 t1 l0 l1).mono ?_
  rintro e w3 ⟨rfl, hb3⟩
  have hb4 := (below_push2 (Below.refl _ w2) hb3 (Nat.le_refl _)).alloc hb3.size (.cells (accY 1 (atI A T 0 cell) 0 0) 44)
  have B3 := B2'.below hb4
  have BP3 := BP2.below hb4
  have BQ3 := BQ2.below hb4
  have F3 : Fr [t] w (w3.alloc (.cells (accY 1 (atI A T 0 cell) 0 0) 44)) := ((Fr.of_below hb0).trans F2).trans (Fr.of_below hb4)
  clear p0 c4 f4 F2 B2 B2' BP2 BQ2 p2 h1 B1 BP BQ hb3 hb4 hb0
  generalize hW : w3.alloc (.cells (accY 1 (atI A T 0 cell) 0 0) 44) = w4 at B3 BP3 BQ3 F3
  replace hW := Lib.hid hW
  have p0 := BP3.at 0 rfl
  have c2 := B3.at 2 rfl
  have c3 := B3.at 3 rfl
  have c4 := B3.at 4 rfl
  have c6 := B3.at 6 rfl
  have c7 := B3.at 7 rfl
  have f2 := B3.free 2
  have f3 := B3.free 3
  have f4 := B3.free 4
  have f6 := B3.free 6
  have f7 := B3.free 7
  have r0 := BQ3.at 0 rfl
  have r1 := BQ3.at 1 rfl
  have r2 := BQ3.at 2 rfl
  go_wp2_with (refine wpList_store_row rfl 44 _ _ rfl _ _ rfl rfl 44 _ (Blk.new w3 _ _).h (by kernel_rfl) (by rfl) (by kernel_rfl) ?_; rw [World.setRow_alloc_new, hW.out])
  refine (open_any x _ x0 x1).mono ?_
  rw [ho]
  rintro e w5 ⟨rfl, hb5⟩
  replace B3 := B3.below hb5
  replace BP3 := BP3.below hb5
  replace BQ3 := BQ3.below hb5
  replace F3 := F3.trans (Fr.of_below hb5)
  clear p0 c2 c3 c4 c6 c7 f2 f3 f4 f6 f7 r0 r1 r2 hW hb5
  have p0 := BP3.at 0 rfl
  have hn1 : ¬ t = w.heap.size := by omega
  have hn2 : ¬ t = w.heap.size + 1 := by omega
  have hn3 : ¬ w.heap.size = t := by omega
  have hn4 : ¬ w.heap.size + 1 = t := by omega
  go_wp2_with fail
  refine (rdEnd_yes _ t 1 0 _ (BP3.at 0 rfl) (B3.at 3 rfl) (B3.free 3)).mono ?_
  rintro e w6 ⟨rfl, rfl⟩
  have BG := B3.set 3 (.int .i64 1)
  have FG : Fr [t] w5 (w5.setCell ⟨t, 3, none⟩ (.int .i64 1)) := (Fr.refl _ _).set _ _ (.inl (by simp))
  have BP6 := FG.blk BP3 (by simp; omega)
  have BQ6 := FG.blk BQ3 (by simp; omega)
  generalize w5.setCell ⟨t, 3, none⟩ (.int .i64 1) = w6 at BG FG BP6 BQ6 ⊢
  clear p0
  have p0 := BP6.at 0 rfl
  have c2 := BG.at 2 rfl
  have c6 := BG.at 6 rfl
  have c7 := BG.at 7 rfl
  have f2 := BG.free 2
  have f6 := BG.free 6
  have f7 := BG.free 7
  have r1 := BQ6.at 1 rfl
  have r2 := BQ6.at 2 rfl
  go_upto_region 10 with (fail)
  go_region
  all_goals
    go_wp2_with fail
    go_end0
    have FF : Fr [t] w6 (((w6.setCell ⟨t, 6, none⟩ (.int .u64 x)).setCell ⟨t, 7, none⟩ (.int .u64 v)).setCell ⟨t, 2, none⟩ (.int .i64 1)) := (((Fr.refl _ _).set _ _ (.inl (by simp))).set _ _ (.inl (by simp))).set _ _ (.inl (by simp))
    have BF : Blk (((w6.setCell ⟨t, 6, none⟩ (.int .u64 x)).setCell ⟨t, 7, none⟩ (.int .u64 v)).setCell ⟨t, 2, none⟩ (.int .i64 1)) t (rdA (some ⟨o, 0, none⟩) th 1 1 false cell x v n0 n1 n2 n3 n4 n5 n6 n7) 70 := by
      simpa [rdA] using ((BG.set 6 (.int .u64 x)).set 7 (.int .u64 v)).set 2 (.int .i64 1)
    exact ⟨rfl, BF.drew, ((F3.trans FG).trans FF).trans (Fr.of_below (Below.refl _ _).drew)⟩
set_option maxRecDepth 100000 in
set_option maxHeartbeats 3200000 in
theorem rdTell_2no {o oc g gb gr A T : Nat} {L : List (Int × Int)} {bs rs : List (List Value)} (t : Nat) (th : Int) (su : Bool) (cell word ver : Int) (n0 n1 n2 n3 n4 n5 n6 n7 : Value) (w : World) (h : MemAt w o oc g gb gr A T L bs rs) (t0 : 0 ≤ th) (t1 : th < T) (l0 : 0 ≤ cell) (l1 : cell < A) (hdis : ¬ o = t ∧ ¬ oc = t ∧ ¬ g = t ∧ ¬ gb = t ∧ ¬ gr = t) (B : Blk w t (rdA (some ⟨o, 0, none⟩) th 2 0 su cell word ver n0 n1 n2 n3 n4 n5 n6 n7) 70) (ok : Bool) (x v : Int) (hv : v ≠ ver) :
    Calls Try.prog 17 #[.pointer (some ⟨t, 0, none⟩), .agg #[.bool ok, .int .u64 x, .int .u64 v, .int .i64 0, .int .i64 0, .string ⟨#[]⟩, .string ⟨#[]⟩, .bool false, .int .i64 0, .slice none 0 0, .slice none 0 0, .slice none 0 0, .int .i64 0, .int .i64 0, .string ⟨#[]⟩, .int .u64 0, .slice none 0 0, .slice none 0 0, .slice none 0 0, .slice none 0 0, .int .i64 0, .string ⟨#[]⟩, .string ⟨#[]⟩, .int .u64 0, .int .i64 0]] w fun e w' => e = .returned (.tuple #[]) ∧ Blk w' t (rdA (some ⟨o, 0, none⟩) th 3 2 false cell word ver n0 n1 n2 n3 n4 n5 n6 n7) 70 ∧ Fr [t] w w' := by
  have hn1 : ¬ t = w.heap.size := by have := B.lt; omega
  have hn2 : ¬ t = w.heap.size + 1 := by have := B.lt; omega
  have hn3 : ¬ w.heap.size = t := by have := B.lt; omega
  have hn4 : ¬ w.heap.size + 1 = t := by have := B.lt; omega
  have v1 : (v == ver) = false := by simpa using hv
  have hb0 : Below w.heap.size w ((w.alloc (.cells #[.pointer (some ⟨t, 0, none⟩)] 48)).alloc (.cells (#[.bool ok, .int .u64 x, .int .u64 v, .int .i64 0, .int .i64 0, .string ⟨#[]⟩, .string ⟨#[]⟩, .bool false, .int .i64 0, .slice none 0 0, .slice none 0 0, .slice none 0 0, .int .i64 0, .int .i64 0, .string ⟨#[]⟩, .int .u64 0, .slice none 0 0, .slice none 0 0, .slice none 0 0, .slice none 0 0, .int .i64 0, .string ⟨#[]⟩, .string ⟨#[]⟩, .int .u64 0, .int .i64 0]) 46)) := by (repeat (first | exact Below.refl _ _ | assumption | refine below_alloc2 ?_ (by first | exact Nat.le_refl _ | omega) _ | refine Below.drew ?_ | refine below_drewN ?_ _ | refine below_push2 ?_ ‹_› (by first | exact Nat.le_refl _ | omega) | refine Below.setCell ?_ (by first | (simp; done) | (simp; omega) | omega) _))
  have BP := (Blk.new w #[.pointer (some ⟨t, 0, none⟩)] 48).alloc (.cells (#[.bool ok, .int .u64 x, .int .u64 v, .int .i64 0, .int .i64 0, .string ⟨#[]⟩, .string ⟨#[]⟩, .bool false, .int .i64 0, .slice none 0 0, .slice none 0 0, .slice none 0 0, .int .i64 0, .int .i64 0, .string ⟨#[]⟩, .int .u64 0, .slice none 0 0, .slice none 0 0, .slice none 0 0, .slice none 0 0, .int .i64 0, .string ⟨#[]⟩, .string ⟨#[]⟩, .int .u64 0, .int .i64 0]) 46)
  have BQ : Blk ((w.alloc (.cells #[.pointer (some ⟨t, 0, none⟩)] 48)).alloc (.cells (#[.bool ok, .int .u64 x, .int .u64 v, .int .i64 0, .int .i64 0, .string ⟨#[]⟩, .string ⟨#[]⟩, .bool false, .int .i64 0, .slice none 0 0, .slice none 0 0, .slice none 0 0, .int .i64 0, .int .i64 0, .string ⟨#[]⟩, .int .u64 0, .slice none 0 0, .slice none 0 0, .slice none 0 0, .slice none 0 0, .int .i64 0, .string ⟨#[]⟩, .string ⟨#[]⟩, .int .u64 0, .int .i64 0]) 46)) (w.heap.size + 1) (#[.bool ok, .int .u64 x, .int .u64 v, .int .i64 0, .int .i64 0, .string ⟨#[]⟩, .string ⟨#[]⟩, .bool false, .int .i64 0, .slice none 0 0, .slice none 0 0, .slice none 0 0, .int .i64 0, .int .i64 0, .string ⟨#[]⟩, .int .u64 0, .slice none 0 0, .slice none 0 0, .slice none 0 0, .slice none 0 0, .int .i64 0, .string ⟨#[]⟩, .string ⟨#[]⟩, .int .u64 0, .int .i64 0]) 46 := by
    have := Blk.new (w.alloc (.cells #[.pointer (some ⟨t, 0, none⟩)] 48)) (#[.bool ok, .int .u64 x, .int .u64 v, .int .i64 0, .int .i64 0, .string ⟨#[]⟩, .string ⟨#[]⟩, .bool false, .int .i64 0, .slice none 0 0, .slice none 0 0, .slice none 0 0, .int .i64 0, .int .i64 0, .string ⟨#[]⟩, .int .u64 0, .slice none 0 0, .slice none 0 0, .slice none 0 0, .slice none 0 0, .int .i64 0, .string ⟨#[]⟩, .string ⟨#[]⟩, .int .u64 0, .int .i64 0]) 46
    simpa using this
  have hlt := B.lt
  have h1 := h.below hb0
  have B1 := B.below hb0
  go_enter Try.func17, Try.ntmps17
  go_upto_region 1 with (fail)
  generalize ((w.alloc (.cells #[.pointer (some ⟨t, 0, none⟩)] 48)).alloc (.cells (#[.bool ok, .int .u64 x, .int .u64 v, .int .i64 0, .int .i64 0, .string ⟨#[]⟩, .string ⟨#[]⟩, .bool false, .int .i64 0, .slice none 0 0, .slice none 0 0, .slice none 0 0, .int .i64 0, .int .i64 0, .string ⟨#[]⟩, .int .u64 0, .slice none 0 0, .slice none 0 0, .slice none 0 0, .slice none 0 0, .int .i64 0, .string ⟨#[]⟩, .string ⟨#[]⟩, .int .u64 0, .int .i64 0]) 46)) = w1 at hb0 BP BQ h1 B1 ⊢
  have p0 := BP.at 0 rfl
  have c4 := B1.at 4 rfl
  have f4 := B1.free 4
  have hmo := h.head.lt
  have F2 : Fr [t] w1 (w1.setCell ⟨t, 4, none⟩ (.bool false)) := (Fr.refl _ _).set _ _ (.inl (by simp))
  have B2 := B1.set 4 (.bool false)
  have BP2 := F2.blk BP (by simp; omega)
  have BQ2 := F2.blk BQ (by simp; omega)
  have h2 := h1.off F2 (by simp; exact hdis)
  have p2 := BP2.at 0 rfl
  go_wp2_with fail
  generalize w1.setCell ⟨t, 4, none⟩ (.bool false) = w2 at F2 B2 BP2 BQ2 h2 p2 ⊢
  have B2' : Blk w2 t (rdA (some ⟨o, 0, none⟩) th 2 0 false cell word ver n0 n1 n2 n3 n4 n5 n6 n7) 70 := by simpa [rdA] using B2
  refine (rdNext_2 t th false cell word ver n0 n1 n2 n3 n4 n5 n6 n7 _ h2 B2' t0 t1 l0 l1).mono ?_
  rintro e w3 ⟨rfl, hb3⟩
  have hb4 := (below_push2 (Below.refl _ w2) hb3 (Nat.le_refl _)).alloc hb3.size (.cells (accY 1 (atI A T 0 cell) 0 0) 44)
  have B3 := B2'.below hb4
  have BP3 := BP2.below hb4
  have BQ3 := BQ2.below hb4
  have F3 : Fr [t] w (w3.alloc (.cells (accY 1 (atI A T 0 cell) 0 0) 44)) := ((Fr.of_below hb0).trans F2).trans (Fr.of_below hb4)
  clear p0 c4 f4 F2 B2 B2' BP2 BQ2 p2 h1 B1 BP BQ hb3 hb4 hb0
  generalize hW : w3.alloc (.cells (accY 1 (atI A T 0 cell) 0 0) 44) = w4 at B3 BP3 BQ3 F3
  replace hW := Lib.hid hW
  have p0 := BP3.at 0 rfl
  have c2 := B3.at 2 rfl
  have c3 := B3.at 3 rfl
  have c4 := B3.at 4 rfl
  have c6 := B3.at 6 rfl
  have c7 := B3.at 7 rfl
  have f2 := B3.free 2
  have f3 := B3.free 3
  have f4 := B3.free 4
  have f6 := B3.free 6
  have f7 := B3.free 7
  have r0 := BQ3.at 0 rfl
  have r1 := BQ3.at 1 rfl
  have r2 := BQ3.at 2 rfl
  go_upto_region 12 with (refine wpList_store_row rfl 44 _ _ rfl _ _ rfl rfl 44 _ (Blk.new w3 _ _).h (by kernel_rfl) (by rfl) (by kernel_rfl) ?_; rw [World.setRow_alloc_new, hW.out])
  go_region
  all_goals
    have BG := B3.set 4 (.bool false)
    have FG : Fr [t] w4 (w4.setCell ⟨t, 4, none⟩ (.bool false)) := (Fr.refl _ _).set _ _ (.inl (by simp))
    have BP5 := FG.blk BP3 (by simp; omega)
    have BQ5 := FG.blk BQ3 (by simp; omega)
    go_wp2_with fail
    refine (rdEnd_yes _ t 2 0 _ (BP5.drew.at 0 rfl) (BG.drew.at 3 rfl) (BG.drew.free 3)).mono ?_
    rintro e w6 ⟨rfl, rfl⟩
    go_wp2_with fail
    go_end0
    have FF : Fr [t] w4 (((w4.setCell ⟨t, 4, none⟩ (.bool false)).drew.setCell ⟨t, 3, none⟩ (.int .i64 2)).setCell ⟨t, 2, none⟩ (.int .i64 3)) := ((FG.trans (Fr.of_below (Below.refl _ _).drew)).set _ _ (.inl (by simp))).set _ _ (.inl (by simp))
    have BF : Blk (((w4.setCell ⟨t, 4, none⟩ (.bool false)).drew.setCell ⟨t, 3, none⟩ (.int .i64 2)).setCell ⟨t, 2, none⟩ (.int .i64 3)) t (rdA (some ⟨o, 0, none⟩) th 3 2 false cell word ver n0 n1 n2 n3 n4 n5 n6 n7) 70 := by
      simpa [rdA] using (BG.drew.set 3 (.int .i64 2)).set 2 (.int .i64 3)
    exact ⟨rfl, BF, F3.trans FF⟩
set_option maxRecDepth 100000 in
set_option maxHeartbeats 3200000 in
theorem rdTell_3got {o oc g gb gr A T : Nat} {L : List (Int × Int)} {bs rs : List (List Value)} (t : Nat) (th : Int) (su : Bool) (cell word ver : Int) (n0 n1 n2 n3 n4 n5 n6 n7 : Value) (w : World) (h : MemAt w o oc g gb gr A T L bs rs) (t0 : 0 ≤ th) (t1 : th < T) (l0 : 0 ≤ cell) (l1 : cell < A) (hdis : ¬ o = t ∧ ¬ oc = t ∧ ¬ g = t ∧ ¬ gb = t ∧ ¬ gr = t) (B : Blk w t (rdA (some ⟨o, 0, none⟩) th 3 0 su cell word ver n0 n1 n2 n3 n4 n5 n6 n7) 70) (q : BlockH) (r : ReplyV) (hr : r.ok = true ∧ r.block.kind = 1) :
    Calls Try.prog 17 #[.pointer (some ⟨t, 0, none⟩), .agg (repA q r)] w fun e w' => e = .returned (.tuple #[]) ∧ Blk w' t (rdA (some ⟨o, 0, none⟩) th 4 4 false cell word ver (.int .i64 r.block.node.level) (.string r.block.node.low) (.string r.block.node.high) (.bool r.block.node.last) (.int .i64 r.block.node.next) (.slice q.node.keys.a r.block.node.keys.length q.node.keys.c) (.slice q.node.vals.a r.block.node.vals.length q.node.vals.c) (.slice q.node.kids.a r.block.node.kids.length q.node.kids.c)) 70 ∧ Fr [t] w w' := by
  obtain ⟨hr1, hr2⟩ := hr
  have hn1 : ¬ t = w.heap.size := by have := B.lt; omega
  have hn2 : ¬ t = w.heap.size + 1 := by have := B.lt; omega
  have hn3 : ¬ w.heap.size = t := by have := B.lt; omega
  have hn4 : ¬ w.heap.size + 1 = t := by have := B.lt; omega
  have hb0 : Below w.heap.size w ((w.alloc (.cells #[.pointer (some ⟨t, 0, none⟩)] 48)).alloc (.cells (repA q r) 46)) := by (repeat (first | exact Below.refl _ _ | assumption | refine below_alloc2 ?_ (by first | exact Nat.le_refl _ | omega) _ | refine Below.drew ?_ | refine below_drewN ?_ _ | refine below_push2 ?_ ‹_› (by first | exact Nat.le_refl _ | omega) | refine Below.setCell ?_ (by first | (simp; done) | (simp; omega) | omega) _))
  have BP := (Blk.new w #[.pointer (some ⟨t, 0, none⟩)] 48).alloc (.cells (repA q r) 46)
  have BQ : Blk ((w.alloc (.cells #[.pointer (some ⟨t, 0, none⟩)] 48)).alloc (.cells (repA q r) 46)) (w.heap.size + 1) (repA q r) 46 := by
    have := Blk.new (w.alloc (.cells #[.pointer (some ⟨t, 0, none⟩)] 48)) (repA q r) 46
    simpa using this
  have hlt := B.lt
  have h1 := h.below hb0
  have B1 := B.below hb0
  go_enter Try.func17, Try.ntmps17
  go_upto_region 1 with (fail)
  generalize ((w.alloc (.cells #[.pointer (some ⟨t, 0, none⟩)] 48)).alloc (.cells (repA q r) 46)) = w1 at hb0 BP BQ h1 B1 ⊢
  have p0 := BP.at 0 rfl
  have c4 := B1.at 4 rfl
  have f4 := B1.free 4
  have hmo := h.head.lt
  have F2 : Fr [t] w1 (w1.setCell ⟨t, 4, none⟩ (.bool false)) := (Fr.refl _ _).set _ _ (.inl (by simp))
  have B2 := B1.set 4 (.bool false)
  have BP2 := F2.blk BP (by simp; omega)
  have BQ2 := F2.blk BQ (by simp; omega)
  have h2 := h1.off F2 (by simp; exact hdis)
  have p2 := BP2.at 0 rfl
  go_wp2_with fail
  generalize w1.setCell ⟨t, 4, none⟩ (.bool false) = w2 at F2 B2 BP2 BQ2 h2 p2 ⊢
  have B2' : Blk w2 t (rdA (some ⟨o, 0, none⟩) th 3 0 false cell word ver n0 n1 n2 n3 n4 n5 n6 n7) 70 := by simpa [rdA] using B2
  refine (rdNext_3 t th false cell word ver n0 n1 n2 n3 n4 n5 n6 n7 _ h2 B2' t0 t1 l0 l1).mono ?_
  rintro e w3 ⟨rfl, hb3⟩
  have hb4 := (below_push2 (Below.refl _ w2) hb3 (Nat.le_refl _)).alloc hb3.size (.cells (accY 4 0 0 word) 44)
  have B3 := B2'.below hb4
  have BP3 := BP2.below hb4
  have BQ3 := BQ2.below hb4
  have F3 : Fr [t] w (w3.alloc (.cells (accY 4 0 0 word) 44)) := ((Fr.of_below hb0).trans F2).trans (Fr.of_below hb4)
  clear p0 c4 f4 F2 B2 B2' BP2 BQ2 p2 h1 B1 BP BQ hb3 hb4 hb0
  generalize hW : w3.alloc (.cells (accY 4 0 0 word) 44) = w4 at B3 BP3 BQ3 F3
  replace hW := Lib.hid hW
  have p0 := BP3.at 0 rfl
  have c2 := B3.at 2 rfl
  have c3 := B3.at 3 rfl
  have c4 := B3.at 4 rfl
  have c6 := B3.at 6 rfl
  have c7 := B3.at 7 rfl
  have f2 := B3.free 2
  have f3 := B3.free 3
  have f4 := B3.free 4
  have f6 := B3.free 6
  have f7 := B3.free 7
  have r0 := BQ3.at 0 rfl
  have r1 := BQ3.at 1 rfl
  have r2 := BQ3.at 2 rfl
  have e8 := B3.at 8 rfl
  have g8 := B3.free 8
  have e9 := B3.at 9 rfl
  have g9 := B3.free 9
  have e10 := B3.at 10 rfl
  have g10 := B3.free 10
  have e11 := B3.at 11 rfl
  have g11 := B3.free 11
  have e12 := B3.at 12 rfl
  have g12 := B3.free 12
  have e13 := B3.at 13 rfl
  have g13 := B3.free 13
  have e14 := B3.at 14 rfl
  have g14 := B3.free 14
  have e15 := B3.at 15 rfl
  have g15 := B3.free 15
  have r3 := BQ3.at 3 rfl
  have r4 := BQ3.at 4 rfl
  have r5 := BQ3.at 5 rfl
  have r6 := BQ3.at 6 rfl
  have r7 := BQ3.at 7 rfl
  have r8 := BQ3.at 8 rfl
  have r9 := BQ3.at 9 rfl
  have r10 := BQ3.at 10 rfl
  have r11 := BQ3.at 11 rfl
  go_upto_region 16 with (refine wpList_store_row rfl 44 _ _ rfl _ _ rfl rfl 44 _ (Blk.new w3 _ _).h (by kernel_rfl) (by rfl) (by kernel_rfl) ?_; rw [World.setRow_alloc_new, hW.out])
  have BF : Blk ((((((((w4.setCell ⟨t, 8, none⟩ (.int .i64 r.block.node.level)).setCell ⟨t, 9, none⟩ (.string r.block.node.low)).setCell ⟨t, 10, none⟩ (.string r.block.node.high)).setCell ⟨t, 11, none⟩ (.bool r.block.node.last)).setCell ⟨t, 12, none⟩ (.int .i64 r.block.node.next)).setCell ⟨t, 13, none⟩ (.slice q.node.keys.a r.block.node.keys.length q.node.keys.c)).setCell ⟨t, 14, none⟩ (.slice q.node.vals.a r.block.node.vals.length q.node.vals.c)).setCell ⟨t, 15, none⟩ (.slice q.node.kids.a r.block.node.kids.length q.node.kids.c)) t (rdA (some ⟨o, 0, none⟩) th 3 0 false cell word ver (.int .i64 r.block.node.level) (.string r.block.node.low) (.string r.block.node.high) (.bool r.block.node.last) (.int .i64 r.block.node.next) (.slice q.node.keys.a r.block.node.keys.length q.node.keys.c) (.slice q.node.vals.a r.block.node.vals.length q.node.vals.c) (.slice q.node.kids.a r.block.node.kids.length q.node.kids.c)) 70 := by simpa [rdA] using ((((((((B3.set 8 (.int .i64 r.block.node.level)).set 9 (.string r.block.node.low)).set 10 (.string r.block.node.high)).set 11 (.bool r.block.node.last)).set 12 (.int .i64 r.block.node.next)).set 13 (.slice q.node.keys.a r.block.node.keys.length q.node.keys.c)).set 14 (.slice q.node.vals.a r.block.node.vals.length q.node.vals.c)).set 15 (.slice q.node.kids.a r.block.node.kids.length q.node.kids.c))
  have FF : Fr [t] w4 ((((((((w4.setCell ⟨t, 8, none⟩ (.int .i64 r.block.node.level)).setCell ⟨t, 9, none⟩ (.string r.block.node.low)).setCell ⟨t, 10, none⟩ (.string r.block.node.high)).setCell ⟨t, 11, none⟩ (.bool r.block.node.last)).setCell ⟨t, 12, none⟩ (.int .i64 r.block.node.next)).setCell ⟨t, 13, none⟩ (.slice q.node.keys.a r.block.node.keys.length q.node.keys.c)).setCell ⟨t, 14, none⟩ (.slice q.node.vals.a r.block.node.vals.length q.node.vals.c)).setCell ⟨t, 15, none⟩ (.slice q.node.kids.a r.block.node.kids.length q.node.kids.c)) := (((((((((Fr.refl [t] w4).set _ _ (.inl (by simp))).set _ _ (.inl (by simp))).set _ _ (.inl (by simp))).set _ _ (.inl (by simp))).set _ _ (.inl (by simp))).set _ _ (.inl (by simp))).set _ _ (.inl (by simp))).set _ _ (.inl (by simp)))
  generalize ((((((((w4.setCell ⟨t, 8, none⟩ (.int .i64 r.block.node.level)).setCell ⟨t, 9, none⟩ (.string r.block.node.low)).setCell ⟨t, 10, none⟩ (.string r.block.node.high)).setCell ⟨t, 11, none⟩ (.bool r.block.node.last)).setCell ⟨t, 12, none⟩ (.int .i64 r.block.node.next)).setCell ⟨t, 13, none⟩ (.slice q.node.keys.a r.block.node.keys.length q.node.keys.c)).setCell ⟨t, 14, none⟩ (.slice q.node.vals.a r.block.node.vals.length q.node.vals.c)).setCell ⟨t, 15, none⟩ (.slice q.node.kids.a r.block.node.kids.length q.node.kids.c)) = w5 at BF FF ⊢
  have BP5 := FF.blk BP3 (by simp; omega)
  have BQ5 := FF.blk BQ3 (by simp; omega)
  go_wp2_with fail
  refine (rdEnd_yes _ t 4 0 _ (BP5.at 0 rfl) (BF.at 3 rfl) (BF.free 3)).mono ?_
  rintro e w6 ⟨rfl, rfl⟩
  have BG := BF.set 3 (.int .i64 4)
  have FG : Fr [t] w5 (w5.setCell ⟨t, 3, none⟩ (.int .i64 4)) := (Fr.refl _ _).set _ _ (.inl (by simp))
  have BP6 := FG.blk BP5 (by simp; omega)
  have BQ6 := FG.blk BQ5 (by simp; omega)
  generalize w5.setCell ⟨t, 3, none⟩ (.int .i64 4) = w6 at BG FG BP6 BQ6 ⊢
  clear p0 c2 c3 c4 c6 c7 f2 f3 f4 f6 f7 r0 r1 r2 e8 e9 e10 e11 e12 e13 e14 e15 g8 g9 g10 g11 g12 g13 g14 g15 r3 r4 r5 r6 r7 r8 r9 r10 r11
  have p0 := BP6.at 0 rfl
  have r0 := BQ6.at 0 rfl
  have r3 := BQ6.at 3 rfl
  have c2 := BG.at 2 rfl
  have f2 := BG.free 2
  go_wp2_with fail
  refine (rdEnd_no _ _ _).mono ?_
  rintro e w7 ⟨rfl, rfl⟩
  go_wp2_with fail
  go_end0
  have FH : Fr [t] w6 (w6.setCell ⟨t, 2, none⟩ (.int .i64 4)) := (Fr.refl _ _).set _ _ (.inl (by simp))
  exact ⟨rfl, by simpa [rdA] using BG.set 2 (.int .i64 4), ((F3.trans FF).trans FG).trans FH⟩
set_option maxRecDepth 100000 in
set_option maxHeartbeats 3200000 in
theorem rdTell_3bad {o oc g gb gr A T : Nat} {L : List (Int × Int)} {bs rs : List (List Value)} (t : Nat) (th : Int) (su : Bool) (cell word ver : Int) (n0 n1 n2 n3 n4 n5 n6 n7 : Value) (w : World) (h : MemAt w o oc g gb gr A T L bs rs) (t0 : 0 ≤ th) (t1 : th < T) (l0 : 0 ≤ cell) (l1 : cell < A) (hdis : ¬ o = t ∧ ¬ oc = t ∧ ¬ g = t ∧ ¬ gb = t ∧ ¬ gr = t) (B : Blk w t (rdA (some ⟨o, 0, none⟩) th 3 0 su cell word ver n0 n1 n2 n3 n4 n5 n6 n7) 70) (q : BlockH) (r : ReplyV) (hr : r.ok = false) :
    Calls Try.prog 17 #[.pointer (some ⟨t, 0, none⟩), .agg (repA q r)] w fun e w' => e = .returned (.tuple #[]) ∧ Blk w' t (rdA (some ⟨o, 0, none⟩) th 4 3 false cell word ver (.int .i64 r.block.node.level) (.string r.block.node.low) (.string r.block.node.high) (.bool r.block.node.last) (.int .i64 r.block.node.next) (.slice q.node.keys.a r.block.node.keys.length q.node.keys.c) (.slice q.node.vals.a r.block.node.vals.length q.node.vals.c) (.slice q.node.kids.a r.block.node.kids.length q.node.kids.c)) 70 ∧ Fr [t] w w' := by
  have hr1 := hr
  have hn1 : ¬ t = w.heap.size := by have := B.lt; omega
  have hn2 : ¬ t = w.heap.size + 1 := by have := B.lt; omega
  have hn3 : ¬ w.heap.size = t := by have := B.lt; omega
  have hn4 : ¬ w.heap.size + 1 = t := by have := B.lt; omega
  have hb0 : Below w.heap.size w ((w.alloc (.cells #[.pointer (some ⟨t, 0, none⟩)] 48)).alloc (.cells (repA q r) 46)) := by (repeat (first | exact Below.refl _ _ | assumption | refine below_alloc2 ?_ (by first | exact Nat.le_refl _ | omega) _ | refine Below.drew ?_ | refine below_drewN ?_ _ | refine below_push2 ?_ ‹_› (by first | exact Nat.le_refl _ | omega) | refine Below.setCell ?_ (by first | (simp; done) | (simp; omega) | omega) _))
  have BP := (Blk.new w #[.pointer (some ⟨t, 0, none⟩)] 48).alloc (.cells (repA q r) 46)
  have BQ : Blk ((w.alloc (.cells #[.pointer (some ⟨t, 0, none⟩)] 48)).alloc (.cells (repA q r) 46)) (w.heap.size + 1) (repA q r) 46 := by
    have := Blk.new (w.alloc (.cells #[.pointer (some ⟨t, 0, none⟩)] 48)) (repA q r) 46
    simpa using this
  have hlt := B.lt
  have h1 := h.below hb0
  have B1 := B.below hb0
  go_enter Try.func17, Try.ntmps17
  go_upto_region 1 with (fail)
  generalize ((w.alloc (.cells #[.pointer (some ⟨t, 0, none⟩)] 48)).alloc (.cells (repA q r) 46)) = w1 at hb0 BP BQ h1 B1 ⊢
  have p0 := BP.at 0 rfl
  have c4 := B1.at 4 rfl
  have f4 := B1.free 4
  have hmo := h.head.lt
  have F2 : Fr [t] w1 (w1.setCell ⟨t, 4, none⟩ (.bool false)) := (Fr.refl _ _).set _ _ (.inl (by simp))
  have B2 := B1.set 4 (.bool false)
  have BP2 := F2.blk BP (by simp; omega)
  have BQ2 := F2.blk BQ (by simp; omega)
  have h2 := h1.off F2 (by simp; exact hdis)
  have p2 := BP2.at 0 rfl
  go_wp2_with fail
  generalize w1.setCell ⟨t, 4, none⟩ (.bool false) = w2 at F2 B2 BP2 BQ2 h2 p2 ⊢
  have B2' : Blk w2 t (rdA (some ⟨o, 0, none⟩) th 3 0 false cell word ver n0 n1 n2 n3 n4 n5 n6 n7) 70 := by simpa [rdA] using B2
  refine (rdNext_3 t th false cell word ver n0 n1 n2 n3 n4 n5 n6 n7 _ h2 B2' t0 t1 l0 l1).mono ?_
  rintro e w3 ⟨rfl, hb3⟩
  have hb4 := (below_push2 (Below.refl _ w2) hb3 (Nat.le_refl _)).alloc hb3.size (.cells (accY 4 0 0 word) 44)
  have B3 := B2'.below hb4
  have BP3 := BP2.below hb4
  have BQ3 := BQ2.below hb4
  have F3 : Fr [t] w (w3.alloc (.cells (accY 4 0 0 word) 44)) := ((Fr.of_below hb0).trans F2).trans (Fr.of_below hb4)
  clear p0 c4 f4 F2 B2 B2' BP2 BQ2 p2 h1 B1 BP BQ hb3 hb4 hb0
  generalize hW : w3.alloc (.cells (accY 4 0 0 word) 44) = w4 at B3 BP3 BQ3 F3
  replace hW := Lib.hid hW
  have p0 := BP3.at 0 rfl
  have c2 := B3.at 2 rfl
  have c3 := B3.at 3 rfl
  have c4 := B3.at 4 rfl
  have c6 := B3.at 6 rfl
  have c7 := B3.at 7 rfl
  have f2 := B3.free 2
  have f3 := B3.free 3
  have f4 := B3.free 4
  have f6 := B3.free 6
  have f7 := B3.free 7
  have r0 := BQ3.at 0 rfl
  have r1 := BQ3.at 1 rfl
  have r2 := BQ3.at 2 rfl
  have e8 := B3.at 8 rfl
  have g8 := B3.free 8
  have e9 := B3.at 9 rfl
  have g9 := B3.free 9
  have e10 := B3.at 10 rfl
  have g10 := B3.free 10
  have e11 := B3.at 11 rfl
  have g11 := B3.free 11
  have e12 := B3.at 12 rfl
  have g12 := B3.free 12
  have e13 := B3.at 13 rfl
  have g13 := B3.free 13
  have e14 := B3.at 14 rfl
  have g14 := B3.free 14
  have e15 := B3.at 15 rfl
  have g15 := B3.free 15
  have r3 := BQ3.at 3 rfl
  have r4 := BQ3.at 4 rfl
  have r5 := BQ3.at 5 rfl
  have r6 := BQ3.at 6 rfl
  have r7 := BQ3.at 7 rfl
  have r8 := BQ3.at 8 rfl
  have r9 := BQ3.at 9 rfl
  have r10 := BQ3.at 10 rfl
  have r11 := BQ3.at 11 rfl
  go_upto_region 16 with (refine wpList_store_row rfl 44 _ _ rfl _ _ rfl rfl 44 _ (Blk.new w3 _ _).h (by kernel_rfl) (by rfl) (by kernel_rfl) ?_; rw [World.setRow_alloc_new, hW.out])
  have BF : Blk ((((((((w4.setCell ⟨t, 8, none⟩ (.int .i64 r.block.node.level)).setCell ⟨t, 9, none⟩ (.string r.block.node.low)).setCell ⟨t, 10, none⟩ (.string r.block.node.high)).setCell ⟨t, 11, none⟩ (.bool r.block.node.last)).setCell ⟨t, 12, none⟩ (.int .i64 r.block.node.next)).setCell ⟨t, 13, none⟩ (.slice q.node.keys.a r.block.node.keys.length q.node.keys.c)).setCell ⟨t, 14, none⟩ (.slice q.node.vals.a r.block.node.vals.length q.node.vals.c)).setCell ⟨t, 15, none⟩ (.slice q.node.kids.a r.block.node.kids.length q.node.kids.c)) t (rdA (some ⟨o, 0, none⟩) th 3 0 false cell word ver (.int .i64 r.block.node.level) (.string r.block.node.low) (.string r.block.node.high) (.bool r.block.node.last) (.int .i64 r.block.node.next) (.slice q.node.keys.a r.block.node.keys.length q.node.keys.c) (.slice q.node.vals.a r.block.node.vals.length q.node.vals.c) (.slice q.node.kids.a r.block.node.kids.length q.node.kids.c)) 70 := by simpa [rdA] using ((((((((B3.set 8 (.int .i64 r.block.node.level)).set 9 (.string r.block.node.low)).set 10 (.string r.block.node.high)).set 11 (.bool r.block.node.last)).set 12 (.int .i64 r.block.node.next)).set 13 (.slice q.node.keys.a r.block.node.keys.length q.node.keys.c)).set 14 (.slice q.node.vals.a r.block.node.vals.length q.node.vals.c)).set 15 (.slice q.node.kids.a r.block.node.kids.length q.node.kids.c))
  have FF : Fr [t] w4 ((((((((w4.setCell ⟨t, 8, none⟩ (.int .i64 r.block.node.level)).setCell ⟨t, 9, none⟩ (.string r.block.node.low)).setCell ⟨t, 10, none⟩ (.string r.block.node.high)).setCell ⟨t, 11, none⟩ (.bool r.block.node.last)).setCell ⟨t, 12, none⟩ (.int .i64 r.block.node.next)).setCell ⟨t, 13, none⟩ (.slice q.node.keys.a r.block.node.keys.length q.node.keys.c)).setCell ⟨t, 14, none⟩ (.slice q.node.vals.a r.block.node.vals.length q.node.vals.c)).setCell ⟨t, 15, none⟩ (.slice q.node.kids.a r.block.node.kids.length q.node.kids.c)) := (((((((((Fr.refl [t] w4).set _ _ (.inl (by simp))).set _ _ (.inl (by simp))).set _ _ (.inl (by simp))).set _ _ (.inl (by simp))).set _ _ (.inl (by simp))).set _ _ (.inl (by simp))).set _ _ (.inl (by simp))).set _ _ (.inl (by simp)))
  generalize ((((((((w4.setCell ⟨t, 8, none⟩ (.int .i64 r.block.node.level)).setCell ⟨t, 9, none⟩ (.string r.block.node.low)).setCell ⟨t, 10, none⟩ (.string r.block.node.high)).setCell ⟨t, 11, none⟩ (.bool r.block.node.last)).setCell ⟨t, 12, none⟩ (.int .i64 r.block.node.next)).setCell ⟨t, 13, none⟩ (.slice q.node.keys.a r.block.node.keys.length q.node.keys.c)).setCell ⟨t, 14, none⟩ (.slice q.node.vals.a r.block.node.vals.length q.node.vals.c)).setCell ⟨t, 15, none⟩ (.slice q.node.kids.a r.block.node.kids.length q.node.kids.c)) = w5 at BF FF ⊢
  have BP5 := FF.blk BP3 (by simp; omega)
  have BQ5 := FF.blk BQ3 (by simp; omega)
  go_wp2_with fail
  refine (rdEnd_yes _ t 4 0 _ (BP5.at 0 rfl) (BF.at 3 rfl) (BF.free 3)).mono ?_
  rintro e w6 ⟨rfl, rfl⟩
  have BG := BF.set 3 (.int .i64 4)
  have FG : Fr [t] w5 (w5.setCell ⟨t, 3, none⟩ (.int .i64 4)) := (Fr.refl _ _).set _ _ (.inl (by simp))
  have BP6 := FG.blk BP5 (by simp; omega)
  have BQ6 := FG.blk BQ5 (by simp; omega)
  generalize w5.setCell ⟨t, 3, none⟩ (.int .i64 4) = w6 at BG FG BP6 BQ6 ⊢
  clear p0 c2 c3 c4 c6 c7 f2 f3 f4 f6 f7 r0 r1 r2 e8 e9 e10 e11 e12 e13 e14 e15 g8 g9 g10 g11 g12 g13 g14 g15 r3 r4 r5 r6 r7 r8 r9 r10 r11
  have p0 := BP6.at 0 rfl
  have r0 := BQ6.at 0 rfl
  have r3 := BQ6.at 3 rfl
  have c2 := BG.at 2 rfl
  have f2 := BG.free 2
  go_wp2_with fail
  refine (rdEnd_yes _ t 3 4 _ (BP6.at 0 rfl) (BG.at 3 rfl) (BG.free 3)).mono ?_
  rintro e w7 ⟨rfl, rfl⟩
  have BH := BG.set 3 (.int .i64 3)
  have FH0 : Fr [t] w6 (w6.setCell ⟨t, 3, none⟩ (.int .i64 3)) := (Fr.refl _ _).set _ _ (.inl (by simp))
  have BP7 := FH0.blk BP6 (by simp; omega)
  generalize w6.setCell ⟨t, 3, none⟩ (.int .i64 3) = w7 at BH FH0 BP7 ⊢
  clear p0 c2 f2 r0 r3 BG
  have p0 := BP7.at 0 rfl
  have c2 := BH.at 2 rfl
  have f2 := BH.free 2
  go_wp2_with fail
  go_end0
  have FH : Fr [t] w7 (w7.setCell ⟨t, 2, none⟩ (.int .i64 4)) := (Fr.refl _ _).set _ _ (.inl (by simp))
  exact ⟨rfl, by simpa [rdA] using BH.set 2 (.int .i64 4), (((F3.trans FF).trans FG).trans FH0).trans FH⟩
set_option maxRecDepth 100000 in
set_option maxHeartbeats 3200000 in
theorem rdTell_3other {o oc g gb gr A T : Nat} {L : List (Int × Int)} {bs rs : List (List Value)} (t : Nat) (th : Int) (su : Bool) (cell word ver : Int) (n0 n1 n2 n3 n4 n5 n6 n7 : Value) (w : World) (h : MemAt w o oc g gb gr A T L bs rs) (t0 : 0 ≤ th) (t1 : th < T) (l0 : 0 ≤ cell) (l1 : cell < A) (hdis : ¬ o = t ∧ ¬ oc = t ∧ ¬ g = t ∧ ¬ gb = t ∧ ¬ gr = t) (B : Blk w t (rdA (some ⟨o, 0, none⟩) th 3 0 su cell word ver n0 n1 n2 n3 n4 n5 n6 n7) 70) (q : BlockH) (r : ReplyV) (hr : r.ok = true ∧ r.block.kind ≠ 1) :
    Calls Try.prog 17 #[.pointer (some ⟨t, 0, none⟩), .agg (repA q r)] w fun e w' => e = .returned (.tuple #[]) ∧ Blk w' t (rdA (some ⟨o, 0, none⟩) th 4 3 false cell word ver (.int .i64 r.block.node.level) (.string r.block.node.low) (.string r.block.node.high) (.bool r.block.node.last) (.int .i64 r.block.node.next) (.slice q.node.keys.a r.block.node.keys.length q.node.keys.c) (.slice q.node.vals.a r.block.node.vals.length q.node.vals.c) (.slice q.node.kids.a r.block.node.kids.length q.node.kids.c)) 70 ∧ Fr [t] w w' := by
  obtain ⟨hr1, hr3⟩ := hr
  have hr2 : (r.block.kind != 1) = true := by simpa using hr3
  have hn1 : ¬ t = w.heap.size := by have := B.lt; omega
  have hn2 : ¬ t = w.heap.size + 1 := by have := B.lt; omega
  have hn3 : ¬ w.heap.size = t := by have := B.lt; omega
  have hn4 : ¬ w.heap.size + 1 = t := by have := B.lt; omega
  have hb0 : Below w.heap.size w ((w.alloc (.cells #[.pointer (some ⟨t, 0, none⟩)] 48)).alloc (.cells (repA q r) 46)) := by (repeat (first | exact Below.refl _ _ | assumption | refine below_alloc2 ?_ (by first | exact Nat.le_refl _ | omega) _ | refine Below.drew ?_ | refine below_drewN ?_ _ | refine below_push2 ?_ ‹_› (by first | exact Nat.le_refl _ | omega) | refine Below.setCell ?_ (by first | (simp; done) | (simp; omega) | omega) _))
  have BP := (Blk.new w #[.pointer (some ⟨t, 0, none⟩)] 48).alloc (.cells (repA q r) 46)
  have BQ : Blk ((w.alloc (.cells #[.pointer (some ⟨t, 0, none⟩)] 48)).alloc (.cells (repA q r) 46)) (w.heap.size + 1) (repA q r) 46 := by
    have := Blk.new (w.alloc (.cells #[.pointer (some ⟨t, 0, none⟩)] 48)) (repA q r) 46
    simpa using this
  have hlt := B.lt
  have h1 := h.below hb0
  have B1 := B.below hb0
  go_enter Try.func17, Try.ntmps17
  go_upto_region 1 with (fail)
  generalize ((w.alloc (.cells #[.pointer (some ⟨t, 0, none⟩)] 48)).alloc (.cells (repA q r) 46)) = w1 at hb0 BP BQ h1 B1 ⊢
  have p0 := BP.at 0 rfl
  have c4 := B1.at 4 rfl
  have f4 := B1.free 4
  have hmo := h.head.lt
  have F2 : Fr [t] w1 (w1.setCell ⟨t, 4, none⟩ (.bool false)) := (Fr.refl _ _).set _ _ (.inl (by simp))
  have B2 := B1.set 4 (.bool false)
  have BP2 := F2.blk BP (by simp; omega)
  have BQ2 := F2.blk BQ (by simp; omega)
  have h2 := h1.off F2 (by simp; exact hdis)
  have p2 := BP2.at 0 rfl
  go_wp2_with fail
  generalize w1.setCell ⟨t, 4, none⟩ (.bool false) = w2 at F2 B2 BP2 BQ2 h2 p2 ⊢
  have B2' : Blk w2 t (rdA (some ⟨o, 0, none⟩) th 3 0 false cell word ver n0 n1 n2 n3 n4 n5 n6 n7) 70 := by simpa [rdA] using B2
  refine (rdNext_3 t th false cell word ver n0 n1 n2 n3 n4 n5 n6 n7 _ h2 B2' t0 t1 l0 l1).mono ?_
  rintro e w3 ⟨rfl, hb3⟩
  have hb4 := (below_push2 (Below.refl _ w2) hb3 (Nat.le_refl _)).alloc hb3.size (.cells (accY 4 0 0 word) 44)
  have B3 := B2'.below hb4
  have BP3 := BP2.below hb4
  have BQ3 := BQ2.below hb4
  have F3 : Fr [t] w (w3.alloc (.cells (accY 4 0 0 word) 44)) := ((Fr.of_below hb0).trans F2).trans (Fr.of_below hb4)
  clear p0 c4 f4 F2 B2 B2' BP2 BQ2 p2 h1 B1 BP BQ hb3 hb4 hb0
  generalize hW : w3.alloc (.cells (accY 4 0 0 word) 44) = w4 at B3 BP3 BQ3 F3
  replace hW := Lib.hid hW
  have p0 := BP3.at 0 rfl
  have c2 := B3.at 2 rfl
  have c3 := B3.at 3 rfl
  have c4 := B3.at 4 rfl
  have c6 := B3.at 6 rfl
  have c7 := B3.at 7 rfl
  have f2 := B3.free 2
  have f3 := B3.free 3
  have f4 := B3.free 4
  have f6 := B3.free 6
  have f7 := B3.free 7
  have r0 := BQ3.at 0 rfl
  have r1 := BQ3.at 1 rfl
  have r2 := BQ3.at 2 rfl
  have e8 := B3.at 8 rfl
  have g8 := B3.free 8
  have e9 := B3.at 9 rfl
  have g9 := B3.free 9
  have e10 := B3.at 10 rfl
  have g10 := B3.free 10
  have e11 := B3.at 11 rfl
  have g11 := B3.free 11
  have e12 := B3.at 12 rfl
  have g12 := B3.free 12
  have e13 := B3.at 13 rfl
  have g13 := B3.free 13
  have e14 := B3.at 14 rfl
  have g14 := B3.free 14
  have e15 := B3.at 15 rfl
  have g15 := B3.free 15
  have r3 := BQ3.at 3 rfl
  have r4 := BQ3.at 4 rfl
  have r5 := BQ3.at 5 rfl
  have r6 := BQ3.at 6 rfl
  have r7 := BQ3.at 7 rfl
  have r8 := BQ3.at 8 rfl
  have r9 := BQ3.at 9 rfl
  have r10 := BQ3.at 10 rfl
  have r11 := BQ3.at 11 rfl
  go_upto_region 16 with (refine wpList_store_row rfl 44 _ _ rfl _ _ rfl rfl 44 _ (Blk.new w3 _ _).h (by kernel_rfl) (by rfl) (by kernel_rfl) ?_; rw [World.setRow_alloc_new, hW.out])
  have BF : Blk ((((((((w4.setCell ⟨t, 8, none⟩ (.int .i64 r.block.node.level)).setCell ⟨t, 9, none⟩ (.string r.block.node.low)).setCell ⟨t, 10, none⟩ (.string r.block.node.high)).setCell ⟨t, 11, none⟩ (.bool r.block.node.last)).setCell ⟨t, 12, none⟩ (.int .i64 r.block.node.next)).setCell ⟨t, 13, none⟩ (.slice q.node.keys.a r.block.node.keys.length q.node.keys.c)).setCell ⟨t, 14, none⟩ (.slice q.node.vals.a r.block.node.vals.length q.node.vals.c)).setCell ⟨t, 15, none⟩ (.slice q.node.kids.a r.block.node.kids.length q.node.kids.c)) t (rdA (some ⟨o, 0, none⟩) th 3 0 false cell word ver (.int .i64 r.block.node.level) (.string r.block.node.low) (.string r.block.node.high) (.bool r.block.node.last) (.int .i64 r.block.node.next) (.slice q.node.keys.a r.block.node.keys.length q.node.keys.c) (.slice q.node.vals.a r.block.node.vals.length q.node.vals.c) (.slice q.node.kids.a r.block.node.kids.length q.node.kids.c)) 70 := by simpa [rdA] using ((((((((B3.set 8 (.int .i64 r.block.node.level)).set 9 (.string r.block.node.low)).set 10 (.string r.block.node.high)).set 11 (.bool r.block.node.last)).set 12 (.int .i64 r.block.node.next)).set 13 (.slice q.node.keys.a r.block.node.keys.length q.node.keys.c)).set 14 (.slice q.node.vals.a r.block.node.vals.length q.node.vals.c)).set 15 (.slice q.node.kids.a r.block.node.kids.length q.node.kids.c))
  have FF : Fr [t] w4 ((((((((w4.setCell ⟨t, 8, none⟩ (.int .i64 r.block.node.level)).setCell ⟨t, 9, none⟩ (.string r.block.node.low)).setCell ⟨t, 10, none⟩ (.string r.block.node.high)).setCell ⟨t, 11, none⟩ (.bool r.block.node.last)).setCell ⟨t, 12, none⟩ (.int .i64 r.block.node.next)).setCell ⟨t, 13, none⟩ (.slice q.node.keys.a r.block.node.keys.length q.node.keys.c)).setCell ⟨t, 14, none⟩ (.slice q.node.vals.a r.block.node.vals.length q.node.vals.c)).setCell ⟨t, 15, none⟩ (.slice q.node.kids.a r.block.node.kids.length q.node.kids.c)) := (((((((((Fr.refl [t] w4).set _ _ (.inl (by simp))).set _ _ (.inl (by simp))).set _ _ (.inl (by simp))).set _ _ (.inl (by simp))).set _ _ (.inl (by simp))).set _ _ (.inl (by simp))).set _ _ (.inl (by simp))).set _ _ (.inl (by simp)))
  generalize ((((((((w4.setCell ⟨t, 8, none⟩ (.int .i64 r.block.node.level)).setCell ⟨t, 9, none⟩ (.string r.block.node.low)).setCell ⟨t, 10, none⟩ (.string r.block.node.high)).setCell ⟨t, 11, none⟩ (.bool r.block.node.last)).setCell ⟨t, 12, none⟩ (.int .i64 r.block.node.next)).setCell ⟨t, 13, none⟩ (.slice q.node.keys.a r.block.node.keys.length q.node.keys.c)).setCell ⟨t, 14, none⟩ (.slice q.node.vals.a r.block.node.vals.length q.node.vals.c)).setCell ⟨t, 15, none⟩ (.slice q.node.kids.a r.block.node.kids.length q.node.kids.c)) = w5 at BF FF ⊢
  have BP5 := FF.blk BP3 (by simp; omega)
  have BQ5 := FF.blk BQ3 (by simp; omega)
  go_wp2_with fail
  refine (rdEnd_yes _ t 4 0 _ (BP5.at 0 rfl) (BF.at 3 rfl) (BF.free 3)).mono ?_
  rintro e w6 ⟨rfl, rfl⟩
  have BG := BF.set 3 (.int .i64 4)
  have FG : Fr [t] w5 (w5.setCell ⟨t, 3, none⟩ (.int .i64 4)) := (Fr.refl _ _).set _ _ (.inl (by simp))
  have BP6 := FG.blk BP5 (by simp; omega)
  have BQ6 := FG.blk BQ5 (by simp; omega)
  generalize w5.setCell ⟨t, 3, none⟩ (.int .i64 4) = w6 at BG FG BP6 BQ6 ⊢
  clear p0 c2 c3 c4 c6 c7 f2 f3 f4 f6 f7 r0 r1 r2 e8 e9 e10 e11 e12 e13 e14 e15 g8 g9 g10 g11 g12 g13 g14 g15 r3 r4 r5 r6 r7 r8 r9 r10 r11
  have p0 := BP6.at 0 rfl
  have r0 := BQ6.at 0 rfl
  have r3 := BQ6.at 3 rfl
  have c2 := BG.at 2 rfl
  have f2 := BG.free 2
  go_wp2_with fail
  refine (rdEnd_yes _ t 3 4 _ (BP6.at 0 rfl) (BG.at 3 rfl) (BG.free 3)).mono ?_
  rintro e w7 ⟨rfl, rfl⟩
  have BH := BG.set 3 (.int .i64 3)
  have FH0 : Fr [t] w6 (w6.setCell ⟨t, 3, none⟩ (.int .i64 3)) := (Fr.refl _ _).set _ _ (.inl (by simp))
  have BP7 := FH0.blk BP6 (by simp; omega)
  generalize w6.setCell ⟨t, 3, none⟩ (.int .i64 3) = w7 at BH FH0 BP7 ⊢
  clear p0 c2 f2 r0 r3 BG
  have p0 := BP7.at 0 rfl
  have c2 := BH.at 2 rfl
  have f2 := BH.free 2
  go_wp2_with fail
  go_end0
  have FH : Fr [t] w7 (w7.setCell ⟨t, 2, none⟩ (.int .i64 4)) := (Fr.refl _ _).set _ _ (.inl (by simp))
  exact ⟨rfl, by simpa [rdA] using BH.set 2 (.int .i64 4), (((F3.trans FF).trans FG).trans FH0).trans FH⟩
set_option maxRecDepth 100000 in
set_option maxHeartbeats 3200000 in
theorem rdNext_over {o oc g gb gr A T : Nat} {L : List (Int × Int)} {bs rs : List (List Value)} (t : Nat) (th at_ st : Int) (su : Bool) (cell word ver : Int) (n0 n1 n2 n3 n4 n5 n6 n7 : Value) (w : World) (h : MemAt w o oc g gb gr A T L bs rs) (B : Blk w t (rdA (some ⟨o, 0, none⟩) th at_ st su cell word ver n0 n1 n2 n3 n4 n5 n6 n7) 70) (t0 : 0 ≤ th) (t1 : th < T) (l0 : 0 ≤ cell) (l1 : cell < A) (hst : st ≠ 0) :
    Calls Try.prog 11 #[.pointer (some ⟨t, 0, none⟩)] w fun e w' => e = .returned (.tuple #[.agg (accY 0 0 0 0), .bool false]) ∧ Below w.heap.size w w' := by
  have hb0 : Below w.heap.size w (w.alloc (.cells (accY 0 0 0 0) 44)) := by (repeat (first | exact Below.refl _ _ | assumption | refine below_alloc2 ?_ (by first | exact Nat.le_refl _ | omega) _ | refine Below.drew ?_ | refine below_drewN ?_ _ | refine below_push2 ?_ ‹_› (by first | exact Nat.le_refl _ | omega) | refine Below.setCell ?_ (by first | (simp; done) | (simp; omega) | omega) _))
  have hlt := B.lt
  have h1 := h.below hb0
  have hC1 := B.below hb0
  have BR0 := Blk.new w (accY 0 0 0 0) 44
  have s1 : (st == 0) = false := by simpa using hst
  go_enter Try.func11, Try.ntmps11
  go_wp2_with fail
  generalize w.alloc (.cells (accY 0 0 0 0) 44) = wz at hb0 h1 hC1 BR0 ⊢
  refine (rdnone_on t th at_ st su cell word ver n0 n1 n2 n3 n4 n5 n6 n7 _ h1 hC1 t0 t1 l0 l1).mono ?_
  rintro e w1 ⟨rfl, nd, rfl⟩
  replace hb0 := below_drewN hb0 nd
  replace hC1 := hC1.drewN nd
  replace BR0 := BR0.drewN nd
  generalize wz.drewN nd = wy at hb0 hC1 BR0 ⊢
  have c3 := hC1.at 3 rfl
  go_wp2_with (refine wpList_store_row rfl 44 _ _ rfl w.heap.size _ rfl rfl 44 _ BR0.h (by kernel_rfl) (by rfl) (by kernel_rfl) ?_)
  refine bodyPost_ret (v := .tuple #[.agg (accY 0 0 0 0), .bool false]) (results_cell_tmp rfl _ _ w.heap.size 44 (accY 0 0 0 0) (0, 0) _ (.bool false) rfl rfl (Blk.row BR0 (accY 0 0 0 0)).h Try.underlying44 rfl (by kernel_rfl)) rfl ⟨rfl, below_setRow hb0 (by omega) _⟩
set_option maxRecDepth 100000 in
set_option maxHeartbeats 3200000 in
theorem rdKnown_yes {o oc g gb gr A T : Nat} {L : List (Int × Int)} {bs rs : List (List Value)} (t : Nat) (th at_ : Int) (su : Bool) (cell word ver : Int) (q : NodeH) (x : NodeV) (w : World) (h : MemAt w o oc g gb gr A T L bs rs) (B : Blk w t (rdA (some ⟨o, 0, none⟩) th at_ 4 su cell word ver (.int .i64 x.level) (.string x.low) (.string x.high) (.bool x.last) (.int .i64 x.next) (.slice q.keys.a x.keys.length q.keys.c) (.slice q.vals.a x.vals.length q.vals.c) (.slice q.kids.a x.kids.length q.kids.c)) 70) (t0 : 0 ≤ th) (t1 : th < T) (l0 : 0 ≤ cell) (l1 : cell < A) :
    Calls Try.prog 12 #[.pointer (some ⟨t, 0, none⟩)] w fun e w' => e = .returned (.tuple #[.agg (knA cell word ver (.int .i64 x.level) (.string x.low) (.string x.high) (.bool x.last) (.int .i64 x.next) (.slice q.keys.a x.keys.length q.keys.c) (.slice q.vals.a x.vals.length q.vals.c) (.slice q.kids.a x.kids.length q.kids.c)), .bool true]) ∧ Below w.heap.size w w' := by
  have hb0 : Below w.heap.size w (w.alloc (.cells (knA 0 0 0 (.int .i64 0) (.string ⟨#[]⟩) (.string ⟨#[]⟩) (.bool false) (.int .i64 0) (.slice none 0 0) (.slice none 0 0) (.slice none 0 0)) 53)) := by (repeat (first | exact Below.refl _ _ | assumption | refine below_alloc2 ?_ (by first | exact Nat.le_refl _ | omega) _ | refine Below.drew ?_ | refine below_drewN ?_ _ | refine below_push2 ?_ ‹_› (by first | exact Nat.le_refl _ | omega) | refine Below.setCell ?_ (by first | (simp; done) | (simp; omega) | omega) _))
  go_enter Try.func12, Try.ntmps12
  go_wp2_with fail
  refine (rdState_on t th at_ 4 su cell word ver (.int .i64 x.level) (.string x.low) (.string x.high) (.bool x.last) (.int .i64 x.next) (.slice q.keys.a x.keys.length q.keys.c) (.slice q.vals.a x.vals.length q.vals.c) (.slice q.kids.a x.kids.length q.kids.c) _ (h.below hb0) (B.below hb0) t0 t1 l0 l1).mono ?_
  rintro e w1 ⟨rfl, hb1⟩
  have BR := (Blk.new w (knA 0 0 0 (.int .i64 0) (.string ⟨#[]⟩) (.string ⟨#[]⟩) (.bool false) (.int .i64 0) (.slice none 0 0) (.slice none 0 0) (.slice none 0 0)) 53).below hb1
  have B1 := (B.below hb0).below hb1
  have hB := below_push2 hb0 hb1 (Nat.le_refl _)
  have hr : w1.rangeAt t 5 (knA cell word ver (.int .i64 x.level) (.string x.low) (.string x.high) (.bool x.last) (.int .i64 x.next) (.slice q.keys.a x.keys.length q.keys.c) (.slice q.vals.a x.vals.length q.vals.c) (.slice q.kids.a x.kids.length q.kids.c)).toList := by
    intro j v hj
    have hj11 : j < 11 := by
      by_cases e : j < 11
      · exact e
      · rw [List.getElem?_eq_none (by simp; omega)] at hj; cases hj
    refine B1.at (5 + j) ?_
    rcases lt11 hj11 with e | e | e | e | e | e | e | e | e | e | e <;> subst e <;> simpa [rdA, knA] using hj
  clear hb0 hb1 B1
  go_wp2_with (first
    | (refine wpList_load_mid rfl 53 _ rfl t 5 rfl (knA cell word ver (.int .i64 x.level) (.string x.low) (.string x.high) (.bool x.last) (.int .i64 x.next) (.slice q.keys.a x.keys.length q.keys.c) (.slice q.vals.a x.vals.length q.vals.c) (.slice q.kids.a x.kids.length q.kids.c)).toList _ hr Try.underlying53 rfl (by kernel_rfl) ?_)
    | (refine wpList_store_row rfl 53 _ _ rfl w.heap.size _ rfl rfl 53 _ BR.h (by kernel_rfl) (by rfl) (by kernel_rfl) ?_))
  refine bodyPost_ret (v := .tuple #[.agg (knA cell word ver (.int .i64 x.level) (.string x.low) (.string x.high) (.bool x.last) (.int .i64 x.next) (.slice q.keys.a x.keys.length q.keys.c) (.slice q.vals.a x.vals.length q.vals.c) (.slice q.kids.a x.kids.length q.kids.c)), .bool true]) (results_cell_tmp rfl _ _ w.heap.size 53 (knA cell word ver (.int .i64 x.level) (.string x.low) (.string x.high) (.bool x.last) (.int .i64 x.next) (.slice q.keys.a x.keys.length q.keys.c) (.slice q.vals.a x.vals.length q.vals.c) (.slice q.kids.a x.kids.length q.kids.c)) (0, 0) _ (.bool true) rfl rfl (Blk.row BR (knA cell word ver (.int .i64 x.level) (.string x.low) (.string x.high) (.bool x.last) (.int .i64 x.next) (.slice q.keys.a x.keys.length q.keys.c) (.slice q.vals.a x.vals.length q.vals.c) (.slice q.kids.a x.kids.length q.kids.c))).h Try.underlying53 rfl (by kernel_rfl)) rfl ⟨rfl, below_setRow hB (by omega) _⟩
set_option maxRecDepth 100000 in
set_option maxHeartbeats 3200000 in
theorem rdKnown_no {o oc g gb gr A T : Nat} {L : List (Int × Int)} {bs rs : List (List Value)} (t : Nat) (th at_ st : Int) (su : Bool) (cell word ver : Int) (n0 n1 n2 n3 n4 n5 n6 n7 : Value) (w : World) (h : MemAt w o oc g gb gr A T L bs rs) (B : Blk w t (rdA (some ⟨o, 0, none⟩) th at_ st su cell word ver n0 n1 n2 n3 n4 n5 n6 n7) 70) (t0 : 0 ≤ th) (t1 : th < T) (l0 : 0 ≤ cell) (l1 : cell < A) (hst : st ≠ 4) :
    Calls Try.prog 12 #[.pointer (some ⟨t, 0, none⟩)] w fun e w' => e = .returned (.tuple #[.agg (knA 0 0 0 (.int .i64 0) (.string ⟨#[]⟩) (.string ⟨#[]⟩) (.bool false) (.int .i64 0) (.slice none 0 0) (.slice none 0 0) (.slice none 0 0)), .bool false]) ∧ Below w.heap.size w w' := by
  have hb0 : Below w.heap.size w (w.alloc (.cells (knA 0 0 0 (.int .i64 0) (.string ⟨#[]⟩) (.string ⟨#[]⟩) (.bool false) (.int .i64 0) (.slice none 0 0) (.slice none 0 0) (.slice none 0 0)) 53)) := by (repeat (first | exact Below.refl _ _ | assumption | refine below_alloc2 ?_ (by first | exact Nat.le_refl _ | omega) _ | refine Below.drew ?_ | refine below_drewN ?_ _ | refine below_push2 ?_ ‹_› (by first | exact Nat.le_refl _ | omega) | refine Below.setCell ?_ (by first | (simp; done) | (simp; omega) | omega) _))
  have s1 : (st == 4) = false := by simpa using hst
  go_enter Try.func12, Try.ntmps12
  go_wp2_with fail
  refine (rdState_on t th at_ st su cell word ver n0 n1 n2 n3 n4 n5 n6 n7 _ (h.below hb0) (B.below hb0) t0 t1 l0 l1).mono ?_
  rintro e w1 ⟨rfl, hb1⟩
  have BR := (Blk.new w (knA 0 0 0 (.int .i64 0) (.string ⟨#[]⟩) (.string ⟨#[]⟩) (.bool false) (.int .i64 0) (.slice none 0 0) (.slice none 0 0) (.slice none 0 0)) 53).below hb1
  have hB := below_push2 hb0 hb1 (Nat.le_refl _)
  go_wp2_with (refine wpList_store_row rfl 53 _ _ rfl w.heap.size _ rfl rfl 53 _ BR.h (by kernel_rfl) (by rfl) (by kernel_rfl) ?_)
  refine bodyPost_ret (v := .tuple #[.agg (knA 0 0 0 (.int .i64 0) (.string ⟨#[]⟩) (.string ⟨#[]⟩) (.bool false) (.int .i64 0) (.slice none 0 0) (.slice none 0 0) (.slice none 0 0)), .bool false]) (results_cell_tmp rfl _ _ w.heap.size 53 (knA 0 0 0 (.int .i64 0) (.string ⟨#[]⟩) (.string ⟨#[]⟩) (.bool false) (.int .i64 0) (.slice none 0 0) (.slice none 0 0) (.slice none 0 0)) (0, 0) _ (.bool false) rfl rfl (Blk.row BR (knA 0 0 0 (.int .i64 0) (.string ⟨#[]⟩) (.string ⟨#[]⟩) (.bool false) (.int .i64 0) (.slice none 0 0) (.slice none 0 0) (.slice none 0 0))).h Try.underlying53 rfl (by kernel_rfl)) rfl ⟨rfl, below_setRow hB (by omega) _⟩
end Go.Proofs.Ytgdeiaholkmfeaa.MemP

/-
  The types of package api, opened: what a law's arguments of these types are.
-/
namespace Go.Proofs.Ytgdeiaholkmfeaa.Dp
open Go.RowKit RefP
set_option linter.unusedVariables false
set_option linter.unusedSimpArgs false
structure Ox (P : Program) (t : TypeId) {α : Type} (C : Cod α) : Prop where
  out : ∀ (H : Type) (enc : TypeId × Value → H) (w : World) (base : Nat) (sp : Nat → Bool) (held : Bool) (fuel : Nat) (cs : List Value) (y : DataW H × List MemPlace), DataW.trod enc P w base sp held fuel t cs = some y → ∃ x, C.rep w [] cs x
structure OxAt (P : Program) (fs : List Field) (off : Nat) {α : Type} (C : Cod α) : Prop where
  out : ∀ (H : Type) (enc : TypeId × Value → H) (w : World) (base : Nat) (sp : Nat → Bool) (held : Bool) (fuel : Nat) (cs : List Value), cs.length = off + C.k →
    (∀ f ∈ fs, ∃ y, DataW.trod enc P w base sp held fuel f.type ((cs.drop f.offset).take (P.cellsOf f.type)) = some y) → ∃ x, C.rep w [] (cs.drop off) x
theorem ox_int {P : Program} {t : TypeId} {k : IntKind} (ht : P.underlying t = some (.int k)) : Ox P t (intC k) := ⟨fun H enc w base sp held fuel cs y h => opens_int ht enc w base sp held fuel cs y h⟩
theorem ox_bool {P : Program} {t : TypeId} (ht : P.underlying t = some .bool) : Ox P t boolC := ⟨fun H enc w base sp held fuel cs y h => opens_bool ht enc w base sp held fuel cs y h⟩
theorem ox_str {P : Program} {t : TypeId} (ht : P.underlying t = some .string) : Ox P t strC := ⟨fun H enc w base sp held fuel cs y h => opens_str ht enc w base sp held fuel cs y h⟩
theorem ox_nil {P : Program} {off : Nat} : OxAt P [] off unitC := ⟨fun H enc w base sp held fuel cs hl h => opens_nil enc w base sp held fuel cs hl h⟩
theorem ox_cons {P : Program} {f : Field} {fs : List Field} {off : Nat} {α β : Type} {A : Cod α} {B : Cod β} (ho : f.offset = off) (hk : P.cellsOf f.type = A.k) (hA : Ox P f.type A) (hB : OxAt P fs (off + A.k) B) : OxAt P (f :: fs) off (pairC A B) := by
  refine ⟨fun H enc w base sp held fuel cs hl h => ?_⟩
  obtain ⟨y, hy⟩ := h f (by simp)
  rw [ho, hk] at hy
  obtain ⟨x, hx⟩ := hA.out H enc w base sp held fuel _ y hy
  obtain ⟨z, hz⟩ := hB.out H enc w base sp held fuel cs (by rw [hl]; show off + (A.k + B.k) = _; omega) (fun g hg => h g (by simp [hg]))
  refine ⟨(x, z), _, _, ?_, hx, hz⟩
  rw [← List.drop_drop, List.take_append_drop]
theorem ox_struct {P : Program} {t : TypeId} {fs : Array Field} {α : Type} {C : Cod α} (ht : P.underlying t = some (.struct fs)) (hk : P.cellsOf t = C.k) (h : OxAt P fs.toList 0 C) : Ox P t C := by
  refine ⟨fun H enc w base sp held fuel cs y hy => ?_⟩
  obtain ⟨xs, n, _, _, hl, hxs, hf⟩ := DataW.trod_struct ht hy
  obtain ⟨x, hx⟩ := h.out H enc w base sp held n cs (by omega) (fun f hfm => by
    obtain ⟨i, hi, rfl⟩ := List.getElem_of_mem hfm
    have hi' : i < fs.size := by simpa using hi
    have := hf i fs[i] (by simp [hi'])
    rw [List.getElem?_eq_getElem (by omega)] at this
    exact ⟨_, this⟩)
  exact ⟨x, by simpa using hx⟩
theorem ox_iso {P : Program} {t : TypeId} {α β : Type} {C : Cod α} (f : β → α) (g : α → β) (hg : ∀ x, f (g x) = x) (h : Ox P t C) : Ox P t (isoC C f) := by
  refine ⟨fun H enc w base sp held fuel cs y hy => ?_⟩
  obtain ⟨x, hx⟩ := h.out H enc w base sp held fuel cs y hy
  exact ⟨g x, by show C.rep w [] cs (f (g x)); rw [hg]; exact hx⟩
theorem ox_opens {P : Program} {t : TypeId} {α : Type} {C : Cod α} (h : Ox P t C) : Opens P t C := by
  intro H enc w base sp held fuel cs y hy
  exact h.out H enc w base sp held fuel cs y hy
theorem ox_row {P : Program} {t e : TypeId} {α : Type} {E : Cod α} (ht : P.underlying t = some (.slice e)) (hk : P.cellsOf e = E.k) (hpos : 0 < E.k) (h : Ox P e E) : Ox P t (rowC E) := by
  refine ⟨fun H enc w base sp held fuel cs y hy => ?_⟩
  have := @opens_row P t e α E ht hk hpos (by intro H enc w base sp held fuel cs y hy; exact h.out H enc w base sp held fuel cs y hy) H enc w base sp held fuel cs y hy
  exact this
theorem op_str : Ox Try.prog 9 strC := ox_str Try.underlying9
theorem op_u64 : Ox Try.prog 27 u64C := ox_int Try.underlying27
theorem op_i64 : Ox Try.prog 3 i64C := ox_int Try.underlying3
theorem op_bool : Ox Try.prog 4 boolC := ox_bool Try.underlying4
theorem op_strs : Ox Try.prog 28 (rowC strC) := ox_row Try.underlying28 (by kernel_rfl) (by decide) op_str
theorem op_u64s : Ox Try.prog 29 (rowC u64C) := ox_row Try.underlying29 (by kernel_rfl) (by decide) op_u64
theorem op_i64s : Ox Try.prog 30 (rowC i64C) := ox_row Try.underlying30 (by kernel_rfl) (by decide) op_i64
theorem op_pair : Ox Try.prog 104 pairT := ox_iso _ (fun p => ⟨p.1, p.2.1⟩) (fun _ => rfl) (ox_struct Try.underlying104 (by kernel_rfl)
  (ox_cons rfl (by kernel_rfl) op_str (ox_cons rfl (by kernel_rfl) op_u64 ox_nil)))
theorem op_pairs : Ox Try.prog 33 (rowC pairT) := ox_row Try.underlying33 (by kernel_rfl) (by decide) op_pair
theorem op_step : Ox Try.prog 100 stepT := ox_iso _ (fun p => ⟨p.1, p.2.1, p.2.2.1, p.2.2.2.1, p.2.2.2.2.1⟩) (fun _ => rfl) (ox_struct Try.underlying100 (by kernel_rfl)
  (ox_cons rfl (by kernel_rfl) op_i64 (ox_cons rfl (by kernel_rfl) op_u64 (ox_cons rfl (by kernel_rfl) op_u64 (ox_cons rfl (by kernel_rfl) op_u64 (ox_cons rfl (by kernel_rfl) op_bool ox_nil))))))
theorem op_steps : Ox Try.prog 36 (rowC stepT) := ox_row Try.underlying36 (by kernel_rfl) (by decide) op_step
theorem op_node : Ox Try.prog 32 nodeT := ox_iso _ (fun p => ⟨p.1, p.2.1, p.2.2.1, p.2.2.2.1, p.2.2.2.2.1, p.2.2.2.2.2.1, p.2.2.2.2.2.2.1, p.2.2.2.2.2.2.2.1⟩) (fun _ => rfl) (ox_struct Try.underlying32 (by kernel_rfl)
  (ox_cons rfl (by kernel_rfl) op_i64 (ox_cons rfl (by kernel_rfl) op_str (ox_cons rfl (by kernel_rfl) op_str (ox_cons rfl (by kernel_rfl) op_bool (ox_cons rfl (by kernel_rfl) op_i64 (ox_cons rfl (by kernel_rfl) op_strs (ox_cons rfl (by kernel_rfl) op_u64s (ox_cons rfl (by kernel_rfl) op_i64s ox_nil)))))))))
theorem op_ans : Ox Try.prog 35 ansT := ox_iso _ (fun p => ⟨p.1, p.2.1, p.2.2.1, p.2.2.2.1⟩) (fun _ => rfl) (ox_struct Try.underlying35 (by kernel_rfl)
  (ox_cons rfl (by kernel_rfl) op_i64 (ox_cons rfl (by kernel_rfl) op_str (ox_cons rfl (by kernel_rfl) op_u64 (ox_cons rfl (by kernel_rfl) op_pairs ox_nil)))))
theorem op_plan : Ox Try.prog 38 planT := ox_iso _ (fun p => ⟨p.1, p.2.1, p.2.2.1, p.2.2.2.1⟩) (fun _ => rfl) (ox_struct Try.underlying38 (by kernel_rfl)
  (ox_cons rfl (by kernel_rfl) op_i64 (ox_cons rfl (by kernel_rfl) op_ans (ox_cons rfl (by kernel_rfl) op_steps (ox_cons rfl (by kernel_rfl) op_u64s ox_nil)))))
theorem op_block : Ox Try.prog 40 blockT := ox_iso _ (fun p => ⟨p.1, p.2.1, p.2.2.1, p.2.2.2.1⟩) (fun _ => rfl) (ox_struct Try.underlying40 (by kernel_rfl)
  (ox_cons rfl (by kernel_rfl) op_i64 (ox_cons rfl (by kernel_rfl) op_node (ox_cons rfl (by kernel_rfl) op_plan (ox_cons rfl (by kernel_rfl) op_pairs ox_nil)))))
theorem op_op : Ox Try.prog 42 opT := ox_iso _ (fun p => ⟨p.1, p.2.1, p.2.2.1, p.2.2.2.1, p.2.2.2.2.1⟩) (fun _ => rfl) (ox_struct Try.underlying42 (by kernel_rfl)
  (ox_cons rfl (by kernel_rfl) op_i64 (ox_cons rfl (by kernel_rfl) op_str (ox_cons rfl (by kernel_rfl) op_str (ox_cons rfl (by kernel_rfl) op_u64 (ox_cons rfl (by kernel_rfl) op_i64 ox_nil))))))
theorem op_acc : Ox Try.prog 44 accT := ox_iso _ (fun p => ⟨p.1, p.2.1, p.2.2.1, p.2.2.2.1, p.2.2.2.2.1, p.2.2.2.2.2.1⟩) (fun _ => rfl) (ox_struct Try.underlying44 (by kernel_rfl)
  (ox_cons rfl (by kernel_rfl) op_i64 (ox_cons rfl (by kernel_rfl) op_i64 (ox_cons rfl (by kernel_rfl) op_u64 (ox_cons rfl (by kernel_rfl) op_u64 (ox_cons rfl (by kernel_rfl) op_block (ox_cons rfl (by kernel_rfl) op_op ox_nil)))))))
theorem op_accs : Ox Try.prog 22 (rowC accT) := ox_row Try.underlying22 (by kernel_rfl) (by decide) op_acc
end Go.Proofs.Ytgdeiaholkmfeaa.Dp

/-
  The types of package api, opened, with the form's bound on how large a slice that came in is.
-/
namespace Go.Proofs.Ytgdeiaholkmfeaa.Dp
open Go.ChangeShapes Go.WideShapes Go.ChangeAt Go.RowKit Go.Joins Go.Deep RefP
set_option linter.unusedVariables false
set_option linter.unusedSimpArgs false
structure Oz (P : Program) (t : TypeId) {α : Type} (C : Cod α) (Sm : α → Prop) : Prop where
  out : ∀ (H : Type) (enc : TypeId × Value → H) (w : World) (base : Nat) (sp : Nat → Bool) (held : Bool) (fuel : Nat) (cs : List Value) (y : DataW H × List MemPlace), DataW.trod enc P w base sp held fuel t cs = some y → (∀ n ∈ y.1.weights P t, n ≤ reachBytes) → ∃ x, C.rep w [] cs x ∧ Sm x
structure OzAt (P : Program) (fs : List Field) (off : Nat) {α : Type} (C : Cod α) (Sm : α → Prop) : Prop where
  out : ∀ (H : Type) (enc : TypeId × Value → H) (w : World) (base : Nat) (sp : Nat → Bool) (held : Bool) (fuel : Nat) (cs : List Value), cs.length = off + C.k →
    (∀ f ∈ fs, ∃ y, DataW.trod enc P w base sp held fuel f.type ((cs.drop f.offset).take (P.cellsOf f.type)) = some y ∧ ∀ n ∈ y.1.weights P f.type, n ≤ reachBytes) → ∃ x, C.rep w [] (cs.drop off) x ∧ Sm x
theorem oz_leaf {P : Program} {t : TypeId} {α : Type} {C : Cod α} (h : Ox P t C) : Oz P t C (fun _ => True) := ⟨fun H enc w base sp held fuel cs y hy _ => by
  obtain ⟨x, hx⟩ := h.out H enc w base sp held fuel cs y hy
  exact ⟨x, hx, trivial⟩⟩
theorem oz_nil {P : Program} {off : Nat} : OzAt P [] off unitC (fun _ => True) := ⟨fun H enc w base sp held fuel cs hl h => by
  obtain ⟨x, hx⟩ := (ox_nil (P := P) (off := off)).out H enc w base sp held fuel cs hl (fun f hf => by cases hf)
  exact ⟨x, hx, trivial⟩⟩
theorem oz_cons {P : Program} {f : Field} {fs : List Field} {off : Nat} {α β : Type} {A : Cod α} {B : Cod β} {SA : α → Prop} {SB : β → Prop} (ho : f.offset = off) (hk : P.cellsOf f.type = A.k) (hA : Oz P f.type A SA) (hB : OzAt P fs (off + A.k) B SB) : OzAt P (f :: fs) off (pairC A B) (fun x => SA x.1 ∧ SB x.2) := by
  refine ⟨fun H enc w base sp held fuel cs hl h => ?_⟩
  obtain ⟨y, hy, hz⟩ := h f (by simp)
  rw [ho, hk] at hy
  obtain ⟨x, hx, sx⟩ := hA.out H enc w base sp held fuel _ y hy hz
  obtain ⟨z, hz, sz⟩ := hB.out H enc w base sp held fuel cs (by rw [hl]; show off + (A.k + B.k) = _; omega) (fun g hg => h g (by simp [hg]))
  refine ⟨(x, z), ⟨_, _, ?_, hx, hz⟩, sx, sz⟩
  rw [← List.drop_drop, List.take_append_drop]
theorem oz_struct {P : Program} {t : TypeId} {fs : Array Field} {α : Type} {C : Cod α} {Sm : α → Prop} (ht : P.underlying t = some (.struct fs)) (hk : P.cellsOf t = C.k) (h : OzAt P fs.toList 0 C Sm) : Oz P t C Sm := by
  refine ⟨fun H enc w base sp held fuel cs y hy hz => ?_⟩
  obtain ⟨xs, n, _, rfl, hl, hxs, hf⟩ := DataW.trod_struct ht hy
  obtain ⟨x, hx, sx⟩ := h.out H enc w base sp held n cs (by omega) (fun f hfm => by
    obtain ⟨i, hi, rfl⟩ := List.getElem_of_mem hfm
    have hi' : i < fs.size := by simpa using hi
    have h1 := hf i fs[i] (by simp [hi'])
    rw [List.getElem?_eq_getElem (by omega)] at h1
    refine ⟨_, by simpa using h1, fun m hm => hz m ?_⟩
    simp only [DataW.weights, ht]
    exact DataW.weights_mem_each (j := i) (t := fs[i].type) (d := (xs[i]'(by omega)).1) (by simp [hi']) (by simp [show i < xs.length by omega]) m (by simpa using hm))
  exact ⟨x, by simpa using hx, sx⟩
theorem oz_iso {P : Program} {t : TypeId} {α β : Type} {C : Cod α} {Sm : α → Prop} (f : β → α) (g : α → β) (hg : ∀ x, f (g x) = x) (h : Oz P t C Sm) : Oz P t (isoC C f) (fun x => Sm (f x)) := by
  refine ⟨fun H enc w base sp held fuel cs y hy hz => ?_⟩
  obtain ⟨x, hx, sx⟩ := h.out H enc w base sp held fuel cs y hy hz
  exact ⟨g x, by show C.rep w [] cs (f (g x)); rw [hg]; exact hx, by rw [hg]; exact sx⟩
theorem weights_all_mem {H : Type} {P : Program} {e : TypeId} : ∀ {l : List (DataW H)} {d : DataW H}, d ∈ l → ∀ n ∈ d.weights P e, n ∈ DataW.weightsAll P e l
  | d0 :: l, d, hd, n, hn => by
    simp only [DataW.weightsAll, List.mem_append]
    rcases List.mem_cons.1 hd with rfl | hd
    · exact .inl hn
    · exact .inr (weights_all_mem hd n hn)
  | [], _, hd, _, _ => by cases hd
theorem oz_row {P : Program} {t e : TypeId} {α : Type} {E : Cod α} {SE : α → Prop} (B : Nat) (ht : P.underlying t = some (.slice e)) (hk : P.cellsOf e = E.k) (hB : P.bytesOf e = B) (hpos : 0 < E.k) (h : Oz P e E SE) : Oz P t (rowC E) (fun xs => xs.length * B ≤ reachBytes ∧ ∀ x ∈ xs, SE x) := by
  refine ⟨fun H enc w base sp held fuel cs y hy hz => ?_⟩
  rcases Go.Deep.open_slice ht hy with ⟨rfl, _⟩ | ⟨a, len, cap, m, n, D, Pl, rfl, hb, hl, hm, hmm, rfl, hi⟩
  · exact ⟨[], ⟨none, 0, rfl, Nat.le_refl _, Nat.zero_le _, RowRep.nil _ _ _ _⟩, by simp, by simp⟩
  · simp only [DataW.weights, ht, hB, List.length_map, List.length_range] at hz
    have hzl : len * B ≤ reachBytes := by
      have h1 := hz _ (List.mem_cons_self ..)
      exact Nat.le_trans (Nat.mul_le_mul_right _ (Nat.le_add_right _ _)) h1
    have hE : ∀ i, i < len → ∃ x, SE x ∧ ∃ cs', E.rep w [] cs' x ∧ ∀ j v, cs'[j]? = some v → w.cell? (a.add (i * E.k + j)) = some v := by
      intro i hil
      obtain ⟨cs', hc, ht'⟩ := hi i (by rw [hmm]; split <;> omega)
      obtain ⟨x, hx, sx⟩ := h.out H enc w base sp held n cs' _ ht' (fun q hq => hz q (List.mem_cons_of_mem _ (List.mem_append_left _ (weights_all_mem (d := D i) (by simp; exact ⟨i, hil, rfl⟩) q hq))))
      rw [hk] at hc
      obtain ⟨_, hcl, hat⟩ := World.cells?_some hc
      refine ⟨x, sx, cs', hx, fun j v hj => ?_⟩
      have hj' : j < E.k := by
        rw [← hcl]
        exact (List.getElem?_eq_some_iff.1 hj).1
      rw [← Go.Deep.add_add, hat j hj', hj]
    obtain ⟨xs, hxl, hxs⟩ := list_of_get len _ hE
    refine ⟨xs, ⟨some a, cap, by rw [hxl], by rw [hxl]; exact hl, hm, fun h0 => ?_⟩, by rw [hxl]; exact hzl, fun x hx => ?_⟩
    · obtain ⟨_, cs0, hr0, hc0⟩ := hxs 0 (xs[0]'h0) (List.getElem?_eq_getElem h0)
      have hk0 := E.len hr0
      have hc00 := hc0 0 (cs0[0]'(by omega)) (List.getElem?_eq_getElem (by omega))
      obtain ⟨b, off, spot⟩ := a
      have hspot : spot = none := by simpa [Addr.add] using World.cell?_spot hc00
      subst hspot
      have hadd : ∀ i, (⟨b, off, none⟩ : Addr).add i = ⟨b, off + i, none⟩ := by
        intro i
        unfold Addr.add
        by_cases h : i = 0 <;> simp [h]
      rw [hadd] at hc00
      refine ⟨b, off, rfl, block_lt_of_cell hc00, by simp, fun i x hx => ?_⟩
      obtain ⟨_, cs', hr, hc⟩ := hxs i x hx
      refine ⟨cs', hr, fun j v hj => ?_⟩
      have := hc j v hj
      rw [hadd, ← Nat.add_assoc] at this
      exact this
    · obtain ⟨i, hi, rfl⟩ := List.getElem_of_mem hx
      exact (hxs i _ (List.getElem?_eq_getElem hi)).1
abbrev TT {α : Type} (_ : α) : Prop := True
theorem oz_i64 : Oz Try.prog 3 i64C TT := oz_leaf op_i64
theorem oz_u64 : Oz Try.prog 27 u64C TT := oz_leaf op_u64
theorem oz_str : Oz Try.prog 9 strC TT := oz_leaf op_str
theorem oz_bool : Oz Try.prog 4 boolC TT := oz_leaf op_bool
abbrev SmR {α : Type} (B : Nat) (xs : List α) : Prop := xs.length * B ≤ reachBytes ∧ ∀ x ∈ xs, TT x
theorem oz_pairs : Oz Try.prog 33 (rowC pairT) (SmR 24) := oz_row 24 Try.underlying33 (by kernel_rfl) (by kernel_rfl) (by decide) (oz_leaf op_pair)
theorem oz_steps : Oz Try.prog 36 (rowC stepT) (SmR 40) := oz_row 40 Try.underlying36 (by kernel_rfl) (by kernel_rfl) (by decide) (oz_leaf op_step)
theorem oz_words : Oz Try.prog 29 (rowC u64C) (SmR 8) := oz_row 8 Try.underlying29 (by kernel_rfl) (by kernel_rfl) (by decide) oz_u64
theorem oz_weak {P : Program} {t : TypeId} {α : Type} {C : Cod α} {Sm Sm' : α → Prop} (h : Oz P t C Sm) (k : ∀ x, Sm x → Sm' x) : Oz P t C Sm' := ⟨fun H enc w base sp held fuel cs y hy hz => by
  obtain ⟨x, hx, sx⟩ := h.out H enc w base sp held fuel cs y hy hz
  exact ⟨x, hx, k x sx⟩⟩
theorem oz_ans : Oz Try.prog 35 ansT (fun x => x.pairs.length * 24 ≤ reachBytes) := oz_weak (oz_iso _ (fun p => ⟨p.1, p.2.1, p.2.2.1, p.2.2.2.1⟩) (fun _ => rfl) (oz_struct Try.underlying35 (by kernel_rfl)
  (oz_cons rfl (by kernel_rfl) oz_i64 (oz_cons rfl (by kernel_rfl) oz_str (oz_cons rfl (by kernel_rfl) oz_u64 (oz_cons rfl (by kernel_rfl) oz_pairs oz_nil)))))) (fun x h => h.2.2.2.1.1)
theorem oz_plan : Oz Try.prog 38 planT (fun x => x.ans.pairs.length * 24 ≤ reachBytes) := oz_weak (oz_iso _ (fun p => ⟨p.1, p.2.1, p.2.2.1, p.2.2.2.1⟩) (fun _ => rfl) (oz_struct Try.underlying38 (by kernel_rfl)
  (oz_cons rfl (by kernel_rfl) oz_i64 (oz_cons rfl (by kernel_rfl) oz_ans (oz_cons rfl (by kernel_rfl) oz_steps (oz_cons rfl (by kernel_rfl) oz_words oz_nil)))))) (fun x h => h.2.1)
/-- few pairs, as the form bounds them -/
structure SmB (x : BlockV) : Prop where
  ans : x.plan.ans.pairs.length * 24 ≤ reachBytes
  pairs : x.pairs.length * 24 ≤ reachBytes
theorem oz_block : Oz Try.prog 40 blockT SmB := oz_weak (oz_iso _ (fun p => ⟨p.1, p.2.1, p.2.2.1, p.2.2.2.1⟩) (fun _ => rfl) (oz_struct Try.underlying40 (by kernel_rfl)
  (oz_cons rfl (by kernel_rfl) oz_i64 (oz_cons rfl (by kernel_rfl) (oz_leaf op_node) (oz_cons rfl (by kernel_rfl) oz_plan (oz_cons rfl (by kernel_rfl) oz_pairs oz_nil)))))) (fun x h => ⟨h.2.2.1, h.2.2.2.1.1⟩)
theorem oz_op : Oz Try.prog 42 opT (fun _ => True) := oz_leaf op_op
theorem oz_acc : Oz Try.prog 44 accT (fun x => SmB x.block) := oz_weak (oz_iso _ (fun p => ⟨p.1, p.2.1, p.2.2.1, p.2.2.2.1, p.2.2.2.2.1, p.2.2.2.2.2.1⟩) (fun _ => rfl) (oz_struct Try.underlying44 (by kernel_rfl)
  (oz_cons rfl (by kernel_rfl) oz_i64 (oz_cons rfl (by kernel_rfl) oz_i64 (oz_cons rfl (by kernel_rfl) oz_u64 (oz_cons rfl (by kernel_rfl) oz_u64 (oz_cons rfl (by kernel_rfl) oz_block (oz_cons rfl (by kernel_rfl) oz_op oz_nil)))))))) (fun x h => h.2.2.2.2.1)
theorem oz_accs : Oz Try.prog 22 (rowC accT) (fun xs => ∀ x ∈ xs, SmB x.block) := oz_weak (oz_row _ Try.underlying22 (by kernel_rfl) rfl (by decide) oz_acc) (fun x h => h.2)
theorem sized_arg {H : Type} {P : Program} {ts vs : List TypeId} {ds gs : List (DataW H)} (hz : (DataW.weightsEach P (ts ++ vs) (ds ++ gs)).all (· ≤ reachBytes) = true) {j : Nat} {t : TypeId} {d : DataW H} (ht : ts[j]? = some t) (hd : ds[j]? = some d) : ∀ n ∈ d.weights P t, n ≤ reachBytes := fun n hn => by
  have h1 := (List.getElem?_eq_some_iff.1 ht).1
  have h2 := (List.getElem?_eq_some_iff.1 hd).1
  have := List.all_eq_true.1 hz n (DataW.weights_mem_each (j := j) (t := t) (d := d) (by rw [List.getElem?_append_left h1]; exact ht) (by rw [List.getElem?_append_left h2]; exact hd) n hn)
  simpa using this
/-- an argument that is a struct, by value, or a slice -/
theorem oz_agg {P : Program} {t : TypeId} {α : Type} {C : Cod α} {Sm : α → Prop} (h : Oz P t C Sm) {H : Type} {enc : TypeId × Value → H} {W : World} {base base' : Nat} {sp : Nat → Bool} {held : Bool} {v : Value} {d : DataW H} {p : List MemPlace} {fs : Array Field} (ht : P.underlying t = some (.struct fs))
    (hv : Value.okWide P W .any base t v) (hd : DataW.Trod enc P W base' sp held t v d p) (hz : ∀ n ∈ d.weights P t, n ≤ reachBytes) : ∃ cs x, v = .agg cs ∧ C.rep W [] cs.toList x ∧ Sm x := by
  rw [Value.okWide] at hv
  rw [ht] at hv
  obtain ⟨cs, rfl, _, _⟩ := hv
  obtain ⟨fuel, hf⟩ := hd
  obtain ⟨x, hx, sx⟩ := h.out H enc W base' sp held fuel _ _ hf hz
  exact ⟨cs, x, rfl, by simpa [Value.cells] using hx, sx⟩
theorem oz_slice {P : Program} {t e : TypeId} {α : Type} {E : Cod α} {Sm : List α → Prop} (h : Oz P t (rowC E) Sm) {H : Type} {enc : TypeId × Value → H} {W : World} {base base' : Nat} {sp : Nat → Bool} {held : Bool} {v : Value} {d : DataW H} {p : List MemPlace} (ht : P.underlying t = some (.slice e))
    (hv : Value.okWide P W .any base t v) (hd : DataW.Trod enc P W base' sp held t v d p) (hz : ∀ n ∈ d.weights P t, n ≤ reachBytes) : ∃ a c xs, v = .slice a xs.length c ∧ xs.length ≤ c ∧ xs.length ≤ maxLen ∧ RowRep E W [] a xs ∧ Sm xs := by
  obtain ⟨a0, len, cap, rfl⟩ := okWide_slice ht hv
  obtain ⟨fuel, hf⟩ := hd
  obtain ⟨xs, ⟨a, c, e1, h1, h2, h3⟩, sx⟩ := h.out H enc W base' sp held fuel _ _ hf hz
  simp [Value.cells] at e1
  obtain ⟨rfl, rfl, rfl⟩ := e1
  exact ⟨a0, cap, xs, rfl, h1, Nat.le_trans h1 h2, h3, sx⟩
end Go.Proofs.Ytgdeiaholkmfeaa.Dp

/-
  A memory that was made and told some accesses, and a task of reading beside it.
-/
namespace Go.Proofs.Ytgdeiaholkmfeaa.MemP
open Go.RowKit RefP CellP Dp
set_option linter.unusedVariables false
set_option linter.unusedSimpArgs false
theorem few_of {x : AccV} (h : lightA x = true) (s : SmB x.block) : Few x.block := by
  have hr : reachBytes = 0x7ffffffff000 := rfl
  have s1 := s.ans
  have s2 := s.pairs
  simp only [lightA, lightN, Bool.and_eq_true, decide_eq_true_eq, List.all_eq_true] at h
  obtain ⟨⟨h1, h2, h3, h4, _⟩, h5, h6, h7⟩ := h
  have hs : (x.block.pairs.length : Int) + x.block.plan.ans.pairs.length ≤ 60 := by
    rw [sumW, IntKind.wrap_i64] at h7; omega
  exact ⟨by omega, by omega, by omega, by omega, by omega, by omega, by omega⟩
theorem few_all {xs : List AccV} (h : lightL xs = true) (s : ∀ x ∈ xs, SmB x.block) : ∀ x ∈ xs, Few x.block := by
  simp only [lightL, Bool.and_eq_true, List.all_eq_true] at h
  exact fun x hx => few_of (h.1 x hx) (s x hx)
theorem light_len {xs : List AccV} (h : lightL xs = true) : xs.length ≤ 60 := by
  simp only [lightL, Bool.and_eq_true, decide_eq_true_eq] at h
  exact h.2
/-- what a new memory has -/
def newV (A T : Nat) (gen : Int) : MemV := ⟨A, T, freshL A T gen, (List.replicate A blockZ).set 0 blockE, List.replicate T opZ⟩
theorem new_is {w : World} {o oc g gb gr A T : Nat} {gen : Int} (h : MemAt w o oc g gb gr A T (freshL A T gen) ((List.replicate A zb).set 0 eb) (List.replicate T zo)) : MemIs w (MemId.own ⟨o, oc, g, gb, gr⟩) ⟨o, oc, g, gb, gr⟩ (newV A T gen) := by
  refine ⟨⟨(List.replicate A zb).set 0 eb, ?_, fun i hi => ?_⟩, by simp [newV], fun x hx => ?_, fun b hb => hb⟩
  · show MemAt w o oc g gb gr A T (freshL A T gen) ((List.replicate A zb).set 0 eb) ((List.replicate T opZ).map opL)
    rw [List.map_replicate]
    exact h
  · have hi' : i < A := hi
    show IsB w _ (((List.replicate A zb).set 0 eb).getD i []) (((List.replicate A blockZ).set 0 blockE).getD i blockZ)
    by_cases h0 : i = 0
    · subst h0
      simp only [List.getD_eq_getElem?_getD, List.getElem?_set_self', List.getElem?_replicate, if_pos hi']
      exact isB_eb w _
    · simp only [List.getD_eq_getElem?_getD, List.getElem?_set_ne (show 0 ≠ i by omega), List.getElem?_replicate, if_pos hi']
      exact isB_zb w _
  · have : x = opZ := (List.mem_replicate.1 hx).2
    rw [this]; exact opZ_ok
theorem fresh_vb (A T : Nat) (gen : Int) : VB (freshL A T gen) 0 := by
  intro p hp
  simp only [freshL, List.mem_map] at hp
  obtain ⟨i, _, rfl⟩ := hp
  simp
/-- a memory, told accesses -/
structure MStep (w0 wr : World) (m : MemId) (M : MemV) (n : Nat) : Prop where
  b : Below w0.heap.size w0 wr
  mem : MemIs wr m.own m M
  sh : M.A = 5 ∧ M.T = 2 ∧ M.L.length = 21
  vb : VB M.L n
  lo : ∀ b ∈ m.own, w0.heap.size ≤ b
theorem MStep.under {w0 wr wx : World} {m : MemId} {M : MemV} {n : Nat} (h : MStep w0 wr m M n) (hb : Below wr.heap.size wr wx) : MStep w0 wx m M n :=
  ⟨below_push2 h.b hb (Nat.le_refl _), h.mem.below hb, h.sh, h.vb, h.lo⟩
theorem did_lo {m : MemId} {B : Nat} (h : ∀ b ∈ m.own, B ≤ b) : ∀ b ∈ [m.g, m.gb, m.gr], B ≤ b := by
  simp only [MemId.own, List.mem_cons, List.not_mem_nil, or_false, forall_eq_or_imp, forall_eq] at h ⊢
  exact ⟨h.2.2.1, h.2.2.2.1, h.2.2.2.2⟩
theorem MStep.did {w0 wr wx : World} {m : MemId} {M : MemV} {n : Nat} {a : AccV} {e : Ending} (h : MStep w0 wr m M n) (hn : n ≤ 100000) (d : Did wr m.own m M a e wx) : MStep w0 wx m (doV M a) (n + 1) :=
  ⟨d.fr.below h.b (Nat.le_refl _) (did_lo h.lo), d.mem, by rw [(doV_A M a).1, (doV_A M a).2, doV_len]; exact h.sh, h.vb.step hn a, h.lo⟩
/-- the cells of a task of reading -/
abbrev rdX (m : Option Addr) (th cell : Int) (x : RS) (q : NodeH) : Array Value := rdA m th x.at_ x.st x.su cell x.word x.ver (.int .i64 x.node.level) (.string x.node.low) (.string x.node.high) (.bool x.node.last) (.int .i64 x.node.next) (.slice q.keys.a x.node.keys.length q.keys.c) (.slice q.vals.a x.node.vals.length q.vals.c) (.slice q.kids.a x.node.kids.length q.kids.c)
theorem NodeOk.more' {w : World} {S S' : List Nat} {q : NodeH} {x : NodeV} (h : NodeOk w S q x) (k : ∀ b ∈ S', b ∈ S ∨ w.heap.size ≤ b) : NodeOk w S' q x := ⟨h.level, h.low, h.high, h.next, h.keys.more k, h.vals.more k, h.kids.more k⟩
/-- a task of reading beside a memory -/
structure RdIs (X : List Nat) (w0 wr : World) (m : MemId) (M : MemV) (t : Nat) (th cell : Int) (x : RS) (q : NodeH) : Prop where
  b : Below w0.heap.size w0 wr
  mem : MemIs wr (t :: (X ++ m.own)) m M
  task : Blk wr t (rdX (some ⟨m.o, 0, none⟩) th cell x q) 70
  node : NodeOk wr (t :: (X ++ m.own)) q x.node
  sh : M.A = 5 ∧ M.T = 2 ∧ M.L.length = 21
  lo : ∀ b ∈ t :: m.own, w0.heap.size ≤ b
  ne : t ∉ m.own
  xlt : ∀ b ∈ X, b < wr.heap.size
  word : U64 x.word
  ver : U64 x.ver
  at_ : x.st = 0 → 0 ≤ x.at_ ∧ x.at_ ≤ 3
theorem RdIs.under {X : List Nat} {w0 wr wx : World} {m : MemId} {M : MemV} {t : Nat} {th cell : Int} {x : RS} {q : NodeH} (h : RdIs X w0 wr m M t th cell x q) (hb : Below wr.heap.size wr wx) : RdIs X w0 wx m M t th cell x q :=
  ⟨below_push2 h.b hb (Nat.le_refl _), h.mem.below hb, h.task.below hb, h.node.keep (Keeps.of_below hb), h.sh, h.lo, h.ne, fun b hx => Nat.lt_of_lt_of_le (h.xlt b hx) hb.size, h.word, h.ver, h.at_⟩
theorem RdIs.lt {X : List Nat} {w0 wr : World} {m : MemId} {M : MemV} {t : Nat} {th cell : Int} {x : RS} {q : NodeH} (h : RdIs X w0 wr m M t th cell x q) : ∀ b ∈ t :: (X ++ m.own), b < wr.heap.size := by
  intro b hb
  rcases List.mem_cons.1 hb with rfl | hb
  · exact h.task.lt
  · rcases List.mem_append.1 hb with hb | hb
    · exact h.xlt b hb
    · exact h.mem.lt b hb
theorem RdIs.dis {X : List Nat} {w0 wr : World} {m : MemId} {M : MemV} {t : Nat} {th cell : Int} {x : RS} {q : NodeH} (h : RdIs X w0 wr m M t th cell x q) : ¬ m.o = t ∧ ¬ m.oc = t ∧ ¬ m.g = t ∧ ¬ m.gb = t ∧ ¬ m.gr = t := by
  have := h.ne
  simp only [MemId.own, List.mem_cons, List.not_mem_nil, or_false, not_or] at this
  exact ⟨fun e => this.1 e.symm, fun e => this.2.1 e.symm, fun e => this.2.2.1 e.symm, fun e => this.2.2.2.1 e.symm, fun e => this.2.2.2.2 e.symm⟩
theorem RdIs.did {X : List Nat} {w0 wr wx : World} {m : MemId} {M : MemV} {t : Nat} {th cell : Int} {x : RS} {q : NodeH} {a : AccV} {e : Ending} (h : RdIs X w0 wr m M t th cell x q) (d : Did wr (t :: (X ++ m.own)) m M a e wx) : RdIs X w0 wx m (doV M a) t th cell x q := by
  have h3 : ∀ b ∈ [m.g, m.gb, m.gr], b ∈ m.own := by simp [MemId.own]
  exact ⟨d.fr.below h.b (Nat.le_refl _) (did_lo fun b hb => h.lo b (List.mem_cons_of_mem _ hb)), d.mem, d.fr.blk h.task (fun e => h.ne (h3 _ e)), h.node.keep (d.fr.keeps.more fun b hb => List.mem_cons_of_mem _ (List.mem_append_right _ (h3 b hb))),
    by rw [(doV_A M a).1, (doV_A M a).2, doV_len]; exact h.sh, h.lo, h.ne, fun b hx => Nat.lt_of_lt_of_le (h.xlt b hx) d.fr.size, h.word, h.ver, h.at_⟩
theorem RdIs.told {X : List Nat} {w0 wr wx : World} {m : MemId} {M : MemV} {t : Nat} {th cell : Int} {x x' : RS} {q q' : NodeH} (h : RdIs X w0 wr m M t th cell x q) (B : Blk wx t (rdX (some ⟨m.o, 0, none⟩) th cell x' q') 70) (F : Fr [t] wr wx) (hN : NodeOk wx (t :: (X ++ m.own)) q' x'.node) (hw : U64 x'.word) (hv : U64 x'.ver) (ha : x'.st = 0 → 0 ≤ x'.at_ ∧ x'.at_ ≤ 3) : RdIs X w0 wx m M t th cell x' q' :=
  ⟨F.below h.b (Nat.le_refl _) (by simp only [List.mem_singleton, forall_eq]; exact h.lo t (by simp)), h.mem.keep F (by simp) (fun b hb e => h.ne (by simp at e; exact e ▸ hb)), B, hN, h.sh, h.lo, h.ne, fun b hx => Nat.lt_of_lt_of_le (h.xlt b hx) F.size, hw, hv, ha⟩
/-- the task is new -/
theorem RdIs.start {X : List Nat} {w0 wr : World} {m : MemId} {M : MemV} {n : Nat} (h : MStep w0 wr m M n) (th cell : Int) :
    RdIs [] w0 (wr.alloc (.cells (rdX (some ⟨m.o, 0, none⟩) th cell rs0 nilH.node) 70)) m M wr.heap.size th cell rs0 nilH.node := by
  have hb : Below wr.heap.size wr (wr.alloc (.cells (rdX (some ⟨m.o, 0, none⟩) th cell rs0 nilH.node) 70)) := (Below.refl _ wr).alloc (Nat.le_refl _) _
  have hl := h.mem.lt
  have hs := h.b.size
  refine ⟨below_push2 h.b hb (Nat.le_refl _), ?_, Blk.new _ _ _, (blockZ_ok _ _).node, h.sh, ?_, fun e => ?_, by simp, ⟨by decide, by decide⟩, ⟨by decide, by decide⟩, fun _ => ⟨by decide, by decide⟩⟩
  · refine (h.mem.more (S' := wr.heap.size :: m.own) (fun b hb => ?_) (fun b hb => List.mem_cons_of_mem _ hb)).below hb
    rcases List.mem_cons.1 hb with rfl | hb
    · exact .inr (Nat.le_refl _)
    · exact .inl hb
  · intro b hb
    rcases List.mem_cons.1 hb with rfl | hb
    · exact hs
    · exact h.lo b hb
  · have := hl _ e; omega
/-- another thing beside it -/
theorem RdIs.beside {w0 wr : World} {m : MemId} {M : MemV} {t : Nat} {th cell : Int} {x : RS} {q : NodeH} (h : RdIs [] w0 wr m M t th cell x q) (o : Obj) : RdIs [wr.heap.size] w0 (wr.alloc o) m M t th cell x q := by
  have hb : Below wr.heap.size wr (wr.alloc o) := (Below.refl _ wr).alloc (Nat.le_refl _) _
  have h1 := h.under hb
  have hk : ∀ b ∈ t :: ([wr.heap.size] ++ m.own), b ∈ t :: ([] ++ m.own) ∨ wr.heap.size ≤ b := by
    intro b hb
    rcases List.mem_cons.1 hb with rfl | hb
    · exact .inl (by simp)
    · rcases List.mem_append.1 hb with hb | hb
      · simp at hb; exact .inr (by omega)
      · exact .inl (List.mem_cons_of_mem _ (List.mem_append_right _ hb))
  exact ⟨h1.b, (h.mem.more hk (fun b hb => List.mem_cons_of_mem _ (List.mem_append_right _ hb))).below hb, h1.task, (NodeOk.more' h.node hk).keep (Keeps.of_below hb), h1.sh, h1.lo, h1.ne, by simp, h1.word, h1.ver, h1.at_⟩
/-- it was written -/
theorem RdIs.side {X : List Nat} {w0 wr wx : World} {m : MemId} {M : MemV} {t : Nat} {th cell : Int} {x : RS} {q : NodeH} (h : RdIs X w0 wr m M t th cell x q) (F : Fr X wr wx) (h0 : ∀ b ∈ X, w0.heap.size ≤ b ∧ b ≠ t ∧ b ∉ m.own) : RdIs X w0 wx m M t th cell x q :=
  ⟨F.below h.b (Nat.le_refl _) (fun b hb => (h0 b hb).1), h.mem.keep F (fun b hb => List.mem_cons_of_mem _ (List.mem_append_left _ hb)) (fun b hb hx => (h0 b hx).2.2 hb), F.blk h.task (fun e => (h0 t e).2.1 rfl), h.node.keep (F.keeps.more fun b hb => List.mem_cons_of_mem _ (List.mem_append_left _ hb)), h.sh, h.lo, h.ne, fun b hx => Nat.lt_of_lt_of_le (h.xlt b hx) F.size, h.word, h.ver, h.at_⟩
/-- Next -/
theorem rd_next {X : List Nat} {w0 wr : World} {m : MemId} {M : MemV} {t : Nat} {th cell : Int} {x : RS} {q : NodeH} (h : RdIs X w0 wr m M t th cell x q) (t0 : 0 ≤ th) (t1 : th < 2) (l0 : 0 ≤ cell) (l1 : cell < 5) (hx : x.st = 0) :
    Calls Try.prog 11 #[.pointer (some ⟨t, 0, none⟩)] wr fun e w' => e = .returned (.tuple #[.agg (acc26 nilH (rsAcc 5 2 th cell x)).toArray, .bool true]) ∧ Below wr.heap.size wr w' := by
  obtain ⟨bs, hM⟩ := h.mem.at_
  obtain ⟨a0, a1⟩ := h.at_ hx
  have B := h.task
  have sA := h.sh.1
  have sT := h.sh.2.1
  obtain ⟨at_, st, su, word, ver, node⟩ := x
  simp only at hx a0 a1 B ⊢
  subst hx
  have hc : at_ = 0 ∨ at_ = 1 ∨ at_ = 2 ∨ at_ = 3 := by omega
  rw [← sA, ← sT]
  rcases hc with rfl | rfl | rfl | rfl
  · exact rdNext_0 t th su cell word ver _ _ _ _ _ _ _ _ wr hM B t0 (by omega) l0 (by omega)
  · exact rdNext_1 t th su cell word ver _ _ _ _ _ _ _ _ wr hM B t0 (by omega) l0 (by omega)
  · exact rdNext_2 t th su cell word ver _ _ _ _ _ _ _ _ wr hM B t0 (by omega) l0 (by omega)
  · exact rdNext_3 t th su cell word ver _ _ _ _ _ _ _ _ wr hM B t0 (by omega) l0 (by omega)
theorem rd_over {X : List Nat} {w0 wr : World} {m : MemId} {M : MemV} {t : Nat} {th cell : Int} {x : RS} {q : NodeH} (h : RdIs X w0 wr m M t th cell x q) (t0 : 0 ≤ th) (t1 : th < 2) (l0 : 0 ≤ cell) (l1 : cell < 5) (hx : x.st ≠ 0) :
    Calls Try.prog 11 #[.pointer (some ⟨t, 0, none⟩)] wr fun e w' => e = .returned (.tuple #[.agg (accY 0 0 0 0), .bool false]) ∧ Below wr.heap.size wr w' := by
  obtain ⟨bs, hM⟩ := h.mem.at_
  have sA := h.sh.1
  have sT := h.sh.2.1
  exact rdNext_over t th x.at_ x.st x.su cell x.word x.ver _ _ _ _ _ _ _ _ wr hM h.task t0 (by omega) l0 (by omega) hx
/-- Tell -/
def ToldAt (X : List Nat) (w0 wr : World) (m : MemId) (M : MemV) (t : Nat) (th cell : Int) (x : RS) (e : Ending) (w' : World) : Prop := e = .returned (.tuple #[]) ∧ ∃ q', RdIs X w0 w' m M t th cell x q' ∧ Fr [t] wr w'
theorem rd_tell {X : List Nat} {w0 wr : World} {m : MemId} {M : MemV} {t : Nat} {th cell : Int} {x : RS} {q : NodeH} {qr : BlockH} {r : ReplyV} (h : RdIs X w0 wr m M t th cell x q) (t0 : 0 ≤ th) (t1 : th < 2) (l0 : 0 ≤ cell) (l1 : cell < 5) (hx : x.st = 0)
    (hr : RepOk wr (t :: (X ++ m.own)) qr r) (hz : x.at_ ≠ 3 → qr = nilH ∧ r.block = blockZ ∧ r.op = opZ) :
    Calls Try.prog 17 #[.pointer (some ⟨t, 0, none⟩), .agg (repA qr r)] wr fun e w' => ToldAt X w0 wr m M t th cell (rsTell x r) e w' := by
  obtain ⟨bs, hM⟩ := h.mem.at_
  obtain ⟨a0, a1⟩ := h.at_ hx
  have B := h.task
  have hN := h.node
  have hdis := h.dis
  have sA := h.sh.1
  have sT := h.sh.2.1
  have hw := h.word
  have hv := h.ver
  obtain ⟨at_, st, su, word, ver, node⟩ := x
  simp only at hx a0 a1 B hz hN hw hv ⊢
  subst hx
  have hc : at_ = 0 ∨ at_ = 1 ∨ at_ = 2 ∨ at_ = 3 := by omega
  rcases hc with rfl | rfl | rfl | rfl
  · obtain ⟨rfl, e1, e2⟩ := hz (by decide)
    obtain ⟨ok, rw_, rv, rb, ro⟩ := r
    simp only at e1 e2
    subst e1 e2
    cases hop : opensB rw_
    · refine (show Calls _ _ _ _ _ from rdTell_0no t th su cell word ver _ _ _ _ _ _ _ _ wr hM t0 (by omega) l0 (by omega) hdis B ok rw_ rv hr.word.1 hr.word.2 hop).mono ?_
      rintro e w' ⟨rfl, B', F⟩
      have hE : rsTell ⟨0, 0, su, word, ver, node⟩ ⟨ok, rw_, rv, blockZ, opZ⟩ = ⟨1, 1, false, rw_, rv, node⟩ := by simp [rsTell, hop]
      rw [hE]
      exact ⟨rfl, q, h.told B' F (hN.keep (F.keeps.more (by simp))) hr.word hr.ver (fun e => absurd e (by simp)), F⟩
    · refine (show Calls _ _ _ _ _ from rdTell_0 t th su cell word ver _ _ _ _ _ _ _ _ wr hM t0 (by omega) l0 (by omega) hdis B ok rw_ rv hr.word.1 hr.word.2 hop).mono ?_
      rintro e w' ⟨rfl, B', F⟩
      have hE : rsTell ⟨0, 0, su, word, ver, node⟩ ⟨ok, rw_, rv, blockZ, opZ⟩ = ⟨1, 0, false, rw_, rv, node⟩ := by simp [rsTell, hop]
      rw [hE]
      exact ⟨rfl, q, h.told B' F (hN.keep (F.keeps.more (by simp))) hr.word hr.ver (fun _ => by simp), F⟩
  · obtain ⟨rfl, e1, e2⟩ := hz (by decide)
    obtain ⟨ok, rw_, rv, rb, ro⟩ := r
    simp only at e1 e2
    subst e1 e2
    refine (show Calls _ _ _ _ _ from rdTell_1 t th su cell word ver _ _ _ _ _ _ _ _ wr hM t0 (by omega) l0 (by omega) hdis B ok rw_ rv).mono ?_
    rintro e w' ⟨rfl, B', F⟩
    have hE : rsTell ⟨1, 0, su, word, ver, node⟩ ⟨ok, rw_, rv, blockZ, opZ⟩ = ⟨2, 0, false, word, ver, node⟩ := by simp [rsTell]
    rw [hE]
    exact ⟨rfl, q, h.told B' F (hN.keep (F.keeps.more (by simp))) hw hv (fun _ => by simp), F⟩
  · obtain ⟨rfl, e1, e2⟩ := hz (by decide)
    obtain ⟨ok, rw_, rv, rb, ro⟩ := r
    simp only at e1 e2
    subst e1 e2
    by_cases hve : rv = ver
    · subst hve
      refine (show Calls _ _ _ _ _ from rdTell_2 t th su cell word rv _ _ _ _ _ _ _ _ wr hM t0 (by omega) l0 (by omega) hdis B ok rw_).mono ?_
      rintro e w' ⟨rfl, B', F⟩
      have hE : rsTell ⟨2, 0, su, word, rv, node⟩ ⟨ok, rw_, rv, blockZ, opZ⟩ = ⟨3, 0, true, word, rv, node⟩ := by simp [rsTell]
      rw [hE]
      exact ⟨rfl, q, h.told B' F (hN.keep (F.keeps.more (by simp))) hw hv (fun _ => by simp), F⟩
    · refine (show Calls _ _ _ _ _ from rdTell_2no t th su cell word ver _ _ _ _ _ _ _ _ wr hM t0 (by omega) l0 (by omega) hdis B ok rw_ rv hve).mono ?_
      rintro e w' ⟨rfl, B', F⟩
      have hE : rsTell ⟨2, 0, su, word, ver, node⟩ ⟨ok, rw_, rv, blockZ, opZ⟩ = ⟨3, 2, false, word, ver, node⟩ := by simp [rsTell, hve]
      rw [hE]
      exact ⟨rfl, q, h.told B' F (hN.keep (F.keeps.more (by simp))) hw hv (fun e => absurd e (by simp)), F⟩
  · have hNr := hr.block.node
    by_cases hok : r.ok = true
    · by_cases hk : r.block.kind = 1
      · refine (show Calls _ _ _ _ _ from rdTell_3got t th su cell word ver _ _ _ _ _ _ _ _ wr hM t0 (by omega) l0 (by omega) hdis B qr r ⟨hok, hk⟩).mono ?_
        rintro e w' ⟨rfl, B', F⟩
        have hE : rsTell ⟨3, 0, su, word, ver, node⟩ r = ⟨4, 4, false, word, ver, r.block.node⟩ := by simp [rsTell, hok, hk]
        rw [hE]
        exact ⟨rfl, qr.node, h.told B' F (hNr.keep (F.keeps.more (by simp))) hw hv (fun e => absurd e (by simp)), F⟩
      · refine (show Calls _ _ _ _ _ from rdTell_3other t th su cell word ver _ _ _ _ _ _ _ _ wr hM t0 (by omega) l0 (by omega) hdis B qr r ⟨hok, hk⟩).mono ?_
        rintro e w' ⟨rfl, B', F⟩
        have hE : rsTell ⟨3, 0, su, word, ver, node⟩ r = ⟨4, 3, false, word, ver, r.block.node⟩ := by simp [rsTell, hok, hk]
        rw [hE]
        exact ⟨rfl, qr.node, h.told B' F (hNr.keep (F.keeps.more (by simp))) hw hv (fun e => absurd e (by simp)), F⟩
    · have hok' : r.ok = false := by simpa using hok
      refine (show Calls _ _ _ _ _ from rdTell_3bad t th su cell word ver _ _ _ _ _ _ _ _ wr hM t0 (by omega) l0 (by omega) hdis B qr r hok').mono ?_
      rintro e w' ⟨rfl, B', F⟩
      have hE : rsTell ⟨3, 0, su, word, ver, node⟩ r = ⟨4, 3, false, word, ver, r.block.node⟩ := by simp [rsTell, hok']
      rw [hE]
      exact ⟨rfl, qr.node, h.told B' F (hNr.keep (F.keeps.more (by simp))) hw hv (fun e => absurd e (by simp)), F⟩
theorem RepOk.keep {w w' : World} {S : List Nat} {q : BlockH} {r : ReplyV} (h : RepOk w S q r) (k : Keeps S w w') : RepOk w' S q r := ⟨h.word, h.ver, h.block.keep k, h.few, h.op⟩
theorem RepOk.more {w : World} {S S' : List Nat} {q : BlockH} {r : ReplyV} (h : RepOk w S q r) (k : ∀ b ∈ S', b ∈ S ∨ w.heap.size ≤ b) : RepOk w S' q r := ⟨h.word, h.ver, h.block.more k, h.few, h.op⟩
/-- the task's own access: its reply -/
theorem rs_rep {M : MemV} {A T : Nat} {th cell : Int} {x : RS} (hx : x.at_ ≠ 3) : (rsAcc A T th cell x).kind ≠ 4 ∧ (repV M (rsAcc A T th cell x)).block = blockZ ∧ (repV M (rsAcc A T th cell x)).op = opZ := by
  by_cases h1 : x.at_ = 1
  · have e : rsAcc A T th cell x = ⟨2, hazI A T th 1, 0, x.word, blockZ, opZ⟩ := by simp [rsAcc, h1]
    rw [e]; refine ⟨by simp, ?_, ?_⟩ <;> simp [repV]
  · have e : rsAcc A T th cell x = ⟨1, atI A T 0 cell, 0, 0, blockZ, opZ⟩ := by simp [rsAcc, h1, hx]
    rw [e]; refine ⟨by simp, ?_, ?_⟩ <;> simp [repV]
theorem rs_ok {w : World} {A T : Nat} {th cell : Int} {x : RS} (hA : A ≤ 8192) (hT : T ≤ 16) (h1 : U64 x.word) : AccOk w [] nilH (rsAcc A T th cell x) := by
  have h0 : I64 (atI A T 0 cell) := by
    by_cases hc : 0 ≤ cell ∧ cell < sizeI A T 0
    · rw [atI_yes hc.1 hc.2]
      have h1 := hc.1
      have h2 : cell < (A : Int) := hc.2
      have h3 : fromI A T 0 = 0 := rfl
      rw [h3]; unfold I64; omega
    · rw [atI_no hc]; exact ⟨by decide, by decide⟩
  have h2 : I64 (hazI A T th 1) := by
    unfold hazI I64
    split <;> omega
  have b := blockZ_ok w []
  have i0 : ∀ k : Int, 0 ≤ k → k ≤ 10 → I64 k := fun k _ _ => by unfold I64; omega
  have u0 : U64 0 := ⟨by decide, by decide⟩
  unfold rsAcc
  split
  · exact ⟨i0 2 (by decide) (by decide), h2, u0, h1, b, opZ_ok⟩
  · split
    · exact ⟨i0 4 (by decide) (by decide), i0 0 (by decide) (by decide), u0, h1, b, opZ_ok⟩
    · exact ⟨i0 1 (by decide) (by decide), h0, u0, u0, b, opZ_ok⟩
theorem rs_few {A T : Nat} {th cell : Int} {x : RS} : Few (rsAcc A T th cell x).block := by
  unfold rsAcc
  split
  · exact fewZ
  · split <;> exact fewZ
end Go.Proofs.Ytgdeiaholkmfeaa.MemP

/-
  bowerref30: the document's reading: Next, Tell: contracts.
-/
namespace Go.Proofs.Ytgdeiaholkmfeaa.MemP
open Go.RowKit RefP CellP Dp
set_option linter.unusedVariables false
set_option linter.unusedSimpArgs false
/-- the cells of the document's reading -/
abbrev dsA (cell hz : Int) (x : RS) (q : NodeH) : Array Value := #[.int .i64 cell, .int .i64 hz, .int .i64 x.at_, .int .i64 x.st, .bool x.su, .int .i64 cell, .int .u64 x.word, .int .u64 x.ver, .int .i64 x.node.level, .string x.node.low, .string x.node.high, .bool x.node.last, .int .i64 x.node.next, .slice q.keys.a x.node.keys.length q.keys.c, .slice q.vals.a x.node.vals.length q.vals.c, .slice q.kids.a x.node.kids.length q.kids.c]
abbrev dsZ : Array Value := #[.int .i64 0, .int .i64 0, .int .i64 0, .int .i64 0, .bool false, .int .i64 0, .int .u64 0, .int .u64 0, .int .i64 0, .string ⟨#[]⟩, .string ⟨#[]⟩, .bool false, .int .i64 0, .slice none 0 0, .slice none 0 0, .slice none 0 0]
/-- behind a reply -/
def dsTell (x : RS) (r : ReplyV) : RS :=
  if x.at_ = 0 then ⟨1, if opensB r.word = true then 0 else 1, false, r.word, r.ver, x.node⟩
  else if x.at_ = 1 then ⟨2, 0, false, x.word, x.ver, x.node⟩
  else if x.at_ = 2 then (if r.ver = x.ver then ⟨3, 0, true, x.word, x.ver, x.node⟩ else ⟨3, 2, false, x.word, x.ver, x.node⟩)
  else (if r.ok = true ∧ r.block.kind = 1 then ⟨4, 4, false, x.word, x.ver, r.block.node⟩ else ⟨4, 3, false, x.word, x.ver, x.node⟩)
set_option maxRecDepth 100000 in
set_option maxHeartbeats 3200000 in
theorem dsNext_over (cell hz at_ st : Int) (su : Bool) (word ver : Int) (node : NodeV) (q : NodeH) (w : World) (hst : st ≠ 0) :
    Calls Try.prog 14 #[.agg (dsA cell hz ⟨at_, st, su, word, ver, node⟩ q)] w fun e w' => e = .returned (.tuple #[.agg (accY 0 0 0 0), .bool false]) ∧ Below w.heap.size w w' := by
  have s1 : (st != 0) = true := by simpa using hst
  have hb0 : Below w.heap.size w ((w.alloc (.cells (dsA cell hz ⟨at_, st, su, word, ver, node⟩ q) 58)).alloc (.cells (accY 0 0 0 0) 44)) := by (repeat (first | exact Below.refl _ _ | assumption | refine below_alloc2 ?_ (by first | exact Nat.le_refl _ | omega) _ | refine Below.drew ?_ | refine below_drewN ?_ _ | refine below_push2 ?_ ‹_› (by first | exact Nat.le_refl _ | omega) | refine Below.setCell ?_ (by first | (simp; done) | (simp; omega) | omega) _))
  have BX := (Blk.new w (dsA cell hz ⟨at_, st, su, word, ver, node⟩ q) 58).alloc (.cells (accY 0 0 0 0) 44)
  have BR : Blk ((w.alloc (.cells (dsA cell hz ⟨at_, st, su, word, ver, node⟩ q) 58)).alloc (.cells (accY 0 0 0 0) 44)) (w.heap.size + 1) (accY 0 0 0 0) 44 := by
    have := Blk.new (w.alloc (.cells (dsA cell hz ⟨at_, st, su, word, ver, node⟩ q) 58)) (accY 0 0 0 0) 44
    simpa using this
  go_enter Try.func14, Try.ntmps14
  go_upto_region 1 with (fail)
  generalize ((w.alloc (.cells (dsA cell hz ⟨at_, st, su, word, ver, node⟩ q) 58)).alloc (.cells (accY 0 0 0 0) 44)) = w1 at hb0 BX BR ⊢
  have c0 : w1.cell? ⟨w.heap.size, 0, none⟩ = some (.int .i64 cell) := BX.at 0 rfl
  have c1 : w1.cell? ⟨w.heap.size, 1, none⟩ = some (.int .i64 hz) := BX.at 1 rfl
  have c2 : w1.cell? ⟨w.heap.size, 2, none⟩ = some (.int .i64 at_) := BX.at 2 rfl
  have c3 : w1.cell? ⟨w.heap.size, 3, none⟩ = some (.int .i64 st) := BX.at 3 rfl
  have c6 : w1.cell? ⟨w.heap.size, 6, none⟩ = some (.int .u64 word) := BX.at 6 rfl
  go_wp2_with (refine wpList_store_row rfl 44 _ _ rfl (w.heap.size + 1) _ rfl rfl 44 _ BR.h (by kernel_rfl) (by rfl) (by kernel_rfl) ?_)
  refine bodyPost_ret (v := .tuple #[.agg (accY 0 0 0 0), .bool false]) (results_cell_tmp rfl _ _ (w.heap.size + 1) 44 (accY 0 0 0 0) (0, 0) _ (.bool false) rfl rfl (Blk.row BR (accY 0 0 0 0)).h Try.underlying44 rfl (by kernel_rfl)) rfl ⟨rfl, below_setRow hb0 (by omega) _⟩
set_option maxRecDepth 100000 in
set_option maxHeartbeats 3200000 in
theorem dsNext_1 (cell hz : Int) (su : Bool) (word ver : Int) (node : NodeV) (q : NodeH) (w : World) :
    Calls Try.prog 14 #[.agg (dsA cell hz ⟨1, 0, su, word, ver, node⟩ q)] w fun e w' => e = .returned (.tuple #[.agg (accY 2 hz 0 word), .bool true]) ∧ Below w.heap.size w w' := by
  have hb0 : Below w.heap.size w ((w.alloc (.cells (dsA cell hz ⟨1, 0, su, word, ver, node⟩ q) 58)).alloc (.cells (accY 0 0 0 0) 44)) := by (repeat (first | exact Below.refl _ _ | assumption | refine below_alloc2 ?_ (by first | exact Nat.le_refl _ | omega) _ | refine Below.drew ?_ | refine below_drewN ?_ _ | refine below_push2 ?_ ‹_› (by first | exact Nat.le_refl _ | omega) | refine Below.setCell ?_ (by first | (simp; done) | (simp; omega) | omega) _))
  have BX := (Blk.new w (dsA cell hz ⟨1, 0, su, word, ver, node⟩ q) 58).alloc (.cells (accY 0 0 0 0) 44)
  have BR : Blk ((w.alloc (.cells (dsA cell hz ⟨1, 0, su, word, ver, node⟩ q) 58)).alloc (.cells (accY 0 0 0 0) 44)) (w.heap.size + 1) (accY 0 0 0 0) 44 := by
    have := Blk.new (w.alloc (.cells (dsA cell hz ⟨1, 0, su, word, ver, node⟩ q) 58)) (accY 0 0 0 0) 44
    simpa using this
  go_enter Try.func14, Try.ntmps14
  go_upto_region 1 with (fail)
  generalize ((w.alloc (.cells (dsA cell hz ⟨1, 0, su, word, ver, node⟩ q) 58)).alloc (.cells (accY 0 0 0 0) 44)) = w1 at hb0 BX BR ⊢
  have c0 : w1.cell? ⟨w.heap.size, 0, none⟩ = some (.int .i64 cell) := BX.at 0 rfl
  have c1 : w1.cell? ⟨w.heap.size, 1, none⟩ = some (.int .i64 hz) := BX.at 1 rfl
  have c2 : w1.cell? ⟨w.heap.size, 2, none⟩ = some (.int .i64 1) := BX.at 2 rfl
  have c3 : w1.cell? ⟨w.heap.size, 3, none⟩ = some (.int .i64 0) := BX.at 3 rfl
  have c6 : w1.cell? ⟨w.heap.size, 6, none⟩ = some (.int .u64 word) := BX.at 6 rfl
  go_wp2_with (refine wpList_store_row rfl 44 _ _ rfl (w.heap.size + 1) _ rfl rfl 44 _ BR.h (by kernel_rfl) (by rfl) (by kernel_rfl) ?_)
  refine bodyPost_ret (v := .tuple #[.agg (accY 2 hz 0 word), .bool true]) (results_cell_tmp rfl _ _ (w.heap.size + 1) 44 (accY 2 hz 0 word) (0, 0) _ (.bool true) rfl rfl (Blk.row BR (accY 2 hz 0 word)).h Try.underlying44 rfl (by kernel_rfl)) rfl ⟨rfl, below_setRow hb0 (by omega) _⟩
set_option maxRecDepth 100000 in
set_option maxHeartbeats 3200000 in
theorem dsNext_3 (cell hz : Int) (su : Bool) (word ver : Int) (node : NodeV) (q : NodeH) (w : World) :
    Calls Try.prog 14 #[.agg (dsA cell hz ⟨3, 0, su, word, ver, node⟩ q)] w fun e w' => e = .returned (.tuple #[.agg (accY 4 0 0 word), .bool true]) ∧ Below w.heap.size w w' := by
  have hb0 : Below w.heap.size w ((w.alloc (.cells (dsA cell hz ⟨3, 0, su, word, ver, node⟩ q) 58)).alloc (.cells (accY 0 0 0 0) 44)) := by (repeat (first | exact Below.refl _ _ | assumption | refine below_alloc2 ?_ (by first | exact Nat.le_refl _ | omega) _ | refine Below.drew ?_ | refine below_drewN ?_ _ | refine below_push2 ?_ ‹_› (by first | exact Nat.le_refl _ | omega) | refine Below.setCell ?_ (by first | (simp; done) | (simp; omega) | omega) _))
  have BX := (Blk.new w (dsA cell hz ⟨3, 0, su, word, ver, node⟩ q) 58).alloc (.cells (accY 0 0 0 0) 44)
  have BR : Blk ((w.alloc (.cells (dsA cell hz ⟨3, 0, su, word, ver, node⟩ q) 58)).alloc (.cells (accY 0 0 0 0) 44)) (w.heap.size + 1) (accY 0 0 0 0) 44 := by
    have := Blk.new (w.alloc (.cells (dsA cell hz ⟨3, 0, su, word, ver, node⟩ q) 58)) (accY 0 0 0 0) 44
    simpa using this
  go_enter Try.func14, Try.ntmps14
  go_upto_region 1 with (fail)
  generalize ((w.alloc (.cells (dsA cell hz ⟨3, 0, su, word, ver, node⟩ q) 58)).alloc (.cells (accY 0 0 0 0) 44)) = w1 at hb0 BX BR ⊢
  have c0 : w1.cell? ⟨w.heap.size, 0, none⟩ = some (.int .i64 cell) := BX.at 0 rfl
  have c1 : w1.cell? ⟨w.heap.size, 1, none⟩ = some (.int .i64 hz) := BX.at 1 rfl
  have c2 : w1.cell? ⟨w.heap.size, 2, none⟩ = some (.int .i64 3) := BX.at 2 rfl
  have c3 : w1.cell? ⟨w.heap.size, 3, none⟩ = some (.int .i64 0) := BX.at 3 rfl
  have c6 : w1.cell? ⟨w.heap.size, 6, none⟩ = some (.int .u64 word) := BX.at 6 rfl
  go_wp2_with (refine wpList_store_row rfl 44 _ _ rfl (w.heap.size + 1) _ rfl rfl 44 _ BR.h (by kernel_rfl) (by rfl) (by kernel_rfl) ?_)
  refine bodyPost_ret (v := .tuple #[.agg (accY 4 0 0 word), .bool true]) (results_cell_tmp rfl _ _ (w.heap.size + 1) 44 (accY 4 0 0 word) (0, 0) _ (.bool true) rfl rfl (Blk.row BR (accY 4 0 0 word)).h Try.underlying44 rfl (by kernel_rfl)) rfl ⟨rfl, below_setRow hb0 (by omega) _⟩
set_option maxRecDepth 100000 in
set_option maxHeartbeats 3200000 in
theorem dsNext_0 (cell hz : Int) (su : Bool) (word ver : Int) (node : NodeV) (q : NodeH) (w : World) :
    Calls Try.prog 14 #[.agg (dsA cell hz ⟨0, 0, su, word, ver, node⟩ q)] w fun e w' => e = .returned (.tuple #[.agg (accY 1 cell 0 0), .bool true]) ∧ Below w.heap.size w w' := by
  have hb0 : Below w.heap.size w ((w.alloc (.cells (dsA cell hz ⟨0, 0, su, word, ver, node⟩ q) 58)).alloc (.cells (accY 0 0 0 0) 44)) := by (repeat (first | exact Below.refl _ _ | assumption | refine below_alloc2 ?_ (by first | exact Nat.le_refl _ | omega) _ | refine Below.drew ?_ | refine below_drewN ?_ _ | refine below_push2 ?_ ‹_› (by first | exact Nat.le_refl _ | omega) | refine Below.setCell ?_ (by first | (simp; done) | (simp; omega) | omega) _))
  have BX := (Blk.new w (dsA cell hz ⟨0, 0, su, word, ver, node⟩ q) 58).alloc (.cells (accY 0 0 0 0) 44)
  have BR : Blk ((w.alloc (.cells (dsA cell hz ⟨0, 0, su, word, ver, node⟩ q) 58)).alloc (.cells (accY 0 0 0 0) 44)) (w.heap.size + 1) (accY 0 0 0 0) 44 := by
    have := Blk.new (w.alloc (.cells (dsA cell hz ⟨0, 0, su, word, ver, node⟩ q) 58)) (accY 0 0 0 0) 44
    simpa using this
  go_enter Try.func14, Try.ntmps14
  go_upto_region 1 with (fail)
  generalize ((w.alloc (.cells (dsA cell hz ⟨0, 0, su, word, ver, node⟩ q) 58)).alloc (.cells (accY 0 0 0 0) 44)) = w1 at hb0 BX BR ⊢
  have c0 : w1.cell? ⟨w.heap.size, 0, none⟩ = some (.int .i64 cell) := BX.at 0 rfl
  have c1 : w1.cell? ⟨w.heap.size, 1, none⟩ = some (.int .i64 hz) := BX.at 1 rfl
  have c2 : w1.cell? ⟨w.heap.size, 2, none⟩ = some (.int .i64 0) := BX.at 2 rfl
  have c3 : w1.cell? ⟨w.heap.size, 3, none⟩ = some (.int .i64 0) := BX.at 3 rfl
  have c6 : w1.cell? ⟨w.heap.size, 6, none⟩ = some (.int .u64 word) := BX.at 6 rfl
  go_wp2_with (refine wpList_store_row rfl 44 _ _ rfl (w.heap.size + 1) _ rfl rfl 44 _ BR.h (by kernel_rfl) (by rfl) (by kernel_rfl) ?_)
  refine bodyPost_ret (v := .tuple #[.agg (accY 1 cell 0 0), .bool true]) (results_cell_tmp rfl _ _ (w.heap.size + 1) 44 (accY 1 cell 0 0) (0, 0) _ (.bool true) rfl rfl (Blk.row BR (accY 1 cell 0 0)).h Try.underlying44 rfl (by kernel_rfl)) rfl ⟨rfl, below_setRow hb0 (by omega) _⟩
set_option maxRecDepth 100000 in
set_option maxHeartbeats 3200000 in
theorem dsNext_2 (cell hz : Int) (su : Bool) (word ver : Int) (node : NodeV) (q : NodeH) (w : World) :
    Calls Try.prog 14 #[.agg (dsA cell hz ⟨2, 0, su, word, ver, node⟩ q)] w fun e w' => e = .returned (.tuple #[.agg (accY 1 cell 0 0), .bool true]) ∧ Below w.heap.size w w' := by
  have hb0 : Below w.heap.size w ((w.alloc (.cells (dsA cell hz ⟨2, 0, su, word, ver, node⟩ q) 58)).alloc (.cells (accY 0 0 0 0) 44)) := by (repeat (first | exact Below.refl _ _ | assumption | refine below_alloc2 ?_ (by first | exact Nat.le_refl _ | omega) _ | refine Below.drew ?_ | refine below_drewN ?_ _ | refine below_push2 ?_ ‹_› (by first | exact Nat.le_refl _ | omega) | refine Below.setCell ?_ (by first | (simp; done) | (simp; omega) | omega) _))
  have BX := (Blk.new w (dsA cell hz ⟨2, 0, su, word, ver, node⟩ q) 58).alloc (.cells (accY 0 0 0 0) 44)
  have BR : Blk ((w.alloc (.cells (dsA cell hz ⟨2, 0, su, word, ver, node⟩ q) 58)).alloc (.cells (accY 0 0 0 0) 44)) (w.heap.size + 1) (accY 0 0 0 0) 44 := by
    have := Blk.new (w.alloc (.cells (dsA cell hz ⟨2, 0, su, word, ver, node⟩ q) 58)) (accY 0 0 0 0) 44
    simpa using this
  go_enter Try.func14, Try.ntmps14
  go_upto_region 1 with (fail)
  generalize ((w.alloc (.cells (dsA cell hz ⟨2, 0, su, word, ver, node⟩ q) 58)).alloc (.cells (accY 0 0 0 0) 44)) = w1 at hb0 BX BR ⊢
  have c0 : w1.cell? ⟨w.heap.size, 0, none⟩ = some (.int .i64 cell) := BX.at 0 rfl
  have c1 : w1.cell? ⟨w.heap.size, 1, none⟩ = some (.int .i64 hz) := BX.at 1 rfl
  have c2 : w1.cell? ⟨w.heap.size, 2, none⟩ = some (.int .i64 2) := BX.at 2 rfl
  have c3 : w1.cell? ⟨w.heap.size, 3, none⟩ = some (.int .i64 0) := BX.at 3 rfl
  have c6 : w1.cell? ⟨w.heap.size, 6, none⟩ = some (.int .u64 word) := BX.at 6 rfl
  go_wp2_with (refine wpList_store_row rfl 44 _ _ rfl (w.heap.size + 1) _ rfl rfl 44 _ BR.h (by kernel_rfl) (by rfl) (by kernel_rfl) ?_)
  refine bodyPost_ret (v := .tuple #[.agg (accY 1 cell 0 0), .bool true]) (results_cell_tmp rfl _ _ (w.heap.size + 1) 44 (accY 1 cell 0 0) (0, 0) _ (.bool true) rfl rfl (Blk.row BR (accY 1 cell 0 0)).h Try.underlying44 rfl (by kernel_rfl)) rfl ⟨rfl, below_setRow hb0 (by omega) _⟩
set_option maxRecDepth 100000 in
set_option maxHeartbeats 3200000 in
theorem dsTell_1 (cell hz : Int) (su : Bool) (word ver : Int) (node : NodeV) (q : NodeH) (w : World) (ok : Bool) (x v : Int) :
    Calls Try.prog 18 #[.agg (dsA cell hz ⟨1, 0, su, word, ver, node⟩ q), .agg #[.bool ok, .int .u64 x, .int .u64 v, .int .i64 0, .int .i64 0, .string ⟨#[]⟩, .string ⟨#[]⟩, .bool false, .int .i64 0, .slice none 0 0, .slice none 0 0, .slice none 0 0, .int .i64 0, .int .i64 0, .string ⟨#[]⟩, .int .u64 0, .slice none 0 0, .slice none 0 0, .slice none 0 0, .slice none 0 0, .int .i64 0, .string ⟨#[]⟩, .string ⟨#[]⟩, .int .u64 0, .int .i64 0]] w fun e w' => e = .returned (.agg (dsA cell hz ⟨2, 0, false, word, ver, node⟩ q)) ∧ Below w.heap.size w w' := by
  have hB : Below w.heap.size w (((w.alloc (.cells (dsA cell hz ⟨1, 0, su, word, ver, node⟩ q) 58)).alloc (.cells (#[.bool ok, .int .u64 x, .int .u64 v, .int .i64 0, .int .i64 0, .string ⟨#[]⟩, .string ⟨#[]⟩, .bool false, .int .i64 0, .slice none 0 0, .slice none 0 0, .slice none 0 0, .int .i64 0, .int .i64 0, .string ⟨#[]⟩, .int .u64 0, .slice none 0 0, .slice none 0 0, .slice none 0 0, .slice none 0 0, .int .i64 0, .string ⟨#[]⟩, .string ⟨#[]⟩, .int .u64 0, .int .i64 0]) 46)).alloc (.cells dsZ 58)) := by (repeat (first | exact Below.refl _ _ | assumption | refine below_alloc2 ?_ (by first | exact Nat.le_refl _ | omega) _ | refine Below.drew ?_ | refine below_drewN ?_ _ | refine below_push2 ?_ ‹_› (by first | exact Nat.le_refl _ | omega) | refine Below.setCell ?_ (by first | (simp; done) | (simp; omega) | omega) _))
  have BC := ((Blk.new w (dsA cell hz ⟨1, 0, su, word, ver, node⟩ q) 58).alloc (.cells (#[.bool ok, .int .u64 x, .int .u64 v, .int .i64 0, .int .i64 0, .string ⟨#[]⟩, .string ⟨#[]⟩, .bool false, .int .i64 0, .slice none 0 0, .slice none 0 0, .slice none 0 0, .int .i64 0, .int .i64 0, .string ⟨#[]⟩, .int .u64 0, .slice none 0 0, .slice none 0 0, .slice none 0 0, .slice none 0 0, .int .i64 0, .string ⟨#[]⟩, .string ⟨#[]⟩, .int .u64 0, .int .i64 0]) 46)).alloc (.cells dsZ 58)
  have BQ : Blk (((w.alloc (.cells (dsA cell hz ⟨1, 0, su, word, ver, node⟩ q) 58)).alloc (.cells (#[.bool ok, .int .u64 x, .int .u64 v, .int .i64 0, .int .i64 0, .string ⟨#[]⟩, .string ⟨#[]⟩, .bool false, .int .i64 0, .slice none 0 0, .slice none 0 0, .slice none 0 0, .int .i64 0, .int .i64 0, .string ⟨#[]⟩, .int .u64 0, .slice none 0 0, .slice none 0 0, .slice none 0 0, .slice none 0 0, .int .i64 0, .string ⟨#[]⟩, .string ⟨#[]⟩, .int .u64 0, .int .i64 0]) 46)).alloc (.cells dsZ 58)) (w.heap.size + 1) (#[.bool ok, .int .u64 x, .int .u64 v, .int .i64 0, .int .i64 0, .string ⟨#[]⟩, .string ⟨#[]⟩, .bool false, .int .i64 0, .slice none 0 0, .slice none 0 0, .slice none 0 0, .int .i64 0, .int .i64 0, .string ⟨#[]⟩, .int .u64 0, .slice none 0 0, .slice none 0 0, .slice none 0 0, .slice none 0 0, .int .i64 0, .string ⟨#[]⟩, .string ⟨#[]⟩, .int .u64 0, .int .i64 0]) 46 := by
    have := (Blk.new (w.alloc (.cells (dsA cell hz ⟨1, 0, su, word, ver, node⟩ q) 58)) (#[.bool ok, .int .u64 x, .int .u64 v, .int .i64 0, .int .i64 0, .string ⟨#[]⟩, .string ⟨#[]⟩, .bool false, .int .i64 0, .slice none 0 0, .slice none 0 0, .slice none 0 0, .int .i64 0, .int .i64 0, .string ⟨#[]⟩, .int .u64 0, .slice none 0 0, .slice none 0 0, .slice none 0 0, .slice none 0 0, .int .i64 0, .string ⟨#[]⟩, .string ⟨#[]⟩, .int .u64 0, .int .i64 0]) 46).alloc (.cells dsZ 58)
    simpa using this
  have BR : Blk (((w.alloc (.cells (dsA cell hz ⟨1, 0, su, word, ver, node⟩ q) 58)).alloc (.cells (#[.bool ok, .int .u64 x, .int .u64 v, .int .i64 0, .int .i64 0, .string ⟨#[]⟩, .string ⟨#[]⟩, .bool false, .int .i64 0, .slice none 0 0, .slice none 0 0, .slice none 0 0, .int .i64 0, .int .i64 0, .string ⟨#[]⟩, .int .u64 0, .slice none 0 0, .slice none 0 0, .slice none 0 0, .slice none 0 0, .int .i64 0, .string ⟨#[]⟩, .string ⟨#[]⟩, .int .u64 0, .int .i64 0]) 46)).alloc (.cells dsZ 58)) (w.heap.size + 2) dsZ 58 := by
    have := Blk.new ((w.alloc (.cells (dsA cell hz ⟨1, 0, su, word, ver, node⟩ q) 58)).alloc (.cells (#[.bool ok, .int .u64 x, .int .u64 v, .int .i64 0, .int .i64 0, .string ⟨#[]⟩, .string ⟨#[]⟩, .bool false, .int .i64 0, .slice none 0 0, .slice none 0 0, .slice none 0 0, .int .i64 0, .int .i64 0, .string ⟨#[]⟩, .int .u64 0, .slice none 0 0, .slice none 0 0, .slice none 0 0, .slice none 0 0, .int .i64 0, .string ⟨#[]⟩, .string ⟨#[]⟩, .int .u64 0, .int .i64 0]) 46)) dsZ 58
    simpa using this
  go_enter Try.func18, Try.ntmps18
  go_upto_region 1 with (fail)
  generalize (((w.alloc (.cells (dsA cell hz ⟨1, 0, su, word, ver, node⟩ q) 58)).alloc (.cells (#[.bool ok, .int .u64 x, .int .u64 v, .int .i64 0, .int .i64 0, .string ⟨#[]⟩, .string ⟨#[]⟩, .bool false, .int .i64 0, .slice none 0 0, .slice none 0 0, .slice none 0 0, .int .i64 0, .int .i64 0, .string ⟨#[]⟩, .int .u64 0, .slice none 0 0, .slice none 0 0, .slice none 0 0, .slice none 0 0, .int .i64 0, .string ⟨#[]⟩, .string ⟨#[]⟩, .int .u64 0, .int .i64 0]) 46)).alloc (.cells dsZ 58)) = w1 at hB BC BQ BR ⊢
  have hs1 : w.heap.size + 2 < w1.heap.size := BR.lt
  have c4 : w1.cell? ⟨w.heap.size, 4, none⟩ = some (.bool su) := BC.at 4 rfl
  have f4 := BC.free 4
  have c2 : w1.cell? ⟨w.heap.size, 2, none⟩ = some (.int .i64 1) := BC.at 2 rfl
  have f2 := BC.free 2
  have c3 : w1.cell? ⟨w.heap.size, 3, none⟩ = some (.int .i64 0) := BC.at 3 rfl
  have f3 := BC.free 3
  have c6 : w1.cell? ⟨w.heap.size, 6, none⟩ = some (.int .u64 word) := BC.at 6 rfl
  have f6 := BC.free 6
  have c7 : w1.cell? ⟨w.heap.size, 7, none⟩ = some (.int .u64 ver) := BC.at 7 rfl
  have f7 := BC.free 7
  have r0 := BQ.at 0 rfl
  have r1 := BQ.at 1 rfl
  have r2 := BQ.at 2 rfl
  have BF := (BC.set 4 (.bool false)).set 2 (.int .i64 2)
  have F2 : Fr [w.heap.size] w1 ((w1.setCell ⟨w.heap.size, 4, none⟩ (.bool false)).setCell ⟨w.heap.size, 2, none⟩ (.int .i64 2)) := ((Fr.refl _ _).set _ _ (.inl (by simp))).set _ _ (.inl (by simp))
  have BR2 := F2.blk BR (by simp)
  have hB2 := F2.below hB (Nat.le_refl _) (by simp)
  simp only [List.setIfInBounds_toArray, List.set_cons_succ, List.set_cons_zero] at BF
  go_upto_region 19 with (fail)
  clear F2 BC BQ BR hB c4 f4 c2 f2 c3 f3 c6 f6 c7 f7 r0 r1 r2
  generalize ((w1.setCell ⟨w.heap.size, 4, none⟩ (.bool false)).setCell ⟨w.heap.size, 2, none⟩ (.int .i64 2)) = w2 at BF BR2 hB2 ⊢
  go_wp2_with (first
    | (refine wpList_load_row rfl 58 _ rfl w.heap.size rfl 58 _ (0, 0) _ BF.h Try.underlying58 rfl (by kernel_rfl) ?_)
    | (refine wpList_store_row rfl 58 _ _ rfl (w.heap.size + 2) _ rfl rfl 58 _ BR2.h (by kernel_rfl) (by rfl) (by kernel_rfl) ?_))
  refine bodyPost_ret (results_cell_row rfl _ _ (w.heap.size + 2) 58 (dsA cell hz ⟨2, 0, false, word, ver, node⟩ q) (0, 0) _ rfl (Blk.row BR2 (dsA cell hz ⟨2, 0, false, word, ver, node⟩ q)).h Try.underlying58 rfl (by kernel_rfl)) rfl ⟨rfl, below_setRow hB2 (by omega) _⟩
set_option maxRecDepth 100000 in
set_option maxHeartbeats 3200000 in
theorem dsTell_2 (cell hz : Int) (su : Bool) (word ver : Int) (node : NodeV) (q : NodeH) (w : World) (ok : Bool) (x v : Int) :
    Calls Try.prog 18 #[.agg (dsA cell hz ⟨2, 0, su, word, ver, node⟩ q), .agg #[.bool ok, .int .u64 x, .int .u64 v, .int .i64 0, .int .i64 0, .string ⟨#[]⟩, .string ⟨#[]⟩, .bool false, .int .i64 0, .slice none 0 0, .slice none 0 0, .slice none 0 0, .int .i64 0, .int .i64 0, .string ⟨#[]⟩, .int .u64 0, .slice none 0 0, .slice none 0 0, .slice none 0 0, .slice none 0 0, .int .i64 0, .string ⟨#[]⟩, .string ⟨#[]⟩, .int .u64 0, .int .i64 0]] w fun e w' => e = .returned (.agg (dsA cell hz (if v = ver then ⟨3, 0, true, word, ver, node⟩ else ⟨3, 2, false, word, ver, node⟩) q)) ∧ Below w.heap.size w w' := by
  by_cases hv : v = ver
  · have hv' := hv.symm
    subst hv'
    rw [if_pos rfl]
    have hB : Below w.heap.size w (((w.alloc (.cells (dsA cell hz ⟨2, 0, su, word, ver, node⟩ q) 58)).alloc (.cells (#[.bool ok, .int .u64 x, .int .u64 ver, .int .i64 0, .int .i64 0, .string ⟨#[]⟩, .string ⟨#[]⟩, .bool false, .int .i64 0, .slice none 0 0, .slice none 0 0, .slice none 0 0, .int .i64 0, .int .i64 0, .string ⟨#[]⟩, .int .u64 0, .slice none 0 0, .slice none 0 0, .slice none 0 0, .slice none 0 0, .int .i64 0, .string ⟨#[]⟩, .string ⟨#[]⟩, .int .u64 0, .int .i64 0]) 46)).alloc (.cells dsZ 58)) := by (repeat (first | exact Below.refl _ _ | assumption | refine below_alloc2 ?_ (by first | exact Nat.le_refl _ | omega) _ | refine Below.drew ?_ | refine below_drewN ?_ _ | refine below_push2 ?_ ‹_› (by first | exact Nat.le_refl _ | omega) | refine Below.setCell ?_ (by first | (simp; done) | (simp; omega) | omega) _))
    have BC := ((Blk.new w (dsA cell hz ⟨2, 0, su, word, ver, node⟩ q) 58).alloc (.cells (#[.bool ok, .int .u64 x, .int .u64 ver, .int .i64 0, .int .i64 0, .string ⟨#[]⟩, .string ⟨#[]⟩, .bool false, .int .i64 0, .slice none 0 0, .slice none 0 0, .slice none 0 0, .int .i64 0, .int .i64 0, .string ⟨#[]⟩, .int .u64 0, .slice none 0 0, .slice none 0 0, .slice none 0 0, .slice none 0 0, .int .i64 0, .string ⟨#[]⟩, .string ⟨#[]⟩, .int .u64 0, .int .i64 0]) 46)).alloc (.cells dsZ 58)
    have BQ : Blk (((w.alloc (.cells (dsA cell hz ⟨2, 0, su, word, ver, node⟩ q) 58)).alloc (.cells (#[.bool ok, .int .u64 x, .int .u64 ver, .int .i64 0, .int .i64 0, .string ⟨#[]⟩, .string ⟨#[]⟩, .bool false, .int .i64 0, .slice none 0 0, .slice none 0 0, .slice none 0 0, .int .i64 0, .int .i64 0, .string ⟨#[]⟩, .int .u64 0, .slice none 0 0, .slice none 0 0, .slice none 0 0, .slice none 0 0, .int .i64 0, .string ⟨#[]⟩, .string ⟨#[]⟩, .int .u64 0, .int .i64 0]) 46)).alloc (.cells dsZ 58)) (w.heap.size + 1) (#[.bool ok, .int .u64 x, .int .u64 ver, .int .i64 0, .int .i64 0, .string ⟨#[]⟩, .string ⟨#[]⟩, .bool false, .int .i64 0, .slice none 0 0, .slice none 0 0, .slice none 0 0, .int .i64 0, .int .i64 0, .string ⟨#[]⟩, .int .u64 0, .slice none 0 0, .slice none 0 0, .slice none 0 0, .slice none 0 0, .int .i64 0, .string ⟨#[]⟩, .string ⟨#[]⟩, .int .u64 0, .int .i64 0]) 46 := by
      have := (Blk.new (w.alloc (.cells (dsA cell hz ⟨2, 0, su, word, ver, node⟩ q) 58)) (#[.bool ok, .int .u64 x, .int .u64 ver, .int .i64 0, .int .i64 0, .string ⟨#[]⟩, .string ⟨#[]⟩, .bool false, .int .i64 0, .slice none 0 0, .slice none 0 0, .slice none 0 0, .int .i64 0, .int .i64 0, .string ⟨#[]⟩, .int .u64 0, .slice none 0 0, .slice none 0 0, .slice none 0 0, .slice none 0 0, .int .i64 0, .string ⟨#[]⟩, .string ⟨#[]⟩, .int .u64 0, .int .i64 0]) 46).alloc (.cells dsZ 58)
      simpa using this
    have BR : Blk (((w.alloc (.cells (dsA cell hz ⟨2, 0, su, word, ver, node⟩ q) 58)).alloc (.cells (#[.bool ok, .int .u64 x, .int .u64 ver, .int .i64 0, .int .i64 0, .string ⟨#[]⟩, .string ⟨#[]⟩, .bool false, .int .i64 0, .slice none 0 0, .slice none 0 0, .slice none 0 0, .int .i64 0, .int .i64 0, .string ⟨#[]⟩, .int .u64 0, .slice none 0 0, .slice none 0 0, .slice none 0 0, .slice none 0 0, .int .i64 0, .string ⟨#[]⟩, .string ⟨#[]⟩, .int .u64 0, .int .i64 0]) 46)).alloc (.cells dsZ 58)) (w.heap.size + 2) dsZ 58 := by
      have := Blk.new ((w.alloc (.cells (dsA cell hz ⟨2, 0, su, word, ver, node⟩ q) 58)).alloc (.cells (#[.bool ok, .int .u64 x, .int .u64 ver, .int .i64 0, .int .i64 0, .string ⟨#[]⟩, .string ⟨#[]⟩, .bool false, .int .i64 0, .slice none 0 0, .slice none 0 0, .slice none 0 0, .int .i64 0, .int .i64 0, .string ⟨#[]⟩, .int .u64 0, .slice none 0 0, .slice none 0 0, .slice none 0 0, .slice none 0 0, .int .i64 0, .string ⟨#[]⟩, .string ⟨#[]⟩, .int .u64 0, .int .i64 0]) 46)) dsZ 58
      simpa using this
    go_enter Try.func18, Try.ntmps18
    go_upto_region 1 with (fail)
    generalize (((w.alloc (.cells (dsA cell hz ⟨2, 0, su, word, ver, node⟩ q) 58)).alloc (.cells (#[.bool ok, .int .u64 x, .int .u64 ver, .int .i64 0, .int .i64 0, .string ⟨#[]⟩, .string ⟨#[]⟩, .bool false, .int .i64 0, .slice none 0 0, .slice none 0 0, .slice none 0 0, .int .i64 0, .int .i64 0, .string ⟨#[]⟩, .int .u64 0, .slice none 0 0, .slice none 0 0, .slice none 0 0, .slice none 0 0, .int .i64 0, .string ⟨#[]⟩, .string ⟨#[]⟩, .int .u64 0, .int .i64 0]) 46)).alloc (.cells dsZ 58)) = w1 at hB BC BQ BR ⊢
    have hs1 : w.heap.size + 2 < w1.heap.size := BR.lt
    have c4 : w1.cell? ⟨w.heap.size, 4, none⟩ = some (.bool su) := BC.at 4 rfl
    have f4 := BC.free 4
    have c2 : w1.cell? ⟨w.heap.size, 2, none⟩ = some (.int .i64 2) := BC.at 2 rfl
    have f2 := BC.free 2
    have c3 : w1.cell? ⟨w.heap.size, 3, none⟩ = some (.int .i64 0) := BC.at 3 rfl
    have f3 := BC.free 3
    have c6 : w1.cell? ⟨w.heap.size, 6, none⟩ = some (.int .u64 word) := BC.at 6 rfl
    have f6 := BC.free 6
    have c7 : w1.cell? ⟨w.heap.size, 7, none⟩ = some (.int .u64 ver) := BC.at 7 rfl
    have f7 := BC.free 7
    have r0 := BQ.at 0 rfl
    have r1 := BQ.at 1 rfl
    have r2 := BQ.at 2 rfl
    have BF := ((BC.set 4 (.bool false)).set 4 (.bool true)).set 2 (.int .i64 3)
    have F2 : Fr [w.heap.size] w1 (((w1.setCell ⟨w.heap.size, 4, none⟩ (.bool false)).setCell ⟨w.heap.size, 4, none⟩ (.bool true)).setCell ⟨w.heap.size, 2, none⟩ (.int .i64 3)) := (((Fr.refl _ _).set _ _ (.inl (by simp))).set _ _ (.inl (by simp))).set _ _ (.inl (by simp))
    have BR2 := F2.blk BR (by simp)
    have hB2 := F2.below hB (Nat.le_refl _) (by simp)
    simp only [List.setIfInBounds_toArray, List.set_cons_succ, List.set_cons_zero] at BF
    go_upto_region 19 with (fail)
    clear F2 BC BQ BR hB c4 f4 c2 f2 c3 f3 c6 f6 c7 f7 r0 r1 r2
    generalize (((w1.setCell ⟨w.heap.size, 4, none⟩ (.bool false)).setCell ⟨w.heap.size, 4, none⟩ (.bool true)).setCell ⟨w.heap.size, 2, none⟩ (.int .i64 3)) = w2 at BF BR2 hB2 ⊢
    go_wp2_with (first
      | (refine wpList_load_row rfl 58 _ rfl w.heap.size rfl 58 _ (0, 0) _ BF.h Try.underlying58 rfl (by kernel_rfl) ?_)
      | (refine wpList_store_row rfl 58 _ _ rfl (w.heap.size + 2) _ rfl rfl 58 _ BR2.h (by kernel_rfl) (by rfl) (by kernel_rfl) ?_))
    refine bodyPost_ret (results_cell_row rfl _ _ (w.heap.size + 2) 58 (dsA cell hz ⟨3, 0, true, word, ver, node⟩ q) (0, 0) _ rfl (Blk.row BR2 (dsA cell hz ⟨3, 0, true, word, ver, node⟩ q)).h Try.underlying58 rfl (by kernel_rfl)) rfl ⟨rfl, below_setRow hB2 (by omega) _⟩
  · rw [if_neg hv]
    have v1 : (v != ver) = true := by simpa using hv
    have hB : Below w.heap.size w (((w.alloc (.cells (dsA cell hz ⟨2, 0, su, word, ver, node⟩ q) 58)).alloc (.cells (#[.bool ok, .int .u64 x, .int .u64 v, .int .i64 0, .int .i64 0, .string ⟨#[]⟩, .string ⟨#[]⟩, .bool false, .int .i64 0, .slice none 0 0, .slice none 0 0, .slice none 0 0, .int .i64 0, .int .i64 0, .string ⟨#[]⟩, .int .u64 0, .slice none 0 0, .slice none 0 0, .slice none 0 0, .slice none 0 0, .int .i64 0, .string ⟨#[]⟩, .string ⟨#[]⟩, .int .u64 0, .int .i64 0]) 46)).alloc (.cells dsZ 58)) := by (repeat (first | exact Below.refl _ _ | assumption | refine below_alloc2 ?_ (by first | exact Nat.le_refl _ | omega) _ | refine Below.drew ?_ | refine below_drewN ?_ _ | refine below_push2 ?_ ‹_› (by first | exact Nat.le_refl _ | omega) | refine Below.setCell ?_ (by first | (simp; done) | (simp; omega) | omega) _))
    have BC := ((Blk.new w (dsA cell hz ⟨2, 0, su, word, ver, node⟩ q) 58).alloc (.cells (#[.bool ok, .int .u64 x, .int .u64 v, .int .i64 0, .int .i64 0, .string ⟨#[]⟩, .string ⟨#[]⟩, .bool false, .int .i64 0, .slice none 0 0, .slice none 0 0, .slice none 0 0, .int .i64 0, .int .i64 0, .string ⟨#[]⟩, .int .u64 0, .slice none 0 0, .slice none 0 0, .slice none 0 0, .slice none 0 0, .int .i64 0, .string ⟨#[]⟩, .string ⟨#[]⟩, .int .u64 0, .int .i64 0]) 46)).alloc (.cells dsZ 58)
    have BQ : Blk (((w.alloc (.cells (dsA cell hz ⟨2, 0, su, word, ver, node⟩ q) 58)).alloc (.cells (#[.bool ok, .int .u64 x, .int .u64 v, .int .i64 0, .int .i64 0, .string ⟨#[]⟩, .string ⟨#[]⟩, .bool false, .int .i64 0, .slice none 0 0, .slice none 0 0, .slice none 0 0, .int .i64 0, .int .i64 0, .string ⟨#[]⟩, .int .u64 0, .slice none 0 0, .slice none 0 0, .slice none 0 0, .slice none 0 0, .int .i64 0, .string ⟨#[]⟩, .string ⟨#[]⟩, .int .u64 0, .int .i64 0]) 46)).alloc (.cells dsZ 58)) (w.heap.size + 1) (#[.bool ok, .int .u64 x, .int .u64 v, .int .i64 0, .int .i64 0, .string ⟨#[]⟩, .string ⟨#[]⟩, .bool false, .int .i64 0, .slice none 0 0, .slice none 0 0, .slice none 0 0, .int .i64 0, .int .i64 0, .string ⟨#[]⟩, .int .u64 0, .slice none 0 0, .slice none 0 0, .slice none 0 0, .slice none 0 0, .int .i64 0, .string ⟨#[]⟩, .string ⟨#[]⟩, .int .u64 0, .int .i64 0]) 46 := by
      have := (Blk.new (w.alloc (.cells (dsA cell hz ⟨2, 0, su, word, ver, node⟩ q) 58)) (#[.bool ok, .int .u64 x, .int .u64 v, .int .i64 0, .int .i64 0, .string ⟨#[]⟩, .string ⟨#[]⟩, .bool false, .int .i64 0, .slice none 0 0, .slice none 0 0, .slice none 0 0, .int .i64 0, .int .i64 0, .string ⟨#[]⟩, .int .u64 0, .slice none 0 0, .slice none 0 0, .slice none 0 0, .slice none 0 0, .int .i64 0, .string ⟨#[]⟩, .string ⟨#[]⟩, .int .u64 0, .int .i64 0]) 46).alloc (.cells dsZ 58)
      simpa using this
    have BR : Blk (((w.alloc (.cells (dsA cell hz ⟨2, 0, su, word, ver, node⟩ q) 58)).alloc (.cells (#[.bool ok, .int .u64 x, .int .u64 v, .int .i64 0, .int .i64 0, .string ⟨#[]⟩, .string ⟨#[]⟩, .bool false, .int .i64 0, .slice none 0 0, .slice none 0 0, .slice none 0 0, .int .i64 0, .int .i64 0, .string ⟨#[]⟩, .int .u64 0, .slice none 0 0, .slice none 0 0, .slice none 0 0, .slice none 0 0, .int .i64 0, .string ⟨#[]⟩, .string ⟨#[]⟩, .int .u64 0, .int .i64 0]) 46)).alloc (.cells dsZ 58)) (w.heap.size + 2) dsZ 58 := by
      have := Blk.new ((w.alloc (.cells (dsA cell hz ⟨2, 0, su, word, ver, node⟩ q) 58)).alloc (.cells (#[.bool ok, .int .u64 x, .int .u64 v, .int .i64 0, .int .i64 0, .string ⟨#[]⟩, .string ⟨#[]⟩, .bool false, .int .i64 0, .slice none 0 0, .slice none 0 0, .slice none 0 0, .int .i64 0, .int .i64 0, .string ⟨#[]⟩, .int .u64 0, .slice none 0 0, .slice none 0 0, .slice none 0 0, .slice none 0 0, .int .i64 0, .string ⟨#[]⟩, .string ⟨#[]⟩, .int .u64 0, .int .i64 0]) 46)) dsZ 58
      simpa using this
    go_enter Try.func18, Try.ntmps18
    go_upto_region 1 with (fail)
    generalize (((w.alloc (.cells (dsA cell hz ⟨2, 0, su, word, ver, node⟩ q) 58)).alloc (.cells (#[.bool ok, .int .u64 x, .int .u64 v, .int .i64 0, .int .i64 0, .string ⟨#[]⟩, .string ⟨#[]⟩, .bool false, .int .i64 0, .slice none 0 0, .slice none 0 0, .slice none 0 0, .int .i64 0, .int .i64 0, .string ⟨#[]⟩, .int .u64 0, .slice none 0 0, .slice none 0 0, .slice none 0 0, .slice none 0 0, .int .i64 0, .string ⟨#[]⟩, .string ⟨#[]⟩, .int .u64 0, .int .i64 0]) 46)).alloc (.cells dsZ 58)) = w1 at hB BC BQ BR ⊢
    have hs1 : w.heap.size + 2 < w1.heap.size := BR.lt
    have c4 : w1.cell? ⟨w.heap.size, 4, none⟩ = some (.bool su) := BC.at 4 rfl
    have f4 := BC.free 4
    have c2 : w1.cell? ⟨w.heap.size, 2, none⟩ = some (.int .i64 2) := BC.at 2 rfl
    have f2 := BC.free 2
    have c3 : w1.cell? ⟨w.heap.size, 3, none⟩ = some (.int .i64 0) := BC.at 3 rfl
    have f3 := BC.free 3
    have c6 : w1.cell? ⟨w.heap.size, 6, none⟩ = some (.int .u64 word) := BC.at 6 rfl
    have f6 := BC.free 6
    have c7 : w1.cell? ⟨w.heap.size, 7, none⟩ = some (.int .u64 ver) := BC.at 7 rfl
    have f7 := BC.free 7
    have r0 := BQ.at 0 rfl
    have r1 := BQ.at 1 rfl
    have r2 := BQ.at 2 rfl
    have BF := ((BC.set 4 (.bool false)).set 3 (.int .i64 2)).set 2 (.int .i64 3)
    have F2 : Fr [w.heap.size] w1 (((w1.setCell ⟨w.heap.size, 4, none⟩ (.bool false)).setCell ⟨w.heap.size, 3, none⟩ (.int .i64 2)).setCell ⟨w.heap.size, 2, none⟩ (.int .i64 3)) := (((Fr.refl _ _).set _ _ (.inl (by simp))).set _ _ (.inl (by simp))).set _ _ (.inl (by simp))
    have BR2 := F2.blk BR (by simp)
    have hB2 := F2.below hB (Nat.le_refl _) (by simp)
    simp only [List.setIfInBounds_toArray, List.set_cons_succ, List.set_cons_zero] at BF
    go_upto_region 19 with (fail)
    clear F2 BC BQ BR hB c4 f4 c2 f2 c3 f3 c6 f6 c7 f7 r0 r1 r2
    generalize (((w1.setCell ⟨w.heap.size, 4, none⟩ (.bool false)).setCell ⟨w.heap.size, 3, none⟩ (.int .i64 2)).setCell ⟨w.heap.size, 2, none⟩ (.int .i64 3)) = w2 at BF BR2 hB2 ⊢
    go_wp2_with (first
      | (refine wpList_load_row rfl 58 _ rfl w.heap.size rfl 58 _ (0, 0) _ BF.h Try.underlying58 rfl (by kernel_rfl) ?_)
      | (refine wpList_store_row rfl 58 _ _ rfl (w.heap.size + 2) _ rfl rfl 58 _ BR2.h (by kernel_rfl) (by rfl) (by kernel_rfl) ?_))
    refine bodyPost_ret (results_cell_row rfl _ _ (w.heap.size + 2) 58 (dsA cell hz ⟨3, 2, false, word, ver, node⟩ q) (0, 0) _ rfl (Blk.row BR2 (dsA cell hz ⟨3, 2, false, word, ver, node⟩ q)).h Try.underlying58 rfl (by kernel_rfl)) rfl ⟨rfl, below_setRow hB2 (by omega) _⟩
set_option maxRecDepth 100000 in
set_option maxHeartbeats 3200000 in
theorem dsTell_0 (cell hz : Int) (su : Bool) (word ver : Int) (node : NodeV) (q : NodeH) (w : World) (ok : Bool) (x v : Int) (x0 : 0 ≤ x) (x1 : x ≤ 18446744073709551615) :
    Calls Try.prog 18 #[.agg (dsA cell hz ⟨0, 0, su, word, ver, node⟩ q), .agg #[.bool ok, .int .u64 x, .int .u64 v, .int .i64 0, .int .i64 0, .string ⟨#[]⟩, .string ⟨#[]⟩, .bool false, .int .i64 0, .slice none 0 0, .slice none 0 0, .slice none 0 0, .int .i64 0, .int .i64 0, .string ⟨#[]⟩, .int .u64 0, .slice none 0 0, .slice none 0 0, .slice none 0 0, .slice none 0 0, .int .i64 0, .string ⟨#[]⟩, .string ⟨#[]⟩, .int .u64 0, .int .i64 0]] w fun e w' => e = .returned (.agg (dsA cell hz ⟨1, if opensB x = true then 0 else 1, false, x, v, node⟩ q)) ∧ Below w.heap.size w w' := by
  cases ho : opensB x
  · rw [if_neg (by decide)]
    have hB : Below w.heap.size w (((w.alloc (.cells (dsA cell hz ⟨0, 0, su, word, ver, node⟩ q) 58)).alloc (.cells (#[.bool ok, .int .u64 x, .int .u64 v, .int .i64 0, .int .i64 0, .string ⟨#[]⟩, .string ⟨#[]⟩, .bool false, .int .i64 0, .slice none 0 0, .slice none 0 0, .slice none 0 0, .int .i64 0, .int .i64 0, .string ⟨#[]⟩, .int .u64 0, .slice none 0 0, .slice none 0 0, .slice none 0 0, .slice none 0 0, .int .i64 0, .string ⟨#[]⟩, .string ⟨#[]⟩, .int .u64 0, .int .i64 0]) 46)).alloc (.cells dsZ 58)) := by (repeat (first | exact Below.refl _ _ | assumption | refine below_alloc2 ?_ (by first | exact Nat.le_refl _ | omega) _ | refine Below.drew ?_ | refine below_drewN ?_ _ | refine below_push2 ?_ ‹_› (by first | exact Nat.le_refl _ | omega) | refine Below.setCell ?_ (by first | (simp; done) | (simp; omega) | omega) _))
    have BC := ((Blk.new w (dsA cell hz ⟨0, 0, su, word, ver, node⟩ q) 58).alloc (.cells (#[.bool ok, .int .u64 x, .int .u64 v, .int .i64 0, .int .i64 0, .string ⟨#[]⟩, .string ⟨#[]⟩, .bool false, .int .i64 0, .slice none 0 0, .slice none 0 0, .slice none 0 0, .int .i64 0, .int .i64 0, .string ⟨#[]⟩, .int .u64 0, .slice none 0 0, .slice none 0 0, .slice none 0 0, .slice none 0 0, .int .i64 0, .string ⟨#[]⟩, .string ⟨#[]⟩, .int .u64 0, .int .i64 0]) 46)).alloc (.cells dsZ 58)
    have BQ : Blk (((w.alloc (.cells (dsA cell hz ⟨0, 0, su, word, ver, node⟩ q) 58)).alloc (.cells (#[.bool ok, .int .u64 x, .int .u64 v, .int .i64 0, .int .i64 0, .string ⟨#[]⟩, .string ⟨#[]⟩, .bool false, .int .i64 0, .slice none 0 0, .slice none 0 0, .slice none 0 0, .int .i64 0, .int .i64 0, .string ⟨#[]⟩, .int .u64 0, .slice none 0 0, .slice none 0 0, .slice none 0 0, .slice none 0 0, .int .i64 0, .string ⟨#[]⟩, .string ⟨#[]⟩, .int .u64 0, .int .i64 0]) 46)).alloc (.cells dsZ 58)) (w.heap.size + 1) (#[.bool ok, .int .u64 x, .int .u64 v, .int .i64 0, .int .i64 0, .string ⟨#[]⟩, .string ⟨#[]⟩, .bool false, .int .i64 0, .slice none 0 0, .slice none 0 0, .slice none 0 0, .int .i64 0, .int .i64 0, .string ⟨#[]⟩, .int .u64 0, .slice none 0 0, .slice none 0 0, .slice none 0 0, .slice none 0 0, .int .i64 0, .string ⟨#[]⟩, .string ⟨#[]⟩, .int .u64 0, .int .i64 0]) 46 := by
      have := (Blk.new (w.alloc (.cells (dsA cell hz ⟨0, 0, su, word, ver, node⟩ q) 58)) (#[.bool ok, .int .u64 x, .int .u64 v, .int .i64 0, .int .i64 0, .string ⟨#[]⟩, .string ⟨#[]⟩, .bool false, .int .i64 0, .slice none 0 0, .slice none 0 0, .slice none 0 0, .int .i64 0, .int .i64 0, .string ⟨#[]⟩, .int .u64 0, .slice none 0 0, .slice none 0 0, .slice none 0 0, .slice none 0 0, .int .i64 0, .string ⟨#[]⟩, .string ⟨#[]⟩, .int .u64 0, .int .i64 0]) 46).alloc (.cells dsZ 58)
      simpa using this
    have BR : Blk (((w.alloc (.cells (dsA cell hz ⟨0, 0, su, word, ver, node⟩ q) 58)).alloc (.cells (#[.bool ok, .int .u64 x, .int .u64 v, .int .i64 0, .int .i64 0, .string ⟨#[]⟩, .string ⟨#[]⟩, .bool false, .int .i64 0, .slice none 0 0, .slice none 0 0, .slice none 0 0, .int .i64 0, .int .i64 0, .string ⟨#[]⟩, .int .u64 0, .slice none 0 0, .slice none 0 0, .slice none 0 0, .slice none 0 0, .int .i64 0, .string ⟨#[]⟩, .string ⟨#[]⟩, .int .u64 0, .int .i64 0]) 46)).alloc (.cells dsZ 58)) (w.heap.size + 2) dsZ 58 := by
      have := Blk.new ((w.alloc (.cells (dsA cell hz ⟨0, 0, su, word, ver, node⟩ q) 58)).alloc (.cells (#[.bool ok, .int .u64 x, .int .u64 v, .int .i64 0, .int .i64 0, .string ⟨#[]⟩, .string ⟨#[]⟩, .bool false, .int .i64 0, .slice none 0 0, .slice none 0 0, .slice none 0 0, .int .i64 0, .int .i64 0, .string ⟨#[]⟩, .int .u64 0, .slice none 0 0, .slice none 0 0, .slice none 0 0, .slice none 0 0, .int .i64 0, .string ⟨#[]⟩, .string ⟨#[]⟩, .int .u64 0, .int .i64 0]) 46)) dsZ 58
      simpa using this
    go_enter Try.func18, Try.ntmps18
    go_upto_region 1 with (fail)
    generalize (((w.alloc (.cells (dsA cell hz ⟨0, 0, su, word, ver, node⟩ q) 58)).alloc (.cells (#[.bool ok, .int .u64 x, .int .u64 v, .int .i64 0, .int .i64 0, .string ⟨#[]⟩, .string ⟨#[]⟩, .bool false, .int .i64 0, .slice none 0 0, .slice none 0 0, .slice none 0 0, .int .i64 0, .int .i64 0, .string ⟨#[]⟩, .int .u64 0, .slice none 0 0, .slice none 0 0, .slice none 0 0, .slice none 0 0, .int .i64 0, .string ⟨#[]⟩, .string ⟨#[]⟩, .int .u64 0, .int .i64 0]) 46)).alloc (.cells dsZ 58)) = w1 at hB BC BQ BR ⊢
    have hs1 : w.heap.size + 2 < w1.heap.size := BR.lt
    have c4 : w1.cell? ⟨w.heap.size, 4, none⟩ = some (.bool su) := BC.at 4 rfl
    have f4 := BC.free 4
    have c2 : w1.cell? ⟨w.heap.size, 2, none⟩ = some (.int .i64 0) := BC.at 2 rfl
    have f2 := BC.free 2
    have c3 : w1.cell? ⟨w.heap.size, 3, none⟩ = some (.int .i64 0) := BC.at 3 rfl
    have f3 := BC.free 3
    have c6 : w1.cell? ⟨w.heap.size, 6, none⟩ = some (.int .u64 word) := BC.at 6 rfl
    have f6 := BC.free 6
    have c7 : w1.cell? ⟨w.heap.size, 7, none⟩ = some (.int .u64 ver) := BC.at 7 rfl
    have f7 := BC.free 7
    have r0 := BQ.at 0 rfl
    have r1 := BQ.at 1 rfl
    have r2 := BQ.at 2 rfl
    go_wp2_with fail
    refine (dopen_any x _ x0 x1).mono ?_
    rw [ho]
    rintro e w5 ⟨rfl, rfl⟩
    have BF := ((((BC.set 4 (.bool false)).set 3 (.int .i64 1)).set 6 (.int .u64 x)).set 7 (.int .u64 v)).set 2 (.int .i64 1)
    have F2 : Fr [w.heap.size] w1 (((((w1.setCell ⟨w.heap.size, 4, none⟩ (.bool false)).setCell ⟨w.heap.size, 3, none⟩ (.int .i64 1)).setCell ⟨w.heap.size, 6, none⟩ (.int .u64 x)).setCell ⟨w.heap.size, 7, none⟩ (.int .u64 v)).setCell ⟨w.heap.size, 2, none⟩ (.int .i64 1)) := (((((Fr.refl _ _).set _ _ (.inl (by simp))).set _ _ (.inl (by simp))).set _ _ (.inl (by simp))).set _ _ (.inl (by simp))).set _ _ (.inl (by simp))
    have BR2 := F2.blk BR (by simp)
    have hB2 := F2.below hB (Nat.le_refl _) (by simp)
    simp only [List.setIfInBounds_toArray, List.set_cons_succ, List.set_cons_zero] at BF
    go_upto_region 19 with (fail)
    clear F2 BC BQ BR hB c4 f4 c2 f2 c3 f3 c6 f6 c7 f7 r0 r1 r2
    generalize (((((w1.setCell ⟨w.heap.size, 4, none⟩ (.bool false)).setCell ⟨w.heap.size, 3, none⟩ (.int .i64 1)).setCell ⟨w.heap.size, 6, none⟩ (.int .u64 x)).setCell ⟨w.heap.size, 7, none⟩ (.int .u64 v)).setCell ⟨w.heap.size, 2, none⟩ (.int .i64 1)) = w2 at BF BR2 hB2 ⊢
    go_wp2_with (first
      | (refine wpList_load_row rfl 58 _ rfl w.heap.size rfl 58 _ (0, 0) _ BF.h Try.underlying58 rfl (by kernel_rfl) ?_)
      | (refine wpList_store_row rfl 58 _ _ rfl (w.heap.size + 2) _ rfl rfl 58 _ BR2.h (by kernel_rfl) (by rfl) (by kernel_rfl) ?_))
    refine bodyPost_ret (results_cell_row rfl _ _ (w.heap.size + 2) 58 (dsA cell hz ⟨1, 1, false, x, v, node⟩ q) (0, 0) _ rfl (Blk.row BR2 (dsA cell hz ⟨1, 1, false, x, v, node⟩ q)).h Try.underlying58 rfl (by kernel_rfl)) rfl ⟨rfl, below_setRow hB2 (by omega) _⟩
  · rw [if_pos rfl]
    have hB : Below w.heap.size w (((w.alloc (.cells (dsA cell hz ⟨0, 0, su, word, ver, node⟩ q) 58)).alloc (.cells (#[.bool ok, .int .u64 x, .int .u64 v, .int .i64 0, .int .i64 0, .string ⟨#[]⟩, .string ⟨#[]⟩, .bool false, .int .i64 0, .slice none 0 0, .slice none 0 0, .slice none 0 0, .int .i64 0, .int .i64 0, .string ⟨#[]⟩, .int .u64 0, .slice none 0 0, .slice none 0 0, .slice none 0 0, .slice none 0 0, .int .i64 0, .string ⟨#[]⟩, .string ⟨#[]⟩, .int .u64 0, .int .i64 0]) 46)).alloc (.cells dsZ 58)) := by (repeat (first | exact Below.refl _ _ | assumption | refine below_alloc2 ?_ (by first | exact Nat.le_refl _ | omega) _ | refine Below.drew ?_ | refine below_drewN ?_ _ | refine below_push2 ?_ ‹_› (by first | exact Nat.le_refl _ | omega) | refine Below.setCell ?_ (by first | (simp; done) | (simp; omega) | omega) _))
    have BC := ((Blk.new w (dsA cell hz ⟨0, 0, su, word, ver, node⟩ q) 58).alloc (.cells (#[.bool ok, .int .u64 x, .int .u64 v, .int .i64 0, .int .i64 0, .string ⟨#[]⟩, .string ⟨#[]⟩, .bool false, .int .i64 0, .slice none 0 0, .slice none 0 0, .slice none 0 0, .int .i64 0, .int .i64 0, .string ⟨#[]⟩, .int .u64 0, .slice none 0 0, .slice none 0 0, .slice none 0 0, .slice none 0 0, .int .i64 0, .string ⟨#[]⟩, .string ⟨#[]⟩, .int .u64 0, .int .i64 0]) 46)).alloc (.cells dsZ 58)
    have BQ : Blk (((w.alloc (.cells (dsA cell hz ⟨0, 0, su, word, ver, node⟩ q) 58)).alloc (.cells (#[.bool ok, .int .u64 x, .int .u64 v, .int .i64 0, .int .i64 0, .string ⟨#[]⟩, .string ⟨#[]⟩, .bool false, .int .i64 0, .slice none 0 0, .slice none 0 0, .slice none 0 0, .int .i64 0, .int .i64 0, .string ⟨#[]⟩, .int .u64 0, .slice none 0 0, .slice none 0 0, .slice none 0 0, .slice none 0 0, .int .i64 0, .string ⟨#[]⟩, .string ⟨#[]⟩, .int .u64 0, .int .i64 0]) 46)).alloc (.cells dsZ 58)) (w.heap.size + 1) (#[.bool ok, .int .u64 x, .int .u64 v, .int .i64 0, .int .i64 0, .string ⟨#[]⟩, .string ⟨#[]⟩, .bool false, .int .i64 0, .slice none 0 0, .slice none 0 0, .slice none 0 0, .int .i64 0, .int .i64 0, .string ⟨#[]⟩, .int .u64 0, .slice none 0 0, .slice none 0 0, .slice none 0 0, .slice none 0 0, .int .i64 0, .string ⟨#[]⟩, .string ⟨#[]⟩, .int .u64 0, .int .i64 0]) 46 := by
      have := (Blk.new (w.alloc (.cells (dsA cell hz ⟨0, 0, su, word, ver, node⟩ q) 58)) (#[.bool ok, .int .u64 x, .int .u64 v, .int .i64 0, .int .i64 0, .string ⟨#[]⟩, .string ⟨#[]⟩, .bool false, .int .i64 0, .slice none 0 0, .slice none 0 0, .slice none 0 0, .int .i64 0, .int .i64 0, .string ⟨#[]⟩, .int .u64 0, .slice none 0 0, .slice none 0 0, .slice none 0 0, .slice none 0 0, .int .i64 0, .string ⟨#[]⟩, .string ⟨#[]⟩, .int .u64 0, .int .i64 0]) 46).alloc (.cells dsZ 58)
      simpa using this
    have BR : Blk (((w.alloc (.cells (dsA cell hz ⟨0, 0, su, word, ver, node⟩ q) 58)).alloc (.cells (#[.bool ok, .int .u64 x, .int .u64 v, .int .i64 0, .int .i64 0, .string ⟨#[]⟩, .string ⟨#[]⟩, .bool false, .int .i64 0, .slice none 0 0, .slice none 0 0, .slice none 0 0, .int .i64 0, .int .i64 0, .string ⟨#[]⟩, .int .u64 0, .slice none 0 0, .slice none 0 0, .slice none 0 0, .slice none 0 0, .int .i64 0, .string ⟨#[]⟩, .string ⟨#[]⟩, .int .u64 0, .int .i64 0]) 46)).alloc (.cells dsZ 58)) (w.heap.size + 2) dsZ 58 := by
      have := Blk.new ((w.alloc (.cells (dsA cell hz ⟨0, 0, su, word, ver, node⟩ q) 58)).alloc (.cells (#[.bool ok, .int .u64 x, .int .u64 v, .int .i64 0, .int .i64 0, .string ⟨#[]⟩, .string ⟨#[]⟩, .bool false, .int .i64 0, .slice none 0 0, .slice none 0 0, .slice none 0 0, .int .i64 0, .int .i64 0, .string ⟨#[]⟩, .int .u64 0, .slice none 0 0, .slice none 0 0, .slice none 0 0, .slice none 0 0, .int .i64 0, .string ⟨#[]⟩, .string ⟨#[]⟩, .int .u64 0, .int .i64 0]) 46)) dsZ 58
      simpa using this
    go_enter Try.func18, Try.ntmps18
    go_upto_region 1 with (fail)
    generalize (((w.alloc (.cells (dsA cell hz ⟨0, 0, su, word, ver, node⟩ q) 58)).alloc (.cells (#[.bool ok, .int .u64 x, .int .u64 v, .int .i64 0, .int .i64 0, .string ⟨#[]⟩, .string ⟨#[]⟩, .bool false, .int .i64 0, .slice none 0 0, .slice none 0 0, .slice none 0 0, .int .i64 0, .int .i64 0, .string ⟨#[]⟩, .int .u64 0, .slice none 0 0, .slice none 0 0, .slice none 0 0, .slice none 0 0, .int .i64 0, .string ⟨#[]⟩, .string ⟨#[]⟩, .int .u64 0, .int .i64 0]) 46)).alloc (.cells dsZ 58)) = w1 at hB BC BQ BR ⊢
    have hs1 : w.heap.size + 2 < w1.heap.size := BR.lt
    have c4 : w1.cell? ⟨w.heap.size, 4, none⟩ = some (.bool su) := BC.at 4 rfl
    have f4 := BC.free 4
    have c2 : w1.cell? ⟨w.heap.size, 2, none⟩ = some (.int .i64 0) := BC.at 2 rfl
    have f2 := BC.free 2
    have c3 : w1.cell? ⟨w.heap.size, 3, none⟩ = some (.int .i64 0) := BC.at 3 rfl
    have f3 := BC.free 3
    have c6 : w1.cell? ⟨w.heap.size, 6, none⟩ = some (.int .u64 word) := BC.at 6 rfl
    have f6 := BC.free 6
    have c7 : w1.cell? ⟨w.heap.size, 7, none⟩ = some (.int .u64 ver) := BC.at 7 rfl
    have f7 := BC.free 7
    have r0 := BQ.at 0 rfl
    have r1 := BQ.at 1 rfl
    have r2 := BQ.at 2 rfl
    go_wp2_with fail
    refine (dopen_any x _ x0 x1).mono ?_
    rw [ho]
    rintro e w5 ⟨rfl, rfl⟩
    have BF := (((BC.set 4 (.bool false)).set 6 (.int .u64 x)).set 7 (.int .u64 v)).set 2 (.int .i64 1)
    have F2 : Fr [w.heap.size] w1 ((((w1.setCell ⟨w.heap.size, 4, none⟩ (.bool false)).setCell ⟨w.heap.size, 6, none⟩ (.int .u64 x)).setCell ⟨w.heap.size, 7, none⟩ (.int .u64 v)).setCell ⟨w.heap.size, 2, none⟩ (.int .i64 1)) := ((((Fr.refl _ _).set _ _ (.inl (by simp))).set _ _ (.inl (by simp))).set _ _ (.inl (by simp))).set _ _ (.inl (by simp))
    have BR2 := F2.blk BR (by simp)
    have hB2 := F2.below hB (Nat.le_refl _) (by simp)
    simp only [List.setIfInBounds_toArray, List.set_cons_succ, List.set_cons_zero] at BF
    go_upto_region 19 with (fail)
    clear F2 BC BQ BR hB c4 f4 c2 f2 c3 f3 c6 f6 c7 f7 r0 r1 r2
    generalize ((((w1.setCell ⟨w.heap.size, 4, none⟩ (.bool false)).setCell ⟨w.heap.size, 6, none⟩ (.int .u64 x)).setCell ⟨w.heap.size, 7, none⟩ (.int .u64 v)).setCell ⟨w.heap.size, 2, none⟩ (.int .i64 1)) = w2 at BF BR2 hB2 ⊢
    go_wp2_with (first
      | (refine wpList_load_row rfl 58 _ rfl w.heap.size rfl 58 _ (0, 0) _ BF.h Try.underlying58 rfl (by kernel_rfl) ?_)
      | (refine wpList_store_row rfl 58 _ _ rfl (w.heap.size + 2) _ rfl rfl 58 _ BR2.h (by kernel_rfl) (by rfl) (by kernel_rfl) ?_))
    refine bodyPost_ret (results_cell_row rfl _ _ (w.heap.size + 2) 58 (dsA cell hz ⟨1, 0, false, x, v, node⟩ q) (0, 0) _ rfl (Blk.row BR2 (dsA cell hz ⟨1, 0, false, x, v, node⟩ q)).h Try.underlying58 rfl (by kernel_rfl)) rfl ⟨rfl, below_setRow hB2 (by omega) _⟩
theorem rep_node {w : World} {b : Nat} {qr : BlockH} {r : ReplyV} {T : TypeId} (B : Blk w b (repA qr r) T) : w.rangeAt b 4 (nodeL qr.node r.block.node) :=
  range_blk B 4 _ (fun j v hv => by
    have hj : j < 8 := (List.getElem?_eq_some_iff.1 hv).1
    rcases lt8 hj with e | e | e | e | e | e | e | e <;> subst e <;> exact hv)
theorem sets_ds (cell hz : Int) (x : RS) (q : NodeH) (qn : NodeH) (n : NodeV) : sets' (dsA cell hz x q) 8 (nodeA qn n).toList = dsA cell hz ⟨x.at_, x.st, x.su, x.word, x.ver, n⟩ qn := by simp [sets']
set_option maxRecDepth 100000 in
set_option maxHeartbeats 3200000 in
theorem dsTell_3no (cell hz : Int) (su : Bool) (word ver : Int) (node : NodeV) (q : NodeH) (w : World) (qr : BlockH) (r : ReplyV) (hr : r.ok = false ∨ r.block.kind ≠ 1) :
    Calls Try.prog 18 #[.agg (dsA cell hz ⟨3, 0, su, word, ver, node⟩ q), .agg (repA qr r)] w fun e w' => e = .returned (.agg (dsA cell hz ⟨4, 3, false, word, ver, node⟩ q)) ∧ Below w.heap.size w w' := by
  cases hok : r.ok
  · have hB : Below w.heap.size w (((w.alloc (.cells (dsA cell hz ⟨3, 0, su, word, ver, node⟩ q) 58)).alloc (.cells (repA qr r) 46)).alloc (.cells dsZ 58)) := by (repeat (first | exact Below.refl _ _ | assumption | refine below_alloc2 ?_ (by first | exact Nat.le_refl _ | omega) _ | refine Below.drew ?_ | refine below_drewN ?_ _ | refine below_push2 ?_ ‹_› (by first | exact Nat.le_refl _ | omega) | refine Below.setCell ?_ (by first | (simp; done) | (simp; omega) | omega) _))
    have BC := ((Blk.new w (dsA cell hz ⟨3, 0, su, word, ver, node⟩ q) 58).alloc (.cells (repA qr r) 46)).alloc (.cells dsZ 58)
    have BQ : Blk (((w.alloc (.cells (dsA cell hz ⟨3, 0, su, word, ver, node⟩ q) 58)).alloc (.cells (repA qr r) 46)).alloc (.cells dsZ 58)) (w.heap.size + 1) (repA qr r) 46 := by
      have := (Blk.new (w.alloc (.cells (dsA cell hz ⟨3, 0, su, word, ver, node⟩ q) 58)) (repA qr r) 46).alloc (.cells dsZ 58)
      simpa using this
    have BR : Blk (((w.alloc (.cells (dsA cell hz ⟨3, 0, su, word, ver, node⟩ q) 58)).alloc (.cells (repA qr r) 46)).alloc (.cells dsZ 58)) (w.heap.size + 2) dsZ 58 := by
      have := Blk.new ((w.alloc (.cells (dsA cell hz ⟨3, 0, su, word, ver, node⟩ q) 58)).alloc (.cells (repA qr r) 46)) dsZ 58
      simpa using this
    go_enter Try.func18, Try.ntmps18
    go_upto_region 1 with (fail)
    generalize (((w.alloc (.cells (dsA cell hz ⟨3, 0, su, word, ver, node⟩ q) 58)).alloc (.cells (repA qr r) 46)).alloc (.cells dsZ 58)) = w1 at hB BC BQ BR ⊢
    have hs1 : w.heap.size + 2 < w1.heap.size := BR.lt
    have c4 : w1.cell? ⟨w.heap.size, 4, none⟩ = some (.bool su) := BC.at 4 rfl
    have f4 := BC.free 4
    have c2 : w1.cell? ⟨w.heap.size, 2, none⟩ = some (.int .i64 3) := BC.at 2 rfl
    have f2 := BC.free 2
    have c3 : w1.cell? ⟨w.heap.size, 3, none⟩ = some (.int .i64 0) := BC.at 3 rfl
    have f3 := BC.free 3
    have c6 : w1.cell? ⟨w.heap.size, 6, none⟩ = some (.int .u64 word) := BC.at 6 rfl
    have f6 := BC.free 6
    have c7 : w1.cell? ⟨w.heap.size, 7, none⟩ = some (.int .u64 ver) := BC.at 7 rfl
    have f7 := BC.free 7
    have r0 := BQ.at 0 rfl
    have r1 := BQ.at 1 rfl
    have r2 := BQ.at 2 rfl
    have BF := ((BC.set 4 (.bool false)).set 3 (.int .i64 3)).set 2 (.int .i64 4)
    have F2 : Fr [w.heap.size] w1 (((w1.setCell ⟨w.heap.size, 4, none⟩ (.bool false)).setCell ⟨w.heap.size, 3, none⟩ (.int .i64 3)).setCell ⟨w.heap.size, 2, none⟩ (.int .i64 4)) := (((Fr.refl _ _).set _ _ (.inl (by simp))).set _ _ (.inl (by simp))).set _ _ (.inl (by simp))
    have BR2 := F2.blk BR (by simp)
    have hB2 := F2.below hB (Nat.le_refl _) (by simp)
    simp only [List.setIfInBounds_toArray, List.set_cons_succ, List.set_cons_zero] at BF
    go_upto_region 19 with (fail)
    clear F2 BC BQ BR hB c4 f4 c2 f2 c3 f3 c6 f6 c7 f7 r0 r1 r2
    generalize (((w1.setCell ⟨w.heap.size, 4, none⟩ (.bool false)).setCell ⟨w.heap.size, 3, none⟩ (.int .i64 3)).setCell ⟨w.heap.size, 2, none⟩ (.int .i64 4)) = w2 at BF BR2 hB2 ⊢
    go_wp2_with (first
      | (refine wpList_load_row rfl 58 _ rfl w.heap.size rfl 58 _ (0, 0) _ BF.h Try.underlying58 rfl (by kernel_rfl) ?_)
      | (refine wpList_store_row rfl 58 _ _ rfl (w.heap.size + 2) _ rfl rfl 58 _ BR2.h (by kernel_rfl) (by rfl) (by kernel_rfl) ?_))
    refine bodyPost_ret (results_cell_row rfl _ _ (w.heap.size + 2) 58 (dsA cell hz ⟨4, 3, false, word, ver, node⟩ q) (0, 0) _ rfl (Blk.row BR2 (dsA cell hz ⟨4, 3, false, word, ver, node⟩ q)).h Try.underlying58 rfl (by kernel_rfl)) rfl ⟨rfl, below_setRow hB2 (by omega) _⟩
  · have hk : (r.block.kind == 1) = false := by
      rcases hr with h | h
      · rw [hok] at h; cases h
      · simpa using h
    have hB : Below w.heap.size w (((w.alloc (.cells (dsA cell hz ⟨3, 0, su, word, ver, node⟩ q) 58)).alloc (.cells (repA qr r) 46)).alloc (.cells dsZ 58)) := by (repeat (first | exact Below.refl _ _ | assumption | refine below_alloc2 ?_ (by first | exact Nat.le_refl _ | omega) _ | refine Below.drew ?_ | refine below_drewN ?_ _ | refine below_push2 ?_ ‹_› (by first | exact Nat.le_refl _ | omega) | refine Below.setCell ?_ (by first | (simp; done) | (simp; omega) | omega) _))
    have BC := ((Blk.new w (dsA cell hz ⟨3, 0, su, word, ver, node⟩ q) 58).alloc (.cells (repA qr r) 46)).alloc (.cells dsZ 58)
    have BQ : Blk (((w.alloc (.cells (dsA cell hz ⟨3, 0, su, word, ver, node⟩ q) 58)).alloc (.cells (repA qr r) 46)).alloc (.cells dsZ 58)) (w.heap.size + 1) (repA qr r) 46 := by
      have := (Blk.new (w.alloc (.cells (dsA cell hz ⟨3, 0, su, word, ver, node⟩ q) 58)) (repA qr r) 46).alloc (.cells dsZ 58)
      simpa using this
    have BR : Blk (((w.alloc (.cells (dsA cell hz ⟨3, 0, su, word, ver, node⟩ q) 58)).alloc (.cells (repA qr r) 46)).alloc (.cells dsZ 58)) (w.heap.size + 2) dsZ 58 := by
      have := Blk.new ((w.alloc (.cells (dsA cell hz ⟨3, 0, su, word, ver, node⟩ q) 58)).alloc (.cells (repA qr r) 46)) dsZ 58
      simpa using this
    go_enter Try.func18, Try.ntmps18
    go_upto_region 1 with (fail)
    generalize (((w.alloc (.cells (dsA cell hz ⟨3, 0, su, word, ver, node⟩ q) 58)).alloc (.cells (repA qr r) 46)).alloc (.cells dsZ 58)) = w1 at hB BC BQ BR ⊢
    have hs1 : w.heap.size + 2 < w1.heap.size := BR.lt
    have c4 : w1.cell? ⟨w.heap.size, 4, none⟩ = some (.bool su) := BC.at 4 rfl
    have f4 := BC.free 4
    have c2 : w1.cell? ⟨w.heap.size, 2, none⟩ = some (.int .i64 3) := BC.at 2 rfl
    have f2 := BC.free 2
    have c3 : w1.cell? ⟨w.heap.size, 3, none⟩ = some (.int .i64 0) := BC.at 3 rfl
    have f3 := BC.free 3
    have c6 : w1.cell? ⟨w.heap.size, 6, none⟩ = some (.int .u64 word) := BC.at 6 rfl
    have f6 := BC.free 6
    have c7 : w1.cell? ⟨w.heap.size, 7, none⟩ = some (.int .u64 ver) := BC.at 7 rfl
    have f7 := BC.free 7
    have r0 := BQ.at 0 rfl
    have r1 := BQ.at 1 rfl
    have r2 := BQ.at 2 rfl
    have r3 := BQ.at 3 rfl
    have BF := ((BC.set 4 (.bool false)).set 3 (.int .i64 3)).set 2 (.int .i64 4)
    have F2 : Fr [w.heap.size] w1 (((w1.setCell ⟨w.heap.size, 4, none⟩ (.bool false)).setCell ⟨w.heap.size, 3, none⟩ (.int .i64 3)).setCell ⟨w.heap.size, 2, none⟩ (.int .i64 4)) := (((Fr.refl _ _).set _ _ (.inl (by simp))).set _ _ (.inl (by simp))).set _ _ (.inl (by simp))
    have BR2 := F2.blk BR (by simp)
    have hB2 := F2.below hB (Nat.le_refl _) (by simp)
    simp only [List.setIfInBounds_toArray, List.set_cons_succ, List.set_cons_zero] at BF
    go_upto_region 19 with (fail)
    clear F2 BC BQ BR hB c4 f4 c2 f2 c3 f3 c6 f6 c7 f7 r0 r1 r2
    generalize (((w1.setCell ⟨w.heap.size, 4, none⟩ (.bool false)).setCell ⟨w.heap.size, 3, none⟩ (.int .i64 3)).setCell ⟨w.heap.size, 2, none⟩ (.int .i64 4)) = w2 at BF BR2 hB2 ⊢
    go_wp2_with (first
      | (refine wpList_load_row rfl 58 _ rfl w.heap.size rfl 58 _ (0, 0) _ BF.h Try.underlying58 rfl (by kernel_rfl) ?_)
      | (refine wpList_store_row rfl 58 _ _ rfl (w.heap.size + 2) _ rfl rfl 58 _ BR2.h (by kernel_rfl) (by rfl) (by kernel_rfl) ?_))
    refine bodyPost_ret (results_cell_row rfl _ _ (w.heap.size + 2) 58 (dsA cell hz ⟨4, 3, false, word, ver, node⟩ q) (0, 0) _ rfl (Blk.row BR2 (dsA cell hz ⟨4, 3, false, word, ver, node⟩ q)).h Try.underlying58 rfl (by kernel_rfl)) rfl ⟨rfl, below_setRow hB2 (by omega) _⟩
set_option maxRecDepth 100000 in
set_option maxHeartbeats 3200000 in
theorem dsTell_3 (cell hz : Int) (su : Bool) (word ver : Int) (node : NodeV) (q : NodeH) (w : World) (qr : BlockH) (r : ReplyV) (hok : r.ok = true) (hk0 : r.block.kind = 1) :
    Calls Try.prog 18 #[.agg (dsA cell hz ⟨3, 0, su, word, ver, node⟩ q), .agg (repA qr r)] w fun e w' => e = .returned (.agg (dsA cell hz ⟨4, 4, false, word, ver, r.block.node⟩ qr.node)) ∧ Below w.heap.size w w' := by
  have hB : Below w.heap.size w (((w.alloc (.cells (dsA cell hz ⟨3, 0, su, word, ver, node⟩ q) 58)).alloc (.cells (repA qr r) 46)).alloc (.cells dsZ 58)) := by (repeat (first | exact Below.refl _ _ | assumption | refine below_alloc2 ?_ (by first | exact Nat.le_refl _ | omega) _ | refine Below.drew ?_ | refine below_drewN ?_ _ | refine below_push2 ?_ ‹_› (by first | exact Nat.le_refl _ | omega) | refine Below.setCell ?_ (by first | (simp; done) | (simp; omega) | omega) _))
  have BC := ((Blk.new w (dsA cell hz ⟨3, 0, su, word, ver, node⟩ q) 58).alloc (.cells (repA qr r) 46)).alloc (.cells dsZ 58)
  have BQ : Blk (((w.alloc (.cells (dsA cell hz ⟨3, 0, su, word, ver, node⟩ q) 58)).alloc (.cells (repA qr r) 46)).alloc (.cells dsZ 58)) (w.heap.size + 1) (repA qr r) 46 := by
    have := (Blk.new (w.alloc (.cells (dsA cell hz ⟨3, 0, su, word, ver, node⟩ q) 58)) (repA qr r) 46).alloc (.cells dsZ 58)
    simpa using this
  have BR : Blk (((w.alloc (.cells (dsA cell hz ⟨3, 0, su, word, ver, node⟩ q) 58)).alloc (.cells (repA qr r) 46)).alloc (.cells dsZ 58)) (w.heap.size + 2) dsZ 58 := by
    have := Blk.new ((w.alloc (.cells (dsA cell hz ⟨3, 0, su, word, ver, node⟩ q) 58)).alloc (.cells (repA qr r) 46)) dsZ 58
    simpa using this
  go_enter Try.func18, Try.ntmps18
  go_upto_region 1 with (fail)
  generalize (((w.alloc (.cells (dsA cell hz ⟨3, 0, su, word, ver, node⟩ q) 58)).alloc (.cells (repA qr r) 46)).alloc (.cells dsZ 58)) = w1 at hB BC BQ BR ⊢
  have hs1 : w.heap.size + 2 < w1.heap.size := BR.lt
  have c4 : w1.cell? ⟨w.heap.size, 4, none⟩ = some (.bool su) := BC.at 4 rfl
  have f4 := BC.free 4
  have c2 : w1.cell? ⟨w.heap.size, 2, none⟩ = some (.int .i64 3) := BC.at 2 rfl
  have f2 := BC.free 2
  have c3 : w1.cell? ⟨w.heap.size, 3, none⟩ = some (.int .i64 0) := BC.at 3 rfl
  have f3 := BC.free 3
  have c6 : w1.cell? ⟨w.heap.size, 6, none⟩ = some (.int .u64 word) := BC.at 6 rfl
  have f6 := BC.free 6
  have c7 : w1.cell? ⟨w.heap.size, 7, none⟩ = some (.int .u64 ver) := BC.at 7 rfl
  have f7 := BC.free 7
  have r0 := BQ.at 0 rfl
  have r1 := BQ.at 1 rfl
  have r2 := BQ.at 2 rfl
  have r3 := BQ.at 3 rfl
  have BE := ((BC.set 4 (.bool false)).set 3 (.int .i64 3)).set 3 (.int .i64 4)
  simp only [List.setIfInBounds_toArray, List.set_cons_succ, List.set_cons_zero] at BE
  have F1 : Fr [w.heap.size] w1 (((w1.setCell ⟨w.heap.size, 4, none⟩ (.bool false)).setCell ⟨w.heap.size, 3, none⟩ (.int .i64 3)).setCell ⟨w.heap.size, 3, none⟩ (.int .i64 4)) := (((Fr.refl _ _).set _ _ (.inl (by simp))).set _ _ (.inl (by simp))).set _ _ (.inl (by simp))
  go_upto_region 17 with (fail)
  have BQ2 := F1.blk BQ (by simp)
  have BR1 := F1.blk BR (by simp)
  have hB1 := F1.below hB (Nat.le_refl _) (by simp)
  generalize (((w1.setCell ⟨w.heap.size, 4, none⟩ (.bool false)).setCell ⟨w.heap.size, 3, none⟩ (.int .i64 3)).setCell ⟨w.heap.size, 3, none⟩ (.int .i64 4)) = w2 at BE BQ2 BR1 hB1 ⊢
  clear c4 f4 c2 f2 c3 f3 c6 f6 c7 f7 r0 r1 r2 r3 F1 BC BQ BR hB
  have hN := rep_node BQ2
  have hth := there_blk' (o := 8) (n := 8) BE (by simp)
  have BF0 := blk_sets' (nodeA qr.node r.block.node).toList 8 _ _ BE
  rw [show sets' _ 8 (nodeA qr.node r.block.node).toList = dsA cell hz ⟨3, 4, false, word, ver, r.block.node⟩ qr.node from by simp [sets']] at BF0
  have F3 := fr_sets' (S := [w.heap.size]) (b := w.heap.size) (by simp) (nodeA qr.node r.block.node).toList 8 w2
  have BR3 := F3.blk BR1 (by simp)
  have hB3 := F3.below hB1 (Nat.le_refl _) (by simp)
  generalize hX : w2.setCells w.heap.size 8 (nodeA qr.node r.block.node).toList = w3 at BF0 BR3 hB3
  replace hX := Lib.hid hX
  have c2 := BF0.at 2 rfl
  have f2 := BF0.free 2
  have BF := BF0.set 2 (.int .i64 4)
  have F4 : Fr [w.heap.size] w3 (w3.setCell ⟨w.heap.size, 2, none⟩ (.int .i64 4)) := (Fr.refl _ _).set _ _ (.inl (by simp))
  have BR2 := F4.blk BR3 (by simp)
  have hB2 := F4.below hB3 (Nat.le_refl _) (by simp)
  simp only [List.setIfInBounds_toArray, List.set_cons_succ, List.set_cons_zero] at BF
  go_wp2_with (first
    | (refine wpList_load_mid rfl 32 _ rfl (w.heap.size + 1) 4 rfl (nodeL qr.node r.block.node) _ hN Try.underlying32 rfl (by kernel_rfl) ?_)
    | (refine wpList_store_mid rfl 32 _ _ rfl w.heap.size 8 (nodeA qr.node r.block.node) rfl rfl hth (by kernel_rfl) (by kernel_rfl) ?_; rw [hX.out])
    | (refine wpList_load_row rfl 58 _ rfl w.heap.size rfl 58 _ (0, 0) _ BF.h Try.underlying58 rfl (by kernel_rfl) ?_)
    | (refine wpList_store_row rfl 58 _ _ rfl (w.heap.size + 2) _ rfl rfl 58 _ BR2.h (by kernel_rfl) (by rfl) (by kernel_rfl) ?_))
  refine bodyPost_ret (results_cell_row rfl _ _ (w.heap.size + 2) 58 (dsA cell hz ⟨4, 4, false, word, ver, r.block.node⟩ qr.node) (0, 0) _ rfl (Blk.row BR2 (dsA cell hz ⟨4, 4, false, word, ver, r.block.node⟩ qr.node)).h Try.underlying58 rfl (by kernel_rfl)) rfl ⟨rfl, below_setRow hB2 (by omega) _⟩
end Go.Proofs.Ytgdeiaholkmfeaa.MemP

/-
  read: a task of a thread or a node that there is not; the document's reading in any state: contracts.
-/
namespace Go.Proofs.Ytgdeiaholkmfeaa.MemP
open Go.RowKit RefP CellP Dp
set_option linter.unusedVariables false
set_option linter.unusedSimpArgs false
/-- a task that is none, in every world from here on -/
def NoneAt (w : World) (p : Option Addr) : Prop := ∀ W, Below w.heap.size w W → Calls Try.prog 29 #[.pointer p] W fun e w' => e = .returned (.bool true) ∧ Below W.heap.size W w'
theorem NoneAt.below {w w' : World} {p : Option Addr} (h : NoneAt w p) (hb : Below w.heap.size w w') : NoneAt w' p := fun W hW => h W (below_push2 hb hW (Nat.le_refl _))
set_option maxRecDepth 100000 in
set_option maxHeartbeats 3200000 in
theorem none_out {o oc g gb gr A T : Nat} {L : List (Int × Int)} {bs rs : List (List Value)} (t : Nat) (th cell : Int) (w : World) (h : MemAt w o oc g gb gr A T L bs rs) (B : Blk w t (rdA (some ⟨o, 0, none⟩) th 0 0 false cell 0 0 (.int .i64 0) (.string ⟨#[]⟩) (.string ⟨#[]⟩) (.bool false) (.int .i64 0) (.slice none 0 0) (.slice none 0 0) (.slice none 0 0)) 70) (i0 : I64 th) (i1 : I64 cell) (hout : ¬ (0 ≤ th ∧ th < T ∧ 0 ≤ cell ∧ cell < A)) :
    Calls Try.prog 29 #[.pointer (some ⟨t, 0, none⟩)] w fun e w' => e = .returned (.bool true) ∧ Below w.heap.size w w' := by
  obtain ⟨i00, i01⟩ := i0
  obtain ⟨i10, i11⟩ := i1
  have hA := h.a1
  have c0 : w.cell? ⟨t, 0, none⟩ = some (.pointer (some ⟨o, 0, none⟩)) := B.at 0 rfl
  have c1 : w.cell? ⟨t, 1, none⟩ = some (.int .i64 th) := B.at 1 rfl
  have c5 : w.cell? ⟨t, 5, none⟩ = some (.int .i64 cell) := B.at 5 rfl
  have k0 := fun dd os => cell_regrown c0 dd os
  have k1 := fun dd os => cell_regrown c1 dd os
  have k5 := fun dd os => cell_regrown c5 dd os
  have kn := fun dd os => Calls.regrown_of (node_any cell (Go.Sort.grow (redrawn w dd) os) (h.below (below_regrown w dd os)) (by omega) (by omega))
  have kh := fun dd os => Calls.regrown_of (haz_any th 1 (Go.Sort.grow (redrawn w dd) os) (h.below (below_regrown w dd os)))
  by_cases hc : 0 ≤ cell ∧ cell < A
  · have q1 := atI0_pos (T := T) hc.1 hc.2
    have hh : hazI A T th 1 = -1 := hazI_no (by omega)
    simp only [hh] at kh
    clear hout c0 c1 c5
    go_enter Try.func29, Try.ntmps29
    go_upto_region 1 with (fail)
    try simp only [Act.put]
    refine wp_region_quiet_below (by kernel_rfl) (by kernel_rfl) ?_
    iterate 28 (go_big_quiet_step (first | exact kn _ _ | exact kh _ _))
    refine wpQuiet_nil ?_
    intro w6 hw'
    have hb6 := RefP.below_of_regrown hw'
    clear hw' k0 k1 k5 kn kh
    go_wp2_with fail
    go_ret
    exact ⟨rfl, hb6⟩
  · have hn : atI A T 0 cell = -1 := atI_no (by simp only [sizeI]; omega)
    simp only [hn] at kn
    clear hout c0 c1 c5
    go_enter Try.func29, Try.ntmps29
    go_upto_region 1 with (fail)
    try simp only [Act.put]
    refine wp_region_quiet_below (by kernel_rfl) (by kernel_rfl) ?_
    iterate 28 (go_big_quiet_step (first | exact kn _ _ | exact kh _ _))
    refine wpQuiet_nil ?_
    intro w6 hw'
    have hb6 := RefP.below_of_regrown hw'
    clear hw' k0 k1 k5 kn kh
    go_wp2_with fail
    go_ret
    exact ⟨rfl, hb6⟩
set_option maxRecDepth 100000 in
set_option maxHeartbeats 3200000 in
theorem nState_by (p : Option Addr) (w : World) (h : NoneAt w p) : Calls Try.prog 13 #[.pointer p] w fun e w' => e = .returned (.int .i64 3) ∧ Below w.heap.size w w' := by
  have hn := h w (Below.refl _ _)
  go_enter Try.func13, Try.ntmps13
  go_wp2_with fail
  refine hn.mono ?_
  rintro e w1 ⟨rfl, hb1⟩
  go_wp2_with fail
  go_ret
  exact ⟨rfl, hb1⟩
set_option maxRecDepth 100000 in
set_option maxHeartbeats 3200000 in
theorem nNext_by (p : Option Addr) (w : World) (h : NoneAt w p) : Calls Try.prog 11 #[.pointer p] w fun e w' => e = .returned (.tuple #[.agg (accY 0 0 0 0), .bool false]) ∧ Below w.heap.size w w' := by
  have hb0 : Below w.heap.size w (w.alloc (.cells (accY 0 0 0 0) 44)) := by (repeat (first | exact Below.refl _ _ | assumption | refine below_alloc2 ?_ (by first | exact Nat.le_refl _ | omega) _ | refine Below.drew ?_ | refine below_drewN ?_ _ | refine below_push2 ?_ ‹_› (by first | exact Nat.le_refl _ | omega) | refine Below.setCell ?_ (by first | (simp; done) | (simp; omega) | omega) _))
  have hn := h _ hb0
  go_enter Try.func11, Try.ntmps11
  go_wp2_with fail
  refine hn.mono ?_
  rintro e w1 ⟨rfl, hb1⟩
  have BR := (Blk.new w (accY 0 0 0 0) 44).below hb1
  have hB := below_push2 hb0 hb1 (Nat.le_refl _)
  go_wp2_with (refine wpList_store_row rfl 44 _ _ rfl w.heap.size _ rfl rfl 44 _ BR.h (by kernel_rfl) (by rfl) (by kernel_rfl) ?_)
  refine bodyPost_ret (v := .tuple #[.agg (accY 0 0 0 0), .bool false]) (results_cell_tmp rfl _ _ w.heap.size 44 (accY 0 0 0 0) (0, 0) _ (.bool false) rfl rfl (Blk.row BR (accY 0 0 0 0)).h Try.underlying44 rfl (by kernel_rfl)) rfl ⟨rfl, below_setRow hB (by omega) _⟩
set_option maxRecDepth 100000 in
set_option maxHeartbeats 3200000 in
theorem nKnown_by (p : Option Addr) (w : World) (h : NoneAt w p) : Calls Try.prog 12 #[.pointer p] w fun e w' => e = .returned (.tuple #[.agg (knA 0 0 0 (.int .i64 0) (.string ⟨#[]⟩) (.string ⟨#[]⟩) (.bool false) (.int .i64 0) (.slice none 0 0) (.slice none 0 0) (.slice none 0 0)), .bool false]) ∧ Below w.heap.size w w' := by
  have hb0 : Below w.heap.size w (w.alloc (.cells (knA 0 0 0 (.int .i64 0) (.string ⟨#[]⟩) (.string ⟨#[]⟩) (.bool false) (.int .i64 0) (.slice none 0 0) (.slice none 0 0) (.slice none 0 0)) 53)) := by (repeat (first | exact Below.refl _ _ | assumption | refine below_alloc2 ?_ (by first | exact Nat.le_refl _ | omega) _ | refine Below.drew ?_ | refine below_drewN ?_ _ | refine below_push2 ?_ ‹_› (by first | exact Nat.le_refl _ | omega) | refine Below.setCell ?_ (by first | (simp; done) | (simp; omega) | omega) _))
  go_enter Try.func12, Try.ntmps12
  go_wp2_with fail
  refine (nState_by _ _ (h.below hb0)).mono ?_
  rintro e w1 ⟨rfl, hb1⟩
  have BR := (Blk.new w (knA 0 0 0 (.int .i64 0) (.string ⟨#[]⟩) (.string ⟨#[]⟩) (.bool false) (.int .i64 0) (.slice none 0 0) (.slice none 0 0) (.slice none 0 0)) 53).below hb1
  have hB := below_push2 hb0 hb1 (Nat.le_refl _)
  go_wp2_with (refine wpList_store_row rfl 53 _ _ rfl w.heap.size _ rfl rfl 53 _ BR.h (by kernel_rfl) (by rfl) (by kernel_rfl) ?_)
  refine bodyPost_ret (v := .tuple #[.agg (knA 0 0 0 (.int .i64 0) (.string ⟨#[]⟩) (.string ⟨#[]⟩) (.bool false) (.int .i64 0) (.slice none 0 0) (.slice none 0 0) (.slice none 0 0)), .bool false]) (results_cell_tmp rfl _ _ w.heap.size 53 (knA 0 0 0 (.int .i64 0) (.string ⟨#[]⟩) (.string ⟨#[]⟩) (.bool false) (.int .i64 0) (.slice none 0 0) (.slice none 0 0) (.slice none 0 0)) (0, 0) _ (.bool false) rfl rfl (Blk.row BR (knA 0 0 0 (.int .i64 0) (.string ⟨#[]⟩) (.string ⟨#[]⟩) (.bool false) (.int .i64 0) (.slice none 0 0) (.slice none 0 0) (.slice none 0 0))).h Try.underlying53 rfl (by kernel_rfl)) rfl ⟨rfl, below_setRow hB (by omega) _⟩
/-- the document's reading beside the task: the same, but for the node that was not got -/
structure DsIs (wr : World) (S : List Nat) (td : Nat) (cell hz : Int) (x y : RS) (q : NodeH) : Prop where
  blk : Blk wr td (dsA cell hz y q) 58
  node : NodeOk wr S q y.node
  at_ : y.at_ = x.at_
  st : y.st = x.st
  su : y.su = x.su
  word : y.word = x.word
  ver : y.ver = x.ver
  got : x.st = 4 → y.node = x.node
theorem ds_next {cell hz : Int} {x : RS} {q : NodeH} (w : World) (hx : x.st = 0) (a0 : 0 ≤ x.at_) (a1 : x.at_ ≤ 3) :
    Calls Try.prog 14 #[.agg (dsA cell hz x q)] w fun e w' => e = .returned (.tuple #[.agg (if x.at_ = 1 then accY 2 hz 0 x.word else if x.at_ = 3 then accY 4 0 0 x.word else accY 1 cell 0 0), .bool true]) ∧ Below w.heap.size w w' := by
  obtain ⟨at_, st, su, word, ver, node⟩ := x
  simp only at hx a0 a1 ⊢
  subst hx
  have hc : at_ = 0 ∨ at_ = 1 ∨ at_ = 2 ∨ at_ = 3 := by omega
  rcases hc with rfl | rfl | rfl | rfl
  · exact dsNext_0 cell hz su word ver node q w
  · exact dsNext_1 cell hz su word ver node q w
  · exact dsNext_2 cell hz su word ver node q w
  · exact dsNext_3 cell hz su word ver node q w
theorem ds_tell {cell hz : Int} {x : RS} {q : NodeH} {qr : BlockH} {r : ReplyV} (w : World) (hx : x.st = 0) (a0 : 0 ≤ x.at_) (a1 : x.at_ ≤ 3) (hw : 0 ≤ r.word ∧ r.word ≤ 18446744073709551615) (hzz : x.at_ ≠ 3 → qr = nilH ∧ r.block = blockZ ∧ r.op = opZ) :
    Calls Try.prog 18 #[.agg (dsA cell hz x q), .agg (repA qr r)] w fun e w' => e = .returned (.agg (dsA cell hz (dsTell x r) (if x.at_ = 3 ∧ r.ok = true ∧ r.block.kind = 1 then qr.node else q))) ∧ Below w.heap.size w w' := by
  obtain ⟨at_, st, su, word, ver, node⟩ := x
  simp only at hx a0 a1 hzz ⊢
  subst hx
  have hc : at_ = 0 ∨ at_ = 1 ∨ at_ = 2 ∨ at_ = 3 := by omega
  rcases hc with rfl | rfl | rfl | rfl
  · obtain ⟨rfl, e1, e2⟩ := hzz (by decide)
    obtain ⟨ok, rw_, rv, rb, ro⟩ := r
    simp only at e1 e2 hw
    subst e1 e2
    exact dsTell_0 cell hz su word ver node q w ok rw_ rv hw.1 hw.2
  · obtain ⟨rfl, e1, e2⟩ := hzz (by decide)
    obtain ⟨ok, rw_, rv, rb, ro⟩ := r
    simp only at e1 e2
    subst e1 e2
    exact dsTell_1 cell hz su word ver node q w ok rw_ rv
  · obtain ⟨rfl, e1, e2⟩ := hzz (by decide)
    obtain ⟨ok, rw_, rv, rb, ro⟩ := r
    simp only at e1 e2
    subst e1 e2
    exact dsTell_2 cell hz su word ver node q w ok rw_ rv
  · by_cases h : r.ok = true ∧ r.block.kind = 1
    · have e : dsTell ⟨3, 0, su, word, ver, node⟩ r = ⟨4, 4, false, word, ver, r.block.node⟩ := by simp [dsTell, h.1, h.2]
      rw [e, if_pos ⟨rfl, h⟩]
      exact dsTell_3 cell hz su word ver node q w qr r h.1 h.2
    · have e : dsTell ⟨3, 0, su, word, ver, node⟩ r = ⟨4, 3, false, word, ver, node⟩ := by simp [dsTell, h]
      rw [e, if_neg (fun k => h k.2)]
      exact dsTell_3no cell hz su word ver node q w qr r (by
        by_cases ho : r.ok = true
        · exact .inr (fun k => h ⟨ho, k⟩)
        · exact .inl (by simpa using ho))
end Go.Proofs.Ytgdeiaholkmfeaa.MemP

/-
  The document's reading and the program's, step by step: plain laws.
-/
namespace Go.Proofs.Ytgdeiaholkmfeaa.MemP
open Go.RowKit RefP CellP Dp
set_option linter.unusedVariables false
set_option linter.unusedSimpArgs false
theorem rsTell_at (x : RS) (r : ReplyV) (a0 : 0 ≤ x.at_) (a1 : x.at_ ≤ 3) (h : (rsTell x r).st = 0) : (rsTell x r).at_ = x.at_ + 1 ∧ x.at_ ≤ 2 := by
  obtain ⟨at_, st, su, word, ver, node⟩ := x
  simp only at a0 a1
  have hc : at_ = 0 ∨ at_ = 1 ∨ at_ = 2 ∨ at_ = 3 := by omega
  rcases hc with rfl | rfl | rfl | rfl
  · exact ⟨by simp [rsTell], by simp⟩
  · exact ⟨by simp [rsTell], by simp⟩
  · refine ⟨?_, by simp⟩
    simp only [rsTell]
    by_cases e : r.ver = ver <;> simp [e]
  · exfalso
    have : (if r.ok = true ∧ r.block.kind = 1 then (4 : Int) else 3) = 0 := by simpa [rsTell] using h
    split at this <;> omega
theorem ds_same (x y : RS) (r : ReplyV) (e1 : y.at_ = x.at_) (e2 : y.st = x.st) (e3 : y.su = x.su) (e4 : y.word = x.word) (e5 : y.ver = x.ver) :
    (dsTell y r).at_ = (rsTell x r).at_ ∧ (dsTell y r).st = (rsTell x r).st ∧ (dsTell y r).su = (rsTell x r).su ∧ (dsTell y r).word = (rsTell x r).word ∧ (dsTell y r).ver = (rsTell x r).ver ∧ ((rsTell x r).st = 4 → (dsTell y r).node = (rsTell x r).node) := by
  obtain ⟨at_, st, su, word, ver, node⟩ := x
  obtain ⟨yat, yst, ysu, yword, yver, ynode⟩ := y
  simp only at e1 e2 e3 e4 e5
  subst e1 e2 e3 e4 e5
  unfold dsTell rsTell
  simp only
  by_cases h0 : yat = 0
  · simp only [h0, if_true]
    refine ⟨trivial, trivial, trivial, trivial, trivial, fun h => ?_⟩
    split at h <;> omega
  · simp only [h0, if_false]
    by_cases h1 : yat = 1
    · simp only [h1, if_true]
      exact ⟨trivial, trivial, trivial, trivial, trivial, fun h => by omega⟩
    · simp only [h1, if_false]
      by_cases h2 : yat = 2
      · simp only [h2, if_true]
        by_cases hv : r.ver = yver
        · simp only [hv, if_true]
          exact ⟨trivial, trivial, trivial, trivial, trivial, fun h => by omega⟩
        · simp only [hv, if_false]
          exact ⟨trivial, trivial, trivial, trivial, trivial, fun h => by omega⟩
      · simp only [h2, if_false]
        by_cases h : r.ok = true ∧ r.block.kind = 1
        · rw [if_pos h, if_pos h]
          exact ⟨rfl, rfl, rfl, rfl, rfl, fun _ => rfl⟩
        · rw [if_neg h, if_neg h]
          exact ⟨rfl, rfl, rfl, rfl, rfl, fun e => absurd e (by decide)⟩
theorem dsTell_node (y : RS) (r : ReplyV) : (dsTell y r).node = (if y.at_ = 3 ∧ r.ok = true ∧ r.block.kind = 1 then r.block.node else y.node) ∨ y.at_ < 0 ∨ 3 < y.at_ := by
  by_cases hlt : y.at_ < 0 ∨ 3 < y.at_
  · exact .inr hlt
  left
  have hc : y.at_ = 0 ∨ y.at_ = 1 ∨ y.at_ = 2 ∨ y.at_ = 3 := by omega
  obtain ⟨at_, st, su, word, ver, node⟩ := y
  simp only at hc ⊢
  rcases hc with rfl | rfl | rfl | rfl
  · simp [dsTell]
  · simp [dsTell]
  · simp only [dsTell]
    by_cases e : r.ver = ver <;> simp [e]
  · by_cases h : r.ok = true ∧ r.block.kind = 1
    · simp [dsTell, h]
    · simp [dsTell, h]
/-- the document's reading behind a reply -/
theorem DsIs.told {wr : World} {S : List Nat} {td : Nat} {cell hz : Int} {x y : RS} {q q2 : NodeH} {qr : BlockH} {r : ReplyV} (h1 : y.at_ = x.at_) (h2 : y.st = x.st) (h3 : y.su = x.su) (h4 : y.word = x.word) (h5 : y.ver = x.ver) (a0 : 0 ≤ y.at_) (a1 : y.at_ ≤ 3)
    (hq : q2 = if y.at_ = 3 ∧ r.ok = true ∧ r.block.kind = 1 then qr.node else q) (hB : Blk wr td (dsA cell hz (dsTell y r) q2) 58) (hN : NodeOk wr S q y.node) (hR : NodeOk wr S qr.node r.block.node) :
    DsIs wr S td cell hz (rsTell x r) (dsTell y r) q2 := by
  obtain ⟨s1, s2, s3, s4, s5, s6⟩ := ds_same x y r h1 h2 h3 h4 h5
  refine ⟨hB, ?_, s1, s2, s3, s4, s5, s6⟩
  rw [hq]
  rcases dsTell_node y r with e | e
  · rw [e]
    by_cases h : y.at_ = 3 ∧ r.ok = true ∧ r.block.kind = 1
    · rw [if_pos h, if_pos h]; exact hR
    · rw [if_neg h, if_neg h]; exact hN
  · omega
theorem DsIs.keep {w w' : World} {S S' : List Nat} {td : Nat} {cell hz : Int} {x y : RS} {q : NodeH} (h : DsIs w S td cell hz x y q) (F : Fr S' w w') (h1 : ∀ b ∈ S', b ∈ S) (h2 : td ∉ S') : DsIs w' S td cell hz x y q :=
  ⟨F.blk h.blk h2, h.node.keep (F.keeps.more h1), h.at_, h.st, h.su, h.word, h.ver, h.got⟩
theorem DsIs.under {w w' : World} {S : List Nat} {td : Nat} {cell hz : Int} {x y : RS} {q : NodeH} (h : DsIs w S td cell hz x y q) (hb : Below w.heap.size w w') : DsIs w' S td cell hz x y q :=
  h.keep (S' := []) (Fr.of_below hb) (by simp) (by simp)
end Go.Proofs.Ytgdeiaholkmfeaa.MemP
