/-
  read: Tell in each state; the first block is got: contracts.
-/
import Derived.Test.YtpmlbdnhgeeaoaaReadT
import Derived.Test.YtpmlbdnhgeeaoaaReadG
namespace Go.Proofs.Ytpmlbdnhgeeaoaa.MemP
open Go.RowKit RefP CellP
set_option linter.unusedVariables false
set_option linter.unusedSimpArgs false
set_option maxRecDepth 100000 in
set_option maxHeartbeats 3200000 in
theorem rdTell_1 {o oc g gb gr A T : Nat} {L : List (Int × Int)} {bs rs : List (List Value)} (t : Nat) (th : Int) (su : Bool) (cell word ver : Int) (n0 n1 n2 n3 n4 n5 n6 n7 : Value) (w : World) (h : MemAt w o oc g gb gr A T L bs rs) (t0 : 0 ≤ th) (t1 : th < T) (l0 : 0 ≤ cell) (l1 : cell < A) (hdis : ¬ o = t ∧ ¬ oc = t ∧ ¬ g = t ∧ ¬ gb = t ∧ ¬ gr = t) (B : Blk w t (rdA (some ⟨o, 0, none⟩) th 1 0 su cell word ver n0 n1 n2 n3 n4 n5 n6 n7) 95) (ok : Bool) (x v : Int) :
    Calls Try.prog 51 #[.pointer (some ⟨t, 0, none⟩), .agg #[.bool ok, .int .u64 x, .int .u64 v, .int .i64 0, .int .i64 0, .string ⟨#[]⟩, .string ⟨#[]⟩, .bool false, .int .i64 0, .slice none 0 0, .slice none 0 0, .slice none 0 0, .int .i64 0, .int .i64 0, .string ⟨#[]⟩, .int .u64 0, .slice none 0 0, .slice none 0 0, .slice none 0 0, .slice none 0 0, .int .i64 0, .string ⟨#[]⟩, .string ⟨#[]⟩, .int .u64 0, .int .i64 0]] w fun e w' => e = .returned (.tuple #[]) ∧ Blk w' t (rdA (some ⟨o, 0, none⟩) th 2 0 false cell word ver n0 n1 n2 n3 n4 n5 n6 n7) 95 ∧ Fr [t] w w' := by
  have hb0 : Below w.heap.size w ((w.alloc (.cells #[.pointer (some ⟨t, 0, none⟩)] 78)).alloc (.cells (#[.bool ok, .int .u64 x, .int .u64 v, .int .i64 0, .int .i64 0, .string ⟨#[]⟩, .string ⟨#[]⟩, .bool false, .int .i64 0, .slice none 0 0, .slice none 0 0, .slice none 0 0, .int .i64 0, .int .i64 0, .string ⟨#[]⟩, .int .u64 0, .slice none 0 0, .slice none 0 0, .slice none 0 0, .slice none 0 0, .int .i64 0, .string ⟨#[]⟩, .string ⟨#[]⟩, .int .u64 0, .int .i64 0]) 50)) := by (repeat (first | exact Below.refl _ _ | assumption | refine below_alloc2 ?_ (by first | exact Nat.le_refl _ | omega) _ | refine Below.drew ?_ | refine below_drewN ?_ _ | refine below_push2 ?_ ‹_› (by first | exact Nat.le_refl _ | omega) | refine Below.setCell ?_ (by first | (simp; done) | (simp; omega) | omega) _))
  have BP := (Blk.new w #[.pointer (some ⟨t, 0, none⟩)] 78).alloc (.cells (#[.bool ok, .int .u64 x, .int .u64 v, .int .i64 0, .int .i64 0, .string ⟨#[]⟩, .string ⟨#[]⟩, .bool false, .int .i64 0, .slice none 0 0, .slice none 0 0, .slice none 0 0, .int .i64 0, .int .i64 0, .string ⟨#[]⟩, .int .u64 0, .slice none 0 0, .slice none 0 0, .slice none 0 0, .slice none 0 0, .int .i64 0, .string ⟨#[]⟩, .string ⟨#[]⟩, .int .u64 0, .int .i64 0]) 50)
  have BQ : Blk ((w.alloc (.cells #[.pointer (some ⟨t, 0, none⟩)] 78)).alloc (.cells (#[.bool ok, .int .u64 x, .int .u64 v, .int .i64 0, .int .i64 0, .string ⟨#[]⟩, .string ⟨#[]⟩, .bool false, .int .i64 0, .slice none 0 0, .slice none 0 0, .slice none 0 0, .int .i64 0, .int .i64 0, .string ⟨#[]⟩, .int .u64 0, .slice none 0 0, .slice none 0 0, .slice none 0 0, .slice none 0 0, .int .i64 0, .string ⟨#[]⟩, .string ⟨#[]⟩, .int .u64 0, .int .i64 0]) 50)) (w.heap.size + 1) (#[.bool ok, .int .u64 x, .int .u64 v, .int .i64 0, .int .i64 0, .string ⟨#[]⟩, .string ⟨#[]⟩, .bool false, .int .i64 0, .slice none 0 0, .slice none 0 0, .slice none 0 0, .int .i64 0, .int .i64 0, .string ⟨#[]⟩, .int .u64 0, .slice none 0 0, .slice none 0 0, .slice none 0 0, .slice none 0 0, .int .i64 0, .string ⟨#[]⟩, .string ⟨#[]⟩, .int .u64 0, .int .i64 0]) 50 := by
    have := Blk.new (w.alloc (.cells #[.pointer (some ⟨t, 0, none⟩)] 78)) (#[.bool ok, .int .u64 x, .int .u64 v, .int .i64 0, .int .i64 0, .string ⟨#[]⟩, .string ⟨#[]⟩, .bool false, .int .i64 0, .slice none 0 0, .slice none 0 0, .slice none 0 0, .int .i64 0, .int .i64 0, .string ⟨#[]⟩, .int .u64 0, .slice none 0 0, .slice none 0 0, .slice none 0 0, .slice none 0 0, .int .i64 0, .string ⟨#[]⟩, .string ⟨#[]⟩, .int .u64 0, .int .i64 0]) 50
    simpa using this
  have hlt := B.lt
  have h1 := h.below hb0
  have B1 := B.below hb0
  go_enter Try.func51, Try.ntmps51
  go_upto_region 1 with (fail)
  generalize ((w.alloc (.cells #[.pointer (some ⟨t, 0, none⟩)] 78)).alloc (.cells (#[.bool ok, .int .u64 x, .int .u64 v, .int .i64 0, .int .i64 0, .string ⟨#[]⟩, .string ⟨#[]⟩, .bool false, .int .i64 0, .slice none 0 0, .slice none 0 0, .slice none 0 0, .int .i64 0, .int .i64 0, .string ⟨#[]⟩, .int .u64 0, .slice none 0 0, .slice none 0 0, .slice none 0 0, .slice none 0 0, .int .i64 0, .string ⟨#[]⟩, .string ⟨#[]⟩, .int .u64 0, .int .i64 0]) 50)) = w1 at hb0 BP BQ h1 B1 ⊢
  have p0 := BP.at 0 rfl
  have c4 := B1.at 4 rfl
  have f4 := B1.free 4
  have hmo := h.head.lt
  have F2 : Fr [t] w1 (w1.setCell ⟨t, 4, none⟩ (.bool false)) := (Fr.refl _ _).set _ _ (.inl (by simp))
  have B2 := B1.set 4 (.bool false)
  have BP2 := F2.blk BP (by simp; omega)
  have BQ2 := F2.blk BQ (by simp; omega)
  have h2 := h1.off F2 (by simp; exact hdis)
  have p2 := BP2.at 0 rfl
  go_wp2_with fail
  generalize w1.setCell ⟨t, 4, none⟩ (.bool false) = w2 at F2 B2 BP2 BQ2 h2 p2 ⊢
  have B2' : Blk w2 t (rdA (some ⟨o, 0, none⟩) th 1 0 false cell word ver n0 n1 n2 n3 n4 n5 n6 n7) 95 := by simpa [rdA] using B2
  refine (rdNext_1 t th false cell word ver n0 n1 n2 n3 n4 n5 n6 n7 _ h2 B2' t0 t1 l0 l1).mono ?_
  rintro e w3 ⟨rfl, hb3⟩
  have hb4 := (below_push2 (Below.refl _ w2) hb3 (Nat.le_refl _)).alloc hb3.size (.cells (accY 2 (hazI A T th 1) 0 word) 39)
  have B3 := B2'.below hb4
  have BP3 := BP2.below hb4
  have BQ3 := BQ2.below hb4
  have F3 : Fr [t] w (w3.alloc (.cells (accY 2 (hazI A T th 1) 0 word) 39)) := ((Fr.of_below hb0).trans F2).trans (Fr.of_below hb4)
  clear p0 c4 f4 F2 B2 B2' BP2 BQ2 p2 h1 B1 BP BQ hb3 hb4 hb0
  generalize hW : w3.alloc (.cells (accY 2 (hazI A T th 1) 0 word) 39) = w4 at B3 BP3 BQ3 F3
  replace hW := Lib.hid hW
  have p0 := BP3.at 0 rfl
  have c2 := B3.at 2 rfl
  have c3 := B3.at 3 rfl
  have c4 := B3.at 4 rfl
  have c6 := B3.at 6 rfl
  have c7 := B3.at 7 rfl
  have f2 := B3.free 2
  have f3 := B3.free 3
  have f4 := B3.free 4
  have f6 := B3.free 6
  have f7 := B3.free 7
  have r0 := BQ3.at 0 rfl
  have r1 := BQ3.at 1 rfl
  have r2 := BQ3.at 2 rfl
  go_wp2_with (refine wpList_store_row rfl 39 _ _ rfl _ _ rfl rfl 39 _ (Blk.new w3 _ _).h (by kernel_rfl) (by rfl) (by kernel_rfl) ?_; rw [World.setRow_alloc_new, hW.out])
  go_end0
  have FF : Fr [t] w4 (w4.setCell ⟨t, 2, none⟩ (.int .i64 2)) := (Fr.refl _ _).set _ _ (.inl (by simp))
  exact ⟨rfl, by simpa [rdA] using B3.set 2 (.int .i64 2), F3.trans FF⟩
set_option maxRecDepth 100000 in
set_option maxHeartbeats 3200000 in
theorem rdTell_0 {o oc g gb gr A T : Nat} {L : List (Int × Int)} {bs rs : List (List Value)} (t : Nat) (th : Int) (su : Bool) (cell word ver : Int) (n0 n1 n2 n3 n4 n5 n6 n7 : Value) (w : World) (h : MemAt w o oc g gb gr A T L bs rs) (t0 : 0 ≤ th) (t1 : th < T) (l0 : 0 ≤ cell) (l1 : cell < A) (hdis : ¬ o = t ∧ ¬ oc = t ∧ ¬ g = t ∧ ¬ gb = t ∧ ¬ gr = t) (B : Blk w t (rdA (some ⟨o, 0, none⟩) th 0 0 su cell word ver n0 n1 n2 n3 n4 n5 n6 n7) 95) (ok : Bool) (x v : Int) (x0 : 0 ≤ x) (x1 : x ≤ 18446744073709551615) (ho : opensB x = true) :
    Calls Try.prog 51 #[.pointer (some ⟨t, 0, none⟩), .agg #[.bool ok, .int .u64 x, .int .u64 v, .int .i64 0, .int .i64 0, .string ⟨#[]⟩, .string ⟨#[]⟩, .bool false, .int .i64 0, .slice none 0 0, .slice none 0 0, .slice none 0 0, .int .i64 0, .int .i64 0, .string ⟨#[]⟩, .int .u64 0, .slice none 0 0, .slice none 0 0, .slice none 0 0, .slice none 0 0, .int .i64 0, .string ⟨#[]⟩, .string ⟨#[]⟩, .int .u64 0, .int .i64 0]] w fun e w' => e = .returned (.tuple #[]) ∧ Blk w' t (rdA (some ⟨o, 0, none⟩) th 1 0 false cell x v n0 n1 n2 n3 n4 n5 n6 n7) 95 ∧ Fr [t] w w' := by
  have hb0 : Below w.heap.size w ((w.alloc (.cells #[.pointer (some ⟨t, 0, none⟩)] 78)).alloc (.cells (#[.bool ok, .int .u64 x, .int .u64 v, .int .i64 0, .int .i64 0, .string ⟨#[]⟩, .string ⟨#[]⟩, .bool false, .int .i64 0, .slice none 0 0, .slice none 0 0, .slice none 0 0, .int .i64 0, .int .i64 0, .string ⟨#[]⟩, .int .u64 0, .slice none 0 0, .slice none 0 0, .slice none 0 0, .slice none 0 0, .int .i64 0, .string ⟨#[]⟩, .string ⟨#[]⟩, .int .u64 0, .int .i64 0]) 50)) := by (repeat (first | exact Below.refl _ _ | assumption | refine below_alloc2 ?_ (by first | exact Nat.le_refl _ | omega) _ | refine Below.drew ?_ | refine below_drewN ?_ _ | refine below_push2 ?_ ‹_› (by first | exact Nat.le_refl _ | omega) | refine Below.setCell ?_ (by first | (simp; done) | (simp; omega) | omega) _))
  have BP := (Blk.new w #[.pointer (some ⟨t, 0, none⟩)] 78).alloc (.cells (#[.bool ok, .int .u64 x, .int .u64 v, .int .i64 0, .int .i64 0, .string ⟨#[]⟩, .string ⟨#[]⟩, .bool false, .int .i64 0, .slice none 0 0, .slice none 0 0, .slice none 0 0, .int .i64 0, .int .i64 0, .string ⟨#[]⟩, .int .u64 0, .slice none 0 0, .slice none 0 0, .slice none 0 0, .slice none 0 0, .int .i64 0, .string ⟨#[]⟩, .string ⟨#[]⟩, .int .u64 0, .int .i64 0]) 50)
  have BQ : Blk ((w.alloc (.cells #[.pointer (some ⟨t, 0, none⟩)] 78)).alloc (.cells (#[.bool ok, .int .u64 x, .int .u64 v, .int .i64 0, .int .i64 0, .string ⟨#[]⟩, .string ⟨#[]⟩, .bool false, .int .i64 0, .slice none 0 0, .slice none 0 0, .slice none 0 0, .int .i64 0, .int .i64 0, .string ⟨#[]⟩, .int .u64 0, .slice none 0 0, .slice none 0 0, .slice none 0 0, .slice none 0 0, .int .i64 0, .string ⟨#[]⟩, .string ⟨#[]⟩, .int .u64 0, .int .i64 0]) 50)) (w.heap.size + 1) (#[.bool ok, .int .u64 x, .int .u64 v, .int .i64 0, .int .i64 0, .string ⟨#[]⟩, .string ⟨#[]⟩, .bool false, .int .i64 0, .slice none 0 0, .slice none 0 0, .slice none 0 0, .int .i64 0, .int .i64 0, .string ⟨#[]⟩, .int .u64 0, .slice none 0 0, .slice none 0 0, .slice none 0 0, .slice none 0 0, .int .i64 0, .string ⟨#[]⟩, .string ⟨#[]⟩, .int .u64 0, .int .i64 0]) 50 := by
    have := Blk.new (w.alloc (.cells #[.pointer (some ⟨t, 0, none⟩)] 78)) (#[.bool ok, .int .u64 x, .int .u64 v, .int .i64 0, .int .i64 0, .string ⟨#[]⟩, .string ⟨#[]⟩, .bool false, .int .i64 0, .slice none 0 0, .slice none 0 0, .slice none 0 0, .int .i64 0, .int .i64 0, .string ⟨#[]⟩, .int .u64 0, .slice none 0 0, .slice none 0 0, .slice none 0 0, .slice none 0 0, .int .i64 0, .string ⟨#[]⟩, .string ⟨#[]⟩, .int .u64 0, .int .i64 0]) 50
    simpa using this
  have hlt := B.lt
  have h1 := h.below hb0
  have B1 := B.below hb0
  go_enter Try.func51, Try.ntmps51
  go_upto_region 1 with (fail)
  generalize ((w.alloc (.cells #[.pointer (some ⟨t, 0, none⟩)] 78)).alloc (.cells (#[.bool ok, .int .u64 x, .int .u64 v, .int .i64 0, .int .i64 0, .string ⟨#[]⟩, .string ⟨#[]⟩, .bool false, .int .i64 0, .slice none 0 0, .slice none 0 0, .slice none 0 0, .int .i64 0, .int .i64 0, .string ⟨#[]⟩, .int .u64 0, .slice none 0 0, .slice none 0 0, .slice none 0 0, .slice none 0 0, .int .i64 0, .string ⟨#[]⟩, .string ⟨#[]⟩, .int .u64 0, .int .i64 0]) 50)) = w1 at hb0 BP BQ h1 B1 ⊢
  have p0 := BP.at 0 rfl
  have c4 := B1.at 4 rfl
  have f4 := B1.free 4
  have hmo := h.head.lt
  have F2 : Fr [t] w1 (w1.setCell ⟨t, 4, none⟩ (.bool false)) := (Fr.refl _ _).set _ _ (.inl (by simp))
  have B2 := B1.set 4 (.bool false)
  have BP2 := F2.blk BP (by simp; omega)
  have BQ2 := F2.blk BQ (by simp; omega)
  have h2 := h1.off F2 (by simp; exact hdis)
  have p2 := BP2.at 0 rfl
  go_wp2_with fail
  generalize w1.setCell ⟨t, 4, none⟩ (.bool false) = w2 at F2 B2 BP2 BQ2 h2 p2 ⊢
  have B2' : Blk w2 t (rdA (some ⟨o, 0, none⟩) th 0 0 false cell word ver n0 n1 n2 n3 n4 n5 n6 n7) 95 := by simpa [rdA] using B2
  refine (rdNext_0 t th false cell word ver n0 n1 n2 n3 n4 n5 n6 n7 _ h2 B2' t0 t1 l0 l1).mono ?_
  rintro e w3 ⟨rfl, hb3⟩
  have hb4 := (below_push2 (Below.refl _ w2) hb3 (Nat.le_refl _)).alloc hb3.size (.cells (accY 1 (atI A T 0 cell) 0 0) 39)
  have B3 := B2'.below hb4
  have BP3 := BP2.below hb4
  have BQ3 := BQ2.below hb4
  have F3 : Fr [t] w (w3.alloc (.cells (accY 1 (atI A T 0 cell) 0 0) 39)) := ((Fr.of_below hb0).trans F2).trans (Fr.of_below hb4)
  clear p0 c4 f4 F2 B2 B2' BP2 BQ2 p2 h1 B1 BP BQ hb3 hb4 hb0
  generalize hW : w3.alloc (.cells (accY 1 (atI A T 0 cell) 0 0) 39) = w4 at B3 BP3 BQ3 F3
  replace hW := Lib.hid hW
  have p0 := BP3.at 0 rfl
  have c2 := B3.at 2 rfl
  have c3 := B3.at 3 rfl
  have c4 := B3.at 4 rfl
  have c6 := B3.at 6 rfl
  have c7 := B3.at 7 rfl
  have f2 := B3.free 2
  have f3 := B3.free 3
  have f4 := B3.free 4
  have f6 := B3.free 6
  have f7 := B3.free 7
  have r0 := BQ3.at 0 rfl
  have r1 := BQ3.at 1 rfl
  have r2 := BQ3.at 2 rfl
  go_wp2_with (refine wpList_store_row rfl 39 _ _ rfl _ _ rfl rfl 39 _ (Blk.new w3 _ _).h (by kernel_rfl) (by rfl) (by kernel_rfl) ?_; rw [World.setRow_alloc_new, hW.out])
  refine (open_any x _ x0 x1).mono ?_
  rw [ho]
  rintro e w5 ⟨rfl, hb5⟩
  replace B3 := B3.below hb5
  replace BP3 := BP3.below hb5
  replace BQ3 := BQ3.below hb5
  replace F3 := F3.trans (Fr.of_below hb5)
  clear p0 c2 c3 c4 c6 c7 f2 f3 f4 f6 f7 r0 r1 r2 hW hb5
  have p0 := BP3.at 0 rfl
  have c2 := B3.at 2 rfl
  have c6 := B3.at 6 rfl
  have c7 := B3.at 7 rfl
  have f2 := B3.free 2
  have f6 := B3.free 6
  have f7 := B3.free 7
  have r1 := BQ3.at 1 rfl
  have r2 := BQ3.at 2 rfl
  have hn1 : ¬ t = w.heap.size := by omega
  have hn2 : ¬ t = w.heap.size + 1 := by omega
  have hn3 : ¬ w.heap.size = t := by omega
  have hn4 : ¬ w.heap.size + 1 = t := by omega
  go_wp2_with fail
  refine (rdEnd_no _ _ _).mono ?_
  rintro e w6 ⟨rfl, rfl⟩
  go_upto_region 10 with (fail)
  go_region
  all_goals
    go_wp2_with fail
    go_end0
    have FF : Fr [t] w5 (((w5.setCell ⟨t, 6, none⟩ (.int .u64 x)).setCell ⟨t, 7, none⟩ (.int .u64 v)).setCell ⟨t, 2, none⟩ (.int .i64 1)) := (((Fr.refl _ _).set _ _ (.inl (by simp))).set _ _ (.inl (by simp))).set _ _ (.inl (by simp))
    have BF : Blk (((w5.setCell ⟨t, 6, none⟩ (.int .u64 x)).setCell ⟨t, 7, none⟩ (.int .u64 v)).setCell ⟨t, 2, none⟩ (.int .i64 1)) t (rdA (some ⟨o, 0, none⟩) th 1 0 false cell x v n0 n1 n2 n3 n4 n5 n6 n7) 95 := by
      simpa [rdA] using ((B3.set 6 (.int .u64 x)).set 7 (.int .u64 v)).set 2 (.int .i64 1)
    exact ⟨rfl, BF.drew, (F3.trans FF).trans (Fr.of_below (Below.refl _ _).drew)⟩
set_option maxRecDepth 100000 in
set_option maxHeartbeats 3200000 in
theorem rdTell_2 {o oc g gb gr A T : Nat} {L : List (Int × Int)} {bs rs : List (List Value)} (t : Nat) (th : Int) (su : Bool) (cell word ver : Int) (n0 n1 n2 n3 n4 n5 n6 n7 : Value) (w : World) (h : MemAt w o oc g gb gr A T L bs rs) (t0 : 0 ≤ th) (t1 : th < T) (l0 : 0 ≤ cell) (l1 : cell < A) (hdis : ¬ o = t ∧ ¬ oc = t ∧ ¬ g = t ∧ ¬ gb = t ∧ ¬ gr = t) (B : Blk w t (rdA (some ⟨o, 0, none⟩) th 2 0 su cell word ver n0 n1 n2 n3 n4 n5 n6 n7) 95) (ok : Bool) (x : Int) :
    Calls Try.prog 51 #[.pointer (some ⟨t, 0, none⟩), .agg #[.bool ok, .int .u64 x, .int .u64 ver, .int .i64 0, .int .i64 0, .string ⟨#[]⟩, .string ⟨#[]⟩, .bool false, .int .i64 0, .slice none 0 0, .slice none 0 0, .slice none 0 0, .int .i64 0, .int .i64 0, .string ⟨#[]⟩, .int .u64 0, .slice none 0 0, .slice none 0 0, .slice none 0 0, .slice none 0 0, .int .i64 0, .string ⟨#[]⟩, .string ⟨#[]⟩, .int .u64 0, .int .i64 0]] w fun e w' => e = .returned (.tuple #[]) ∧ Blk w' t (rdA (some ⟨o, 0, none⟩) th 3 0 true cell word ver n0 n1 n2 n3 n4 n5 n6 n7) 95 ∧ Fr [t] w w' := by
  have hn1 : ¬ t = w.heap.size := by have := B.lt; omega
  have hn2 : ¬ t = w.heap.size + 1 := by have := B.lt; omega
  have hn3 : ¬ w.heap.size = t := by have := B.lt; omega
  have hn4 : ¬ w.heap.size + 1 = t := by have := B.lt; omega
  have hb0 : Below w.heap.size w ((w.alloc (.cells #[.pointer (some ⟨t, 0, none⟩)] 78)).alloc (.cells (#[.bool ok, .int .u64 x, .int .u64 ver, .int .i64 0, .int .i64 0, .string ⟨#[]⟩, .string ⟨#[]⟩, .bool false, .int .i64 0, .slice none 0 0, .slice none 0 0, .slice none 0 0, .int .i64 0, .int .i64 0, .string ⟨#[]⟩, .int .u64 0, .slice none 0 0, .slice none 0 0, .slice none 0 0, .slice none 0 0, .int .i64 0, .string ⟨#[]⟩, .string ⟨#[]⟩, .int .u64 0, .int .i64 0]) 50)) := by (repeat (first | exact Below.refl _ _ | assumption | refine below_alloc2 ?_ (by first | exact Nat.le_refl _ | omega) _ | refine Below.drew ?_ | refine below_drewN ?_ _ | refine below_push2 ?_ ‹_› (by first | exact Nat.le_refl _ | omega) | refine Below.setCell ?_ (by first | (simp; done) | (simp; omega) | omega) _))
  have BP := (Blk.new w #[.pointer (some ⟨t, 0, none⟩)] 78).alloc (.cells (#[.bool ok, .int .u64 x, .int .u64 ver, .int .i64 0, .int .i64 0, .string ⟨#[]⟩, .string ⟨#[]⟩, .bool false, .int .i64 0, .slice none 0 0, .slice none 0 0, .slice none 0 0, .int .i64 0, .int .i64 0, .string ⟨#[]⟩, .int .u64 0, .slice none 0 0, .slice none 0 0, .slice none 0 0, .slice none 0 0, .int .i64 0, .string ⟨#[]⟩, .string ⟨#[]⟩, .int .u64 0, .int .i64 0]) 50)
  have BQ : Blk ((w.alloc (.cells #[.pointer (some ⟨t, 0, none⟩)] 78)).alloc (.cells (#[.bool ok, .int .u64 x, .int .u64 ver, .int .i64 0, .int .i64 0, .string ⟨#[]⟩, .string ⟨#[]⟩, .bool false, .int .i64 0, .slice none 0 0, .slice none 0 0, .slice none 0 0, .int .i64 0, .int .i64 0, .string ⟨#[]⟩, .int .u64 0, .slice none 0 0, .slice none 0 0, .slice none 0 0, .slice none 0 0, .int .i64 0, .string ⟨#[]⟩, .string ⟨#[]⟩, .int .u64 0, .int .i64 0]) 50)) (w.heap.size + 1) (#[.bool ok, .int .u64 x, .int .u64 ver, .int .i64 0, .int .i64 0, .string ⟨#[]⟩, .string ⟨#[]⟩, .bool false, .int .i64 0, .slice none 0 0, .slice none 0 0, .slice none 0 0, .int .i64 0, .int .i64 0, .string ⟨#[]⟩, .int .u64 0, .slice none 0 0, .slice none 0 0, .slice none 0 0, .slice none 0 0, .int .i64 0, .string ⟨#[]⟩, .string ⟨#[]⟩, .int .u64 0, .int .i64 0]) 50 := by
    have := Blk.new (w.alloc (.cells #[.pointer (some ⟨t, 0, none⟩)] 78)) (#[.bool ok, .int .u64 x, .int .u64 ver, .int .i64 0, .int .i64 0, .string ⟨#[]⟩, .string ⟨#[]⟩, .bool false, .int .i64 0, .slice none 0 0, .slice none 0 0, .slice none 0 0, .int .i64 0, .int .i64 0, .string ⟨#[]⟩, .int .u64 0, .slice none 0 0, .slice none 0 0, .slice none 0 0, .slice none 0 0, .int .i64 0, .string ⟨#[]⟩, .string ⟨#[]⟩, .int .u64 0, .int .i64 0]) 50
    simpa using this
  have hlt := B.lt
  have h1 := h.below hb0
  have B1 := B.below hb0
  go_enter Try.func51, Try.ntmps51
  go_upto_region 1 with (fail)
  generalize ((w.alloc (.cells #[.pointer (some ⟨t, 0, none⟩)] 78)).alloc (.cells (#[.bool ok, .int .u64 x, .int .u64 ver, .int .i64 0, .int .i64 0, .string ⟨#[]⟩, .string ⟨#[]⟩, .bool false, .int .i64 0, .slice none 0 0, .slice none 0 0, .slice none 0 0, .int .i64 0, .int .i64 0, .string ⟨#[]⟩, .int .u64 0, .slice none 0 0, .slice none 0 0, .slice none 0 0, .slice none 0 0, .int .i64 0, .string ⟨#[]⟩, .string ⟨#[]⟩, .int .u64 0, .int .i64 0]) 50)) = w1 at hb0 BP BQ h1 B1 ⊢
  have p0 := BP.at 0 rfl
  have c4 := B1.at 4 rfl
  have f4 := B1.free 4
  have hmo := h.head.lt
  have F2 : Fr [t] w1 (w1.setCell ⟨t, 4, none⟩ (.bool false)) := (Fr.refl _ _).set _ _ (.inl (by simp))
  have B2 := B1.set 4 (.bool false)
  have BP2 := F2.blk BP (by simp; omega)
  have BQ2 := F2.blk BQ (by simp; omega)
  have h2 := h1.off F2 (by simp; exact hdis)
  have p2 := BP2.at 0 rfl
  go_wp2_with fail
  generalize w1.setCell ⟨t, 4, none⟩ (.bool false) = w2 at F2 B2 BP2 BQ2 h2 p2 ⊢
  have B2' : Blk w2 t (rdA (some ⟨o, 0, none⟩) th 2 0 false cell word ver n0 n1 n2 n3 n4 n5 n6 n7) 95 := by simpa [rdA] using B2
  refine (rdNext_2 t th false cell word ver n0 n1 n2 n3 n4 n5 n6 n7 _ h2 B2' t0 t1 l0 l1).mono ?_
  rintro e w3 ⟨rfl, hb3⟩
  have hb4 := (below_push2 (Below.refl _ w2) hb3 (Nat.le_refl _)).alloc hb3.size (.cells (accY 1 (atI A T 0 cell) 0 0) 39)
  have B3 := B2'.below hb4
  have BP3 := BP2.below hb4
  have BQ3 := BQ2.below hb4
  have F3 : Fr [t] w (w3.alloc (.cells (accY 1 (atI A T 0 cell) 0 0) 39)) := ((Fr.of_below hb0).trans F2).trans (Fr.of_below hb4)
  clear p0 c4 f4 F2 B2 B2' BP2 BQ2 p2 h1 B1 BP BQ hb3 hb4 hb0
  generalize hW : w3.alloc (.cells (accY 1 (atI A T 0 cell) 0 0) 39) = w4 at B3 BP3 BQ3 F3
  replace hW := Lib.hid hW
  have p0 := BP3.at 0 rfl
  have c2 := B3.at 2 rfl
  have c3 := B3.at 3 rfl
  have c4 := B3.at 4 rfl
  have c6 := B3.at 6 rfl
  have c7 := B3.at 7 rfl
  have f2 := B3.free 2
  have f3 := B3.free 3
  have f4 := B3.free 4
  have f6 := B3.free 6
  have f7 := B3.free 7
  have r0 := BQ3.at 0 rfl
  have r1 := BQ3.at 1 rfl
  have r2 := BQ3.at 2 rfl
  go_upto_region 12 with (refine wpList_store_row rfl 39 _ _ rfl _ _ rfl rfl 39 _ (Blk.new w3 _ _).h (by kernel_rfl) (by rfl) (by kernel_rfl) ?_; rw [World.setRow_alloc_new, hW.out])
  go_region
  all_goals
    go_wp2_with fail
    refine (rdEnd_no _ _ _).mono ?_
    rintro e w6 ⟨rfl, rfl⟩
    go_wp2_with fail
    go_end0
    have FF : Fr [t] w4 ((w4.setCell ⟨t, 4, none⟩ (.bool true)).setCell ⟨t, 2, none⟩ (.int .i64 3)) := ((Fr.refl _ _).set _ _ (.inl (by simp))).set _ _ (.inl (by simp))
    have BF : Blk ((w4.setCell ⟨t, 4, none⟩ (.bool true)).setCell ⟨t, 2, none⟩ (.int .i64 3)) t (rdA (some ⟨o, 0, none⟩) th 3 0 true cell word ver n0 n1 n2 n3 n4 n5 n6 n7) 95 := by
      simpa [rdA] using (B3.set 4 (.bool true)).set 2 (.int .i64 3)
    exact ⟨rfl, BF.drew, (F3.trans FF).trans (Fr.of_below (Below.refl _ _).drew)⟩
set_option maxRecDepth 100000 in
set_option maxHeartbeats 3200000 in
theorem rdTell_3 {o oc g gb gr A T : Nat} {L : List (Int × Int)} {bs rs : List (List Value)} (t : Nat) (th : Int) (su : Bool) (cell word ver : Int) (n0 n1 n2 n3 n4 n5 n6 n7 : Value) (w : World) (h : MemAt w o oc g gb gr A T L bs rs) (t0 : 0 ≤ th) (t1 : th < T) (l0 : 0 ≤ cell) (l1 : cell < A) (hdis : ¬ o = t ∧ ¬ oc = t ∧ ¬ g = t ∧ ¬ gb = t ∧ ¬ gr = t) (B : Blk w t (rdA (some ⟨o, 0, none⟩) th 3 0 su cell word ver n0 n1 n2 n3 n4 n5 n6 n7) 95) (b1 b2 b3 : Nat) :
    Calls Try.prog 51 #[.pointer (some ⟨t, 0, none⟩), .agg (repB (e0V b1) (e0V b2) (e0V b3))] w fun e w' => e = .returned (.tuple #[]) ∧ Blk w' t (rdA (some ⟨o, 0, none⟩) th 4 4 false cell word ver (.int .i64 0) (.string ⟨#[]⟩) (.string ⟨#[]⟩) (.bool true) (.int .i64 (-1)) (e0V b1) (e0V b2) (e0V b3)) 95 ∧ Fr [t] w w' := by
  have hn1 : ¬ t = w.heap.size := by have := B.lt; omega
  have hn2 : ¬ t = w.heap.size + 1 := by have := B.lt; omega
  have hn3 : ¬ w.heap.size = t := by have := B.lt; omega
  have hn4 : ¬ w.heap.size + 1 = t := by have := B.lt; omega
  have hb0 : Below w.heap.size w ((w.alloc (.cells #[.pointer (some ⟨t, 0, none⟩)] 78)).alloc (.cells (repB (e0V b1) (e0V b2) (e0V b3)) 50)) := by (repeat (first | exact Below.refl _ _ | assumption | refine below_alloc2 ?_ (by first | exact Nat.le_refl _ | omega) _ | refine Below.drew ?_ | refine below_drewN ?_ _ | refine below_push2 ?_ ‹_› (by first | exact Nat.le_refl _ | omega) | refine Below.setCell ?_ (by first | (simp; done) | (simp; omega) | omega) _))
  have BP := (Blk.new w #[.pointer (some ⟨t, 0, none⟩)] 78).alloc (.cells (repB (e0V b1) (e0V b2) (e0V b3)) 50)
  have BQ : Blk ((w.alloc (.cells #[.pointer (some ⟨t, 0, none⟩)] 78)).alloc (.cells (repB (e0V b1) (e0V b2) (e0V b3)) 50)) (w.heap.size + 1) (repB (e0V b1) (e0V b2) (e0V b3)) 50 := by
    have := Blk.new (w.alloc (.cells #[.pointer (some ⟨t, 0, none⟩)] 78)) (repB (e0V b1) (e0V b2) (e0V b3)) 50
    simpa using this
  have hlt := B.lt
  have h1 := h.below hb0
  have B1 := B.below hb0
  go_enter Try.func51, Try.ntmps51
  go_upto_region 1 with (fail)
  generalize ((w.alloc (.cells #[.pointer (some ⟨t, 0, none⟩)] 78)).alloc (.cells (repB (e0V b1) (e0V b2) (e0V b3)) 50)) = w1 at hb0 BP BQ h1 B1 ⊢
  have p0 := BP.at 0 rfl
  have c4 := B1.at 4 rfl
  have f4 := B1.free 4
  have hmo := h.head.lt
  have F2 : Fr [t] w1 (w1.setCell ⟨t, 4, none⟩ (.bool false)) := (Fr.refl _ _).set _ _ (.inl (by simp))
  have B2 := B1.set 4 (.bool false)
  have BP2 := F2.blk BP (by simp; omega)
  have BQ2 := F2.blk BQ (by simp; omega)
  have h2 := h1.off F2 (by simp; exact hdis)
  have p2 := BP2.at 0 rfl
  go_wp2_with fail
  generalize w1.setCell ⟨t, 4, none⟩ (.bool false) = w2 at F2 B2 BP2 BQ2 h2 p2 ⊢
  have B2' : Blk w2 t (rdA (some ⟨o, 0, none⟩) th 3 0 false cell word ver n0 n1 n2 n3 n4 n5 n6 n7) 95 := by simpa [rdA] using B2
  refine (rdNext_3 t th false cell word ver n0 n1 n2 n3 n4 n5 n6 n7 _ h2 B2' t0 t1 l0 l1).mono ?_
  rintro e w3 ⟨rfl, hb3⟩
  have hb4 := (below_push2 (Below.refl _ w2) hb3 (Nat.le_refl _)).alloc hb3.size (.cells (accY 4 0 0 word) 39)
  have B3 := B2'.below hb4
  have BP3 := BP2.below hb4
  have BQ3 := BQ2.below hb4
  have F3 : Fr [t] w (w3.alloc (.cells (accY 4 0 0 word) 39)) := ((Fr.of_below hb0).trans F2).trans (Fr.of_below hb4)
  clear p0 c4 f4 F2 B2 B2' BP2 BQ2 p2 h1 B1 BP BQ hb3 hb4 hb0
  generalize hW : w3.alloc (.cells (accY 4 0 0 word) 39) = w4 at B3 BP3 BQ3 F3
  replace hW := Lib.hid hW
  have p0 := BP3.at 0 rfl
  have c2 := B3.at 2 rfl
  have c3 := B3.at 3 rfl
  have c4 := B3.at 4 rfl
  have c6 := B3.at 6 rfl
  have c7 := B3.at 7 rfl
  have f2 := B3.free 2
  have f3 := B3.free 3
  have f4 := B3.free 4
  have f6 := B3.free 6
  have f7 := B3.free 7
  have r0 := BQ3.at 0 rfl
  have r1 := BQ3.at 1 rfl
  have r2 := BQ3.at 2 rfl
  have e8 := B3.at 8 rfl
  have g8 := B3.free 8
  have e9 := B3.at 9 rfl
  have g9 := B3.free 9
  have e10 := B3.at 10 rfl
  have g10 := B3.free 10
  have e11 := B3.at 11 rfl
  have g11 := B3.free 11
  have e12 := B3.at 12 rfl
  have g12 := B3.free 12
  have e13 := B3.at 13 rfl
  have g13 := B3.free 13
  have e14 := B3.at 14 rfl
  have g14 := B3.free 14
  have e15 := B3.at 15 rfl
  have g15 := B3.free 15
  have r3 := BQ3.at 3 rfl
  have r4 := BQ3.at 4 rfl
  have r5 := BQ3.at 5 rfl
  have r6 := BQ3.at 6 rfl
  have r7 := BQ3.at 7 rfl
  have r8 := BQ3.at 8 rfl
  have r9 := BQ3.at 9 rfl
  have r10 := BQ3.at 10 rfl
  have r11 := BQ3.at 11 rfl
  go_upto_region 16 with (refine wpList_store_row rfl 39 _ _ rfl _ _ rfl rfl 39 _ (Blk.new w3 _ _).h (by kernel_rfl) (by rfl) (by kernel_rfl) ?_; rw [World.setRow_alloc_new, hW.out])
  have BF : Blk ((((((((w4.setCell ⟨t, 8, none⟩ (.int .i64 0)).setCell ⟨t, 9, none⟩ (.string ⟨#[]⟩)).setCell ⟨t, 10, none⟩ (.string ⟨#[]⟩)).setCell ⟨t, 11, none⟩ (.bool true)).setCell ⟨t, 12, none⟩ (.int .i64 (-1))).setCell ⟨t, 13, none⟩ (e0V b1)).setCell ⟨t, 14, none⟩ (e0V b2)).setCell ⟨t, 15, none⟩ (e0V b3)) t (rdA (some ⟨o, 0, none⟩) th 3 0 false cell word ver (.int .i64 0) (.string ⟨#[]⟩) (.string ⟨#[]⟩) (.bool true) (.int .i64 (-1)) (e0V b1) (e0V b2) (e0V b3)) 95 := by simpa [rdA] using ((((((((B3.set 8 (.int .i64 0)).set 9 (.string ⟨#[]⟩)).set 10 (.string ⟨#[]⟩)).set 11 (.bool true)).set 12 (.int .i64 (-1))).set 13 (e0V b1)).set 14 (e0V b2)).set 15 (e0V b3))
  have FF : Fr [t] w4 ((((((((w4.setCell ⟨t, 8, none⟩ (.int .i64 0)).setCell ⟨t, 9, none⟩ (.string ⟨#[]⟩)).setCell ⟨t, 10, none⟩ (.string ⟨#[]⟩)).setCell ⟨t, 11, none⟩ (.bool true)).setCell ⟨t, 12, none⟩ (.int .i64 (-1))).setCell ⟨t, 13, none⟩ (e0V b1)).setCell ⟨t, 14, none⟩ (e0V b2)).setCell ⟨t, 15, none⟩ (e0V b3)) := (((((((((Fr.refl [t] w4).set _ _ (.inl (by simp))).set _ _ (.inl (by simp))).set _ _ (.inl (by simp))).set _ _ (.inl (by simp))).set _ _ (.inl (by simp))).set _ _ (.inl (by simp))).set _ _ (.inl (by simp))).set _ _ (.inl (by simp)))
  generalize ((((((((w4.setCell ⟨t, 8, none⟩ (.int .i64 0)).setCell ⟨t, 9, none⟩ (.string ⟨#[]⟩)).setCell ⟨t, 10, none⟩ (.string ⟨#[]⟩)).setCell ⟨t, 11, none⟩ (.bool true)).setCell ⟨t, 12, none⟩ (.int .i64 (-1))).setCell ⟨t, 13, none⟩ (e0V b1)).setCell ⟨t, 14, none⟩ (e0V b2)).setCell ⟨t, 15, none⟩ (e0V b3)) = w5 at BF FF ⊢
  have BP5 := FF.blk BP3 (by simp; omega)
  have BQ5 := FF.blk BQ3 (by simp; omega)
  go_wp2_with fail
  refine (rdEnd_yes _ t 4 0 _ (BP5.at 0 rfl) (BF.at 3 rfl) (BF.free 3)).mono ?_
  rintro e w6 ⟨rfl, rfl⟩
  have BG := BF.set 3 (.int .i64 4)
  have FG : Fr [t] w5 (w5.setCell ⟨t, 3, none⟩ (.int .i64 4)) := (Fr.refl _ _).set _ _ (.inl (by simp))
  have BP6 := FG.blk BP5 (by simp; omega)
  have BQ6 := FG.blk BQ5 (by simp; omega)
  generalize w5.setCell ⟨t, 3, none⟩ (.int .i64 4) = w6 at BG FG BP6 BQ6 ⊢
  clear p0 c2 c3 c4 c6 c7 f2 f3 f4 f6 f7 r0 r1 r2 e8 e9 e10 e11 e12 e13 e14 e15 g8 g9 g10 g11 g12 g13 g14 g15 r3 r4 r5 r6 r7 r8 r9 r10 r11
  have p0 := BP6.at 0 rfl
  have r0 := BQ6.at 0 rfl
  have r3 := BQ6.at 3 rfl
  have c2 := BG.at 2 rfl
  have f2 := BG.free 2
  go_wp2_with fail
  refine (rdEnd_no _ _ _).mono ?_
  rintro e w7 ⟨rfl, rfl⟩
  go_wp2_with fail
  go_end0
  have FH : Fr [t] w6 (w6.setCell ⟨t, 2, none⟩ (.int .i64 4)) := (Fr.refl _ _).set _ _ (.inl (by simp))
  exact ⟨rfl, by simpa [rdA] using BG.set 2 (.int .i64 4), ((F3.trans FF).trans FG).trans FH⟩
set_option maxHeartbeats 1600000 in
theorem rdState_on {o oc g gb gr A T : Nat} {L : List (Int × Int)} {bs rs : List (List Value)} (t : Nat) (th at_ st : Int) (su : Bool) (cell word ver : Int) (n0 n1 n2 n3 n4 n5 n6 n7 : Value) (w : World) (h : MemAt w o oc g gb gr A T L bs rs) (B : Blk w t (rdA (some ⟨o, 0, none⟩) th at_ st su cell word ver n0 n1 n2 n3 n4 n5 n6 n7) 95) (t0 : 0 ≤ th) (t1 : th < T) (l0 : 0 ≤ cell) (l1 : cell < A) : Calls Try.prog 47 #[.pointer (some ⟨t, 0, none⟩)] w fun e w' => e = .returned (.int .i64 st) ∧ Below w.heap.size w w' := by
  go_enter Try.func47, Try.ntmps47
  go_wp2_with fail
  refine (rdnone_on t th at_ st su cell word ver n0 n1 n2 n3 n4 n5 n6 n7 _ h B t0 t1 l0 l1).mono ?_
  rintro e w1 ⟨rfl, nd, rfl⟩
  have c3 := B.at 3 rfl
  go_wp2_with fail
  go_ret
  exact ⟨rfl, below_drewN (Below.refl _ _) _⟩
end Go.Proofs.Ytpmlbdnhgeeaoaa.MemP
