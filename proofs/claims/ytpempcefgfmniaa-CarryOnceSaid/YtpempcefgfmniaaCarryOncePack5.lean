/-
  carry: a task of a short gate, step by step: contracts.
-/
import Derived.Deep.RegionHeld
import Derived.StillTailTactics
import Derived.Test.YtpempcefgfmniaaCarryOncePack4

namespace Go.Proofs.Ytpempcefgfmniaa.MemP
open Go.RowKit RefP CellP
set_option linter.unusedVariables false
set_option linter.unusedSimpArgs false
/-- a task of a short gate of thread 0, by helper 0, of version 1 -/
abbrev carT (o : Nat) (at_ done : Int) (en : Bool) : Array Value := carA (some ⟨o, 0, none⟩) 0 3 0 0 1 at_ (.slice none 0 0) done false en
set_option maxHeartbeats 800000 in
theorem cnone_on {o oc g gb gr A T : Nat} {L : List (Int × Int)} {bs rs : List (List Value)} (t : Nat) (at_ done : Int) (en : Bool) (w : World) (h : MemAt w o oc g gb gr A T L bs rs) (B : Blk w t (carT o at_ done en) 100) (q : (at_ == 8) = false) :
    Calls Try.prog 64 #[.pointer (some ⟨t, 0, none⟩)] w fun e w' => e = .returned (.bool false) ∧ w = w' := by
  have c0 := B.at 0 rfl
  have c6 := B.at 6 rfl
  have hA := h.a1
  have qA : ((A : Int) == 0) = false := by simp; omega
  clear hA
  go_enter Try.func64, Try.ntmps64
  go_wp2_with fail
  refine (arena_any _ h).mono ?_
  rintro e w1 ⟨rfl, rfl⟩
  go_wp2_with fail
  go_ret
  exact ⟨rfl, rfl⟩
set_option maxHeartbeats 800000 in
theorem cto_yes (t : Nat) (a : Int) (cs : Array Value) (hs : 6 < cs.size) (w : World) (B : Blk w t cs 100) : Calls Try.prog 65 #[.pointer (some ⟨t, 0, none⟩), .int .i64 a, .bool true] w fun e w' => e = .returned (.tuple #[]) ∧ w' = (w.setCell ⟨t, 6, none⟩ (.int .i64 8)).setCell ⟨t, 6, none⟩ (.int .i64 a) := by
  have f6 := B.free 6
  have c6 := B.at 6 (Array.getElem?_eq_getElem hs)
  go_enter Try.func65, Try.ntmps65
  go_wp2_with fail
  go_end0
  exact ⟨rfl, rfl⟩
abbrev CTell (w : World) (o t : Nat) (at_ done : Int) (en : Bool) (e : Ending) (w' : World) : Prop := e = .returned (.tuple #[]) ∧ Blk w' t (carT o at_ done en) 100 ∧ Fr [t] w w'
set_option maxRecDepth 100000 in
set_option maxHeartbeats 3200000 in
theorem cTell_4 {o oc g gb gr A T : Nat} {L : List (Int × Int)} {bs rs : List (List Value)} (t : Nat) (w : World) (h : MemAt w o oc g gb gr A T L bs rs) (ok : Bool) (ver done : Int) (en : Bool) (B : Blk w t (carT o 4 done en) 100) :
    Calls Try.prog 40 #[.pointer (some ⟨t, 0, none⟩), .agg #[.bool ok, .int .u64 0, .int .u64 ver, .int .i64 0, .int .i64 0, .string ⟨#[]⟩, .string ⟨#[]⟩, .bool false, .int .i64 0, .slice none 0 0, .slice none 0 0, .slice none 0 0, .int .i64 0, .int .i64 0, .string ⟨#[]⟩, .int .u64 0, .slice none 0 0, .slice none 0 0, .slice none 0 0, .slice none 0 0, .int .i64 0, .string ⟨#[]⟩, .string ⟨#[]⟩, .int .u64 0, .int .i64 0]] w (CTell w o t 5 ver en) := by
  have hb0 : Below w.heap.size w (w.alloc (.cells #[.bool ok, .int .u64 0, .int .u64 ver, .int .i64 0, .int .i64 0, .string ⟨#[]⟩, .string ⟨#[]⟩, .bool false, .int .i64 0, .slice none 0 0, .slice none 0 0, .slice none 0 0, .int .i64 0, .int .i64 0, .string ⟨#[]⟩, .int .u64 0, .slice none 0 0, .slice none 0 0, .slice none 0 0, .slice none 0 0, .int .i64 0, .string ⟨#[]⟩, .string ⟨#[]⟩, .int .u64 0, .int .i64 0] 50)) := by (repeat (first | exact Below.refl _ _ | assumption | refine below_alloc2 ?_ (by first | exact Nat.le_refl _ | omega) _ | refine Below.drew ?_ | refine below_drewN ?_ _ | refine below_push2 ?_ ‹_› (by first | exact Nat.le_refl _ | omega) | refine Below.setCell ?_ (by first | (simp; done) | (simp; omega) | omega) _))
  have B1 := B.below hb0
  have h1 := h.below hb0
  have BR := Blk.new w #[.bool ok, .int .u64 0, .int .u64 ver, .int .i64 0, .int .i64 0, .string ⟨#[]⟩, .string ⟨#[]⟩, .bool false, .int .i64 0, .slice none 0 0, .slice none 0 0, .slice none 0 0, .int .i64 0, .int .i64 0, .string ⟨#[]⟩, .int .u64 0, .slice none 0 0, .slice none 0 0, .slice none 0 0, .slice none 0 0, .int .i64 0, .string ⟨#[]⟩, .string ⟨#[]⟩, .int .u64 0, .int .i64 0] 50
  have hself := setCell_self (i := 9) (v := .bool false) B1 rfl
  have f9 := B1.free 9
  have c9 := B1.at 9 rfl
  have hlt := B.lt
  go_enter Try.func40, Try.ntmps40
  go_wp2_with fail
  try rw [hself]
  clear hself f9 c9
  generalize w.alloc (.cells #[.bool ok, .int .u64 0, .int .u64 ver, .int .i64 0, .int .i64 0, .string ⟨#[]⟩, .string ⟨#[]⟩, .bool false, .int .i64 0, .slice none 0 0, .slice none 0 0, .slice none 0 0, .int .i64 0, .int .i64 0, .string ⟨#[]⟩, .int .u64 0, .slice none 0 0, .slice none 0 0, .slice none 0 0, .slice none 0 0, .int .i64 0, .string ⟨#[]⟩, .string ⟨#[]⟩, .int .u64 0, .int .i64 0] 50) = w1 at hb0 B1 h1 BR ⊢
  refine (cnone_on t 4 done en _ h1 B1 rfl).mono ?_
  rintro e w2 ⟨rfl, rfl⟩
  have f6 := B1.free 6
  have f8 := B1.free 8
  have f10 := B1.free 10
  have c3 := B1.at 3 rfl
  have c5 := B1.at 5 rfl
  have c6 := B1.at 6 rfl
  have c8 := B1.at 8 rfl
  have c10 := B1.at 10 rfl
  have r0 := BR.at 0 rfl
  have r1 := BR.at 1 rfl
  have r2 := BR.at 2 rfl
  clear BR
  go_wp2_with fail
  go_end0
  exact ⟨rfl, by simpa [carT, carA] using ((B1.set 8 (.int .u64 ver)).set 6 (.int .i64 7)).set 6 (.int .i64 5), (Fr.of_below hb0).trans ((((Fr.refl _ _).set _ _ (.inl (by simp))).set _ _ (.inl (by simp))).set _ _ (.inl (by simp)))⟩
set_option maxRecDepth 100000 in
set_option maxHeartbeats 3200000 in
theorem cTell_5 {o oc g gb gr A T : Nat} {L : List (Int × Int)} {bs rs : List (List Value)} (t : Nat) (w : World) (h : MemAt w o oc g gb gr A T L bs rs) (ok : Bool) (word done : Int) (en : Bool) (B : Blk w t (carT o 5 done en) 100) :
    Calls Try.prog 40 #[.pointer (some ⟨t, 0, none⟩), .agg #[.bool ok, .int .u64 word, .int .u64 1, .int .i64 0, .int .i64 0, .string ⟨#[]⟩, .string ⟨#[]⟩, .bool false, .int .i64 0, .slice none 0 0, .slice none 0 0, .slice none 0 0, .int .i64 0, .int .i64 0, .string ⟨#[]⟩, .int .u64 0, .slice none 0 0, .slice none 0 0, .slice none 0 0, .slice none 0 0, .int .i64 0, .string ⟨#[]⟩, .string ⟨#[]⟩, .int .u64 0, .int .i64 0]] w (CTell w o t 6 done en) := by
  have hb0 : Below w.heap.size w (w.alloc (.cells #[.bool ok, .int .u64 word, .int .u64 1, .int .i64 0, .int .i64 0, .string ⟨#[]⟩, .string ⟨#[]⟩, .bool false, .int .i64 0, .slice none 0 0, .slice none 0 0, .slice none 0 0, .int .i64 0, .int .i64 0, .string ⟨#[]⟩, .int .u64 0, .slice none 0 0, .slice none 0 0, .slice none 0 0, .slice none 0 0, .int .i64 0, .string ⟨#[]⟩, .string ⟨#[]⟩, .int .u64 0, .int .i64 0] 50)) := by (repeat (first | exact Below.refl _ _ | assumption | refine below_alloc2 ?_ (by first | exact Nat.le_refl _ | omega) _ | refine Below.drew ?_ | refine below_drewN ?_ _ | refine below_push2 ?_ ‹_› (by first | exact Nat.le_refl _ | omega) | refine Below.setCell ?_ (by first | (simp; done) | (simp; omega) | omega) _))
  have B1 := B.below hb0
  have h1 := h.below hb0
  have BR := Blk.new w #[.bool ok, .int .u64 word, .int .u64 1, .int .i64 0, .int .i64 0, .string ⟨#[]⟩, .string ⟨#[]⟩, .bool false, .int .i64 0, .slice none 0 0, .slice none 0 0, .slice none 0 0, .int .i64 0, .int .i64 0, .string ⟨#[]⟩, .int .u64 0, .slice none 0 0, .slice none 0 0, .slice none 0 0, .slice none 0 0, .int .i64 0, .string ⟨#[]⟩, .string ⟨#[]⟩, .int .u64 0, .int .i64 0] 50
  have hself := setCell_self (i := 9) (v := .bool false) B1 rfl
  have f9 := B1.free 9
  have c9 := B1.at 9 rfl
  have hlt := B.lt
  go_enter Try.func40, Try.ntmps40
  go_wp2_with fail
  try rw [hself]
  clear hself f9 c9
  generalize w.alloc (.cells #[.bool ok, .int .u64 word, .int .u64 1, .int .i64 0, .int .i64 0, .string ⟨#[]⟩, .string ⟨#[]⟩, .bool false, .int .i64 0, .slice none 0 0, .slice none 0 0, .slice none 0 0, .int .i64 0, .int .i64 0, .string ⟨#[]⟩, .int .u64 0, .slice none 0 0, .slice none 0 0, .slice none 0 0, .slice none 0 0, .int .i64 0, .string ⟨#[]⟩, .string ⟨#[]⟩, .int .u64 0, .int .i64 0] 50) = w1 at hb0 B1 h1 BR ⊢
  refine (cnone_on t 5 done en _ h1 B1 rfl).mono ?_
  rintro e w2 ⟨rfl, rfl⟩
  have f6 := B1.free 6
  have f8 := B1.free 8
  have f10 := B1.free 10
  have c3 := B1.at 3 rfl
  have c5 := B1.at 5 rfl
  have c6 := B1.at 6 rfl
  have c8 := B1.at 8 rfl
  have c10 := B1.at 10 rfl
  have r0 := BR.at 0 rfl
  have r1 := BR.at 1 rfl
  have r2 := BR.at 2 rfl
  clear BR
  go_upto_region 24 with (fail)
  go_still_tail 8, (by kernel_rfl)
  go_wp2_with fail
  refine (cto_yes t 6 (carT o 5 done en) (show 6 < 11 by decide) _ B1.drew).mono ?_
  rintro e w2 ⟨rfl, rfl⟩
  go_wp2_with fail
  go_end0
  exact ⟨rfl, by simpa [carT, carA] using ((B1.set 6 (.int .i64 8)).set 6 (.int .i64 6)).drew, ((Fr.of_below hb0).trans (((Fr.refl _ _).set _ _ (.inl (by simp))).set _ _ (.inl (by simp)))).trans (Fr.of_below (Below.refl _ _).drew)⟩
set_option maxRecDepth 100000 in
set_option maxHeartbeats 3200000 in
theorem cTell_6 {o oc g gb gr A T : Nat} {L : List (Int × Int)} {bs rs : List (List Value)} (t : Nat) (w : World) (h : MemAt w o oc g gb gr A T L bs rs) (ok : Bool) (word ver done : Int) (en : Bool) (B : Blk w t (carT o 6 done en) 100) :
    Calls Try.prog 40 #[.pointer (some ⟨t, 0, none⟩), .agg #[.bool ok, .int .u64 word, .int .u64 ver, .int .i64 0, .int .i64 0, .string ⟨#[]⟩, .string ⟨#[]⟩, .bool false, .int .i64 0, .slice none 0 0, .slice none 0 0, .slice none 0 0, .int .i64 0, .int .i64 0, .string ⟨#[]⟩, .int .u64 0, .slice none 0 0, .slice none 0 0, .slice none 0 0, .slice none 0 0, .int .i64 0, .string ⟨#[]⟩, .string ⟨#[]⟩, .int .u64 0, .int .i64 0]] w (CTell w o t 7 done en) := by
  have hb0 : Below w.heap.size w (w.alloc (.cells #[.bool ok, .int .u64 word, .int .u64 ver, .int .i64 0, .int .i64 0, .string ⟨#[]⟩, .string ⟨#[]⟩, .bool false, .int .i64 0, .slice none 0 0, .slice none 0 0, .slice none 0 0, .int .i64 0, .int .i64 0, .string ⟨#[]⟩, .int .u64 0, .slice none 0 0, .slice none 0 0, .slice none 0 0, .slice none 0 0, .int .i64 0, .string ⟨#[]⟩, .string ⟨#[]⟩, .int .u64 0, .int .i64 0] 50)) := by (repeat (first | exact Below.refl _ _ | assumption | refine below_alloc2 ?_ (by first | exact Nat.le_refl _ | omega) _ | refine Below.drew ?_ | refine below_drewN ?_ _ | refine below_push2 ?_ ‹_› (by first | exact Nat.le_refl _ | omega) | refine Below.setCell ?_ (by first | (simp; done) | (simp; omega) | omega) _))
  have B1 := B.below hb0
  have h1 := h.below hb0
  have BR := Blk.new w #[.bool ok, .int .u64 word, .int .u64 ver, .int .i64 0, .int .i64 0, .string ⟨#[]⟩, .string ⟨#[]⟩, .bool false, .int .i64 0, .slice none 0 0, .slice none 0 0, .slice none 0 0, .int .i64 0, .int .i64 0, .string ⟨#[]⟩, .int .u64 0, .slice none 0 0, .slice none 0 0, .slice none 0 0, .slice none 0 0, .int .i64 0, .string ⟨#[]⟩, .string ⟨#[]⟩, .int .u64 0, .int .i64 0] 50
  have hself := setCell_self (i := 9) (v := .bool false) B1 rfl
  have f9 := B1.free 9
  have c9 := B1.at 9 rfl
  have hlt := B.lt
  go_enter Try.func40, Try.ntmps40
  go_wp2_with fail
  try rw [hself]
  clear hself f9 c9
  generalize w.alloc (.cells #[.bool ok, .int .u64 word, .int .u64 ver, .int .i64 0, .int .i64 0, .string ⟨#[]⟩, .string ⟨#[]⟩, .bool false, .int .i64 0, .slice none 0 0, .slice none 0 0, .slice none 0 0, .int .i64 0, .int .i64 0, .string ⟨#[]⟩, .int .u64 0, .slice none 0 0, .slice none 0 0, .slice none 0 0, .slice none 0 0, .int .i64 0, .string ⟨#[]⟩, .string ⟨#[]⟩, .int .u64 0, .int .i64 0] 50) = w1 at hb0 B1 h1 BR ⊢
  refine (cnone_on t 6 done en _ h1 B1 rfl).mono ?_
  rintro e w2 ⟨rfl, rfl⟩
  have f6 := B1.free 6
  have f8 := B1.free 8
  have f10 := B1.free 10
  have c3 := B1.at 3 rfl
  have c5 := B1.at 5 rfl
  have c6 := B1.at 6 rfl
  have c8 := B1.at 8 rfl
  have c10 := B1.at 10 rfl
  have r0 := BR.at 0 rfl
  have r1 := BR.at 1 rfl
  have r2 := BR.at 2 rfl
  clear BR
  go_wp2_with fail
  go_end0
  exact ⟨rfl, by simpa [carT, carA] using B1.set 6 (.int .i64 7), (Fr.of_below hb0).trans ((Fr.refl _ _).set _ _ (.inl (by simp)))⟩
set_option maxRecDepth 100000 in
set_option maxHeartbeats 3200000 in
theorem cTell_7 {o oc g gb gr A T : Nat} {L : List (Int × Int)} {bs rs : List (List Value)} (t : Nat) (w : World) (h : MemAt w o oc g gb gr A T L bs rs) (ok : Bool) (word ver done : Int) (en : Bool) (B : Blk w t (carT o 7 done en) 100) :
    Calls Try.prog 40 #[.pointer (some ⟨t, 0, none⟩), .agg #[.bool ok, .int .u64 word, .int .u64 ver, .int .i64 0, .int .i64 0, .string ⟨#[]⟩, .string ⟨#[]⟩, .bool false, .int .i64 0, .slice none 0 0, .slice none 0 0, .slice none 0 0, .int .i64 0, .int .i64 0, .string ⟨#[]⟩, .int .u64 0, .slice none 0 0, .slice none 0 0, .slice none 0 0, .slice none 0 0, .int .i64 0, .string ⟨#[]⟩, .string ⟨#[]⟩, .int .u64 0, .int .i64 0]] w (CTell w o t 8 done ok) := by
  have hb0 : Below w.heap.size w (w.alloc (.cells #[.bool ok, .int .u64 word, .int .u64 ver, .int .i64 0, .int .i64 0, .string ⟨#[]⟩, .string ⟨#[]⟩, .bool false, .int .i64 0, .slice none 0 0, .slice none 0 0, .slice none 0 0, .int .i64 0, .int .i64 0, .string ⟨#[]⟩, .int .u64 0, .slice none 0 0, .slice none 0 0, .slice none 0 0, .slice none 0 0, .int .i64 0, .string ⟨#[]⟩, .string ⟨#[]⟩, .int .u64 0, .int .i64 0] 50)) := by (repeat (first | exact Below.refl _ _ | assumption | refine below_alloc2 ?_ (by first | exact Nat.le_refl _ | omega) _ | refine Below.drew ?_ | refine below_drewN ?_ _ | refine below_push2 ?_ ‹_› (by first | exact Nat.le_refl _ | omega) | refine Below.setCell ?_ (by first | (simp; done) | (simp; omega) | omega) _))
  have B1 := B.below hb0
  have h1 := h.below hb0
  have BR := Blk.new w #[.bool ok, .int .u64 word, .int .u64 ver, .int .i64 0, .int .i64 0, .string ⟨#[]⟩, .string ⟨#[]⟩, .bool false, .int .i64 0, .slice none 0 0, .slice none 0 0, .slice none 0 0, .int .i64 0, .int .i64 0, .string ⟨#[]⟩, .int .u64 0, .slice none 0 0, .slice none 0 0, .slice none 0 0, .slice none 0 0, .int .i64 0, .string ⟨#[]⟩, .string ⟨#[]⟩, .int .u64 0, .int .i64 0] 50
  have hself := setCell_self (i := 9) (v := .bool false) B1 rfl
  have f9 := B1.free 9
  have c9 := B1.at 9 rfl
  have hlt := B.lt
  go_enter Try.func40, Try.ntmps40
  go_wp2_with fail
  try rw [hself]
  clear hself f9 c9
  generalize w.alloc (.cells #[.bool ok, .int .u64 word, .int .u64 ver, .int .i64 0, .int .i64 0, .string ⟨#[]⟩, .string ⟨#[]⟩, .bool false, .int .i64 0, .slice none 0 0, .slice none 0 0, .slice none 0 0, .int .i64 0, .int .i64 0, .string ⟨#[]⟩, .int .u64 0, .slice none 0 0, .slice none 0 0, .slice none 0 0, .slice none 0 0, .int .i64 0, .string ⟨#[]⟩, .string ⟨#[]⟩, .int .u64 0, .int .i64 0] 50) = w1 at hb0 B1 h1 BR ⊢
  refine (cnone_on t 7 done en _ h1 B1 rfl).mono ?_
  rintro e w2 ⟨rfl, rfl⟩
  have f6 := B1.free 6
  have f8 := B1.free 8
  have f10 := B1.free 10
  have c3 := B1.at 3 rfl
  have c5 := B1.at 5 rfl
  have c6 := B1.at 6 rfl
  have c8 := B1.at 8 rfl
  have c10 := B1.at 10 rfl
  have r0 := BR.at 0 rfl
  have r1 := BR.at 1 rfl
  have r2 := BR.at 2 rfl
  clear BR
  go_wp2_with fail
  go_end0
  exact ⟨rfl, by simpa [carT, carA] using (B1.set 10 (.bool ok)).set 6 (.int .i64 8), (Fr.of_below hb0).trans (((Fr.refl _ _).set _ _ (.inl (by simp))).set _ _ (.inl (by simp)))⟩
set_option maxRecDepth 100000 in
set_option maxHeartbeats 3200000 in
theorem cNext_5 {o oc g gb gr A T : Nat} {L : List (Int × Int)} {bs rs : List (List Value)} (t : Nat) (w : World) (h : MemAt w o oc g gb gr A T L bs rs) (done : Int) (en : Bool) (B : Blk w t (carT o 5 done en) 100) :
    Calls Try.prog 36 #[.pointer (some ⟨t, 0, none⟩)] w fun e w' => e = .returned (.tuple #[.agg (accY 1 (gateI A T) 0 0), .bool true]) ∧ Below w.heap.size w w' := by
  have hB0 : Below w.heap.size w (w.alloc (.cells (accY 0 0 0 0) 39)) := by (repeat (first | exact Below.refl _ _ | assumption | refine below_alloc2 ?_ (by first | exact Nat.le_refl _ | omega) _ | refine Below.drew ?_ | refine below_drewN ?_ _ | refine below_push2 ?_ ‹_› (by first | exact Nat.le_refl _ | omega) | refine Below.setCell ?_ (by first | (simp; done) | (simp; omega) | omega) _))
  have h1 := h.below hB0
  have B1 := B.below hB0
  go_enter Try.func36, Try.ntmps36
  go_wp2_with fail
  refine (cnone_on t 5 done en _ h1 B1 rfl).mono ?_
  rintro e w1 ⟨rfl, rfl⟩
  have c0 := B1.at 0 rfl
  have c6 := B1.at 6 rfl
  go_wp2_with fail
  refine (gate_any _ h1).mono ?_
  rintro e w2 ⟨rfl, hb2⟩
  have BR := (Blk.new w (accY 0 0 0 0) 39).below hb2
  have hB := below_push2 hB0 hb2 (Nat.le_refl _)
  clear c0 c6 h1 B1 hB0 hb2
  go_wp2_with (refine wpList_store_row rfl 39 _ _ rfl w.heap.size _ rfl rfl 39 _ BR.h (by kernel_rfl) (by rfl) (by kernel_rfl) ?_)
  refine bodyPost_ret (v := .tuple #[.agg (accY 1 (gateI A T) 0 0), .bool true]) (results_cell_tmp rfl _ _ w.heap.size 39 (accY 1 (gateI A T) 0 0) (0, 0) _ (.bool true) rfl rfl (Blk.row BR (accY 1 (gateI A T) 0 0)).h Try.underlying39 rfl (by kernel_rfl)) rfl ⟨rfl, below_setRow hB (by omega) _⟩
set_option maxRecDepth 100000 in
set_option maxHeartbeats 3200000 in
theorem cNext_4 {o oc g gb gr A T : Nat} {L : List (Int × Int)} {bs rs : List (List Value)} (t : Nat) (w : World) (h : MemAt w o oc g gb gr A T L bs rs) (done : Int) (en : Bool) (B : Blk w t (carT o 4 done en) 100) :
    Calls Try.prog 36 #[.pointer (some ⟨t, 0, none⟩)] w fun e w' => e = .returned (.tuple #[.agg (accY 1 (atI A T 3 0) 0 0), .bool true]) ∧ Below w.heap.size w w' := by
  have hB : Below w.heap.size w (w.alloc (.cells (accY 0 0 0 0) 39)) := by (repeat (first | exact Below.refl _ _ | assumption | refine below_alloc2 ?_ (by first | exact Nat.le_refl _ | omega) _ | refine Below.drew ?_ | refine below_drewN ?_ _ | refine below_push2 ?_ ‹_› (by first | exact Nat.le_refl _ | omega) | refine Below.setCell ?_ (by first | (simp; done) | (simp; omega) | omega) _))
  have h1 := h.below hB
  have B1 := B.below hB
  have hlt := B.lt
  have hne : ¬ w.heap.size = t := by omega
  have hne' : ¬ t = w.heap.size := by omega
  go_enter Try.func36, Try.ntmps36
  go_wp2_with fail
  refine (cnone_on t 4 done en _ h1 B1 rfl).mono ?_
  rintro e w1 ⟨rfl, rfl⟩
  have c0 := B1.at 0 rfl
  have c3 := B1.at 3 rfl
  have c6 := B1.at 6 rfl
  have hM := h1.below (Below.refl _ _).drew
  go_upto_region 12 with (fail)
  refine wp_region_held_drew (S := fun w' => w'.cell? ⟨t, 0, none⟩ = some (.pointer (some ⟨o, 0, none⟩)) ∧ w'.cell? ⟨t, 3, none⟩ = some (.int .i64 0)) (by kernel_rfl) ?_ (fun hHeld => ?_)
  · exact ⟨c0, c3⟩
  refine wpAnyH_take (i := 0) (oi := ⟨_, _, _, _, _, _⟩) (v := ?_) rfl (by kernel_rfl) (by kernel_rfl) (by kernel_rfl) (fun _ _ _ h => h) (Or.inl ⟨by rfl, ?_⟩) (by assumption) ?_
  rotate_left
  · intro wS hSw
    try dsimp only at hSw
    go_simp
    try with_reducible rfl
  try simp only [Act.put, List.setIfInBounds_toArray, List.set_cons_zero, List.set_cons_succ]
  refine wpAnyH_take (i := 1) (oi := ⟨_, _, _, _, _, _⟩) (v := ?_) rfl (by kernel_rfl) (by kernel_rfl) (by kernel_rfl) (fun _ _ _ h => h) (Or.inl ⟨by rfl, ?_⟩) (by assumption) ?_
  rotate_left
  · intro wS hSw
    try dsimp only at hSw
    go_simp
    try with_reducible rfl
  try simp only [Act.put, List.setIfInBounds_toArray, List.set_cons_zero, List.set_cons_succ]
  refine wpAnyH_take (i := 2) (oi := ⟨_, _, _, _, _, _⟩) (v := ?_) rfl (by kernel_rfl) (by kernel_rfl) (by kernel_rfl) (fun _ _ _ h => h) (Or.inl ⟨by rfl, ?_⟩) (by assumption) ?_
  rotate_left
  · intro wS hSw
    try dsimp only at hSw
    go_simp
    try with_reducible rfl
  try simp only [Act.put, List.setIfInBounds_toArray, List.set_cons_zero, List.set_cons_succ]
  refine wpAnyH_take (i := 3) (oi := ⟨_, _, _, _, _, _⟩) (v := ?_) rfl (by kernel_rfl) (by kernel_rfl) (by kernel_rfl) (fun _ _ _ h => h) (Or.inl ⟨by rfl, ?_⟩) (by assumption) ?_
  rotate_left
  · intro wS hSw
    try dsimp only at hSw
    go_simp
    try with_reducible rfl
  try simp only [Act.put, List.setIfInBounds_toArray, List.set_cons_zero, List.set_cons_succ]
  refine wpAnyH_take (i := 4) (oi := ⟨_, _, _, _, _, _⟩) (v := ?_) rfl (by kernel_rfl) (by kernel_rfl) (by kernel_rfl) (fun _ _ _ h => h) (Or.inl ⟨by rfl, ?_⟩) (by assumption) ?_
  rotate_left
  · intro wS hSw
    try dsimp only at hSw
    go_simp
    try with_reducible rfl
  try simp only [Act.put, List.setIfInBounds_toArray, List.set_cons_zero, List.set_cons_succ]
  refine wpAnyH_take (i := 5) (oi := ⟨_, _, _, _, _, _⟩) (v := ?_) rfl (by kernel_rfl) (by kernel_rfl) (by kernel_rfl) (fun _ _ _ h => h) (Or.inl ⟨by rfl, ?_⟩) (by assumption) ?_
  rotate_left
  · intro wS hSw
    try dsimp only at hSw
    go_simp
    try with_reducible rfl
  try simp only [Act.put, List.setIfInBounds_toArray, List.set_cons_zero, List.set_cons_succ]
  refine wpAnyH_take (i := 6) (oi := ⟨_, _, _, _, _, _⟩) (v := ?_) rfl (by kernel_rfl) (by kernel_rfl) (by kernel_rfl) (fun _ _ _ h => h) (Or.inl ⟨by rfl, ?_⟩) (by assumption) ?_
  rotate_left
  · intro wS hSw
    try dsimp only at hSw
    go_simp
    try with_reducible rfl
  try simp only [Act.put, List.setIfInBounds_toArray, List.set_cons_zero, List.set_cons_succ]
  refine wpAnyH_take (i := 7) (oi := ⟨_, _, _, _, _, _⟩) (v := ?_) rfl (by kernel_rfl) (by kernel_rfl) (by kernel_rfl) (fun _ _ _ h => h) (Or.inl ⟨by rfl, ?_⟩) (by assumption) ?_
  rotate_left
  · intro wS hSw
    try dsimp only at hSw
    go_simp
    try with_reducible rfl
  try simp only [Act.put, List.setIfInBounds_toArray, List.set_cons_zero, List.set_cons_succ]
  refine wpAnyH_take (i := 8) (oi := ⟨_, _, _, _, _, _⟩) (v := ?_) rfl (by kernel_rfl) (by kernel_rfl) (by kernel_rfl) (fun _ _ _ h => h) (Or.inl ⟨by rfl, ?_⟩) (by assumption) ?_
  rotate_left
  · intro wS hSw
    try dsimp only at hSw
    go_simp
    try with_reducible rfl
  try simp only [Act.put, List.setIfInBounds_toArray, List.set_cons_zero, List.set_cons_succ]
  refine wpAnyH_ready (rs := [9]) (by kernel_rfl) (by simp) ?_
  refine AllReadyH.cons rfl (fun K hK => ?_) AllReadyH.nil
  go_simp
  refine (done_any 0 _ hM (by omega) (by omega)).mono ?_
  rintro e w2 ⟨rfl, hb2⟩
  have hB2 := below_push2 hB.drew hb2 (Nat.le_refl _)
  have B2 := (B1.drew).below hb2
  have BR := ((Blk.new w (accY 0 0 0 0) 39).drew).below hb2
  refine hK.out _ _ ⟨B2.at 0 rfl, B2.at 3 rfl⟩ (fun hHeld => ?_)
  clear hK K hb2
  refine wpAnyH_take (i := 10) (oi := ⟨_, _, _, _, _, _⟩) (v := ?_) rfl (by kernel_rfl) (by kernel_rfl) (by kernel_rfl) (fun _ _ _ h => h) (Or.inl ⟨by rfl, ?_⟩) (by assumption) ?_
  rotate_left
  · intro wS hSw
    try dsimp only at hSw
    go_simp
    try with_reducible rfl
  try simp only [Act.put, List.setIfInBounds_toArray, List.set_cons_zero, List.set_cons_succ]
  have B3 := (Fr.row (S := [w.heap.size]) (w := w2) w.heap.size (accY 1 (atI A T 3 0) 0 0) (by simp)).blk B2 (by simpa using hne')
  refine wpAnyH_ready (rs := [11]) (by kernel_rfl) (by simp) ?_
  refine AllReadyH.cons rfl (fun K hK => ?_) AllReadyH.nil
  rw [if_pos (by rfl)]
  refine wp_store_row 39 _ _ rfl w.heap.size _ rfl rfl 39 _ BR.h (by kernel_rfl) (by rfl) (by kernel_rfl) ?_
  refine hK.out _ _ ?_ (fun hHeld => ?_)
  · exact ⟨B3.at 0 rfl, B3.at 3 rfl⟩
  clear hK K
  refine wpAnyH_take (i := 12) (oi := ⟨_, _, _, _, _, _⟩) (v := ?_) rfl (by kernel_rfl) (by kernel_rfl) (by kernel_rfl) (fun _ _ _ h => h) (Or.inl ⟨by rfl, ?_⟩) (by assumption) ?_
  rotate_left
  · intro wS hSw
    try dsimp only at hSw
    go_simp
    try with_reducible rfl
  try simp only [Act.put, List.setIfInBounds_toArray, List.set_cons_zero, List.set_cons_succ]
  refine wpAnyH_done (by kernel_rfl) ?_ _
  go_wp2_with fail
  refine bodyPost_ret (v := .tuple #[.agg (accY 1 (atI A T 3 0) 0 0), .bool true]) (results_cell_tmp rfl _ _ w.heap.size 39 (accY 1 (atI A T 3 0) 0 0) (0, 0) _ (.bool true) rfl rfl (Blk.row BR (accY 1 (atI A T 3 0) 0 0)).h Try.underlying39 rfl (by kernel_rfl)) rfl ⟨rfl, below_setRow hB2 (by omega) _⟩
set_option maxRecDepth 100000 in
set_option maxHeartbeats 3200000 in
theorem cNext_6 {o oc g gb gr A T : Nat} {L : List (Int × Int)} {bs rs : List (List Value)} (t : Nat) (w : World) (h : MemAt w o oc g gb gr A T L bs rs) (done : Int) (en : Bool) (B : Blk w t (carT o 6 done en) 100) :
    Calls Try.prog 36 #[.pointer (some ⟨t, 0, none⟩)] w fun e w' => e = .returned (.tuple #[.agg (accY 3 (atI A T 3 0) done 1), .bool true]) ∧ Below w.heap.size w w' := by
  have hB : Below w.heap.size w (w.alloc (.cells (accY 0 0 0 0) 39)) := by (repeat (first | exact Below.refl _ _ | assumption | refine below_alloc2 ?_ (by first | exact Nat.le_refl _ | omega) _ | refine Below.drew ?_ | refine below_drewN ?_ _ | refine below_push2 ?_ ‹_› (by first | exact Nat.le_refl _ | omega) | refine Below.setCell ?_ (by first | (simp; done) | (simp; omega) | omega) _))
  have h1 := h.below hB
  have B1 := B.below hB
  have hlt := B.lt
  have hne : ¬ w.heap.size = t := by omega
  have hne' : ¬ t = w.heap.size := by omega
  go_enter Try.func36, Try.ntmps36
  go_wp2_with fail
  refine (cnone_on t 6 done en _ h1 B1 rfl).mono ?_
  rintro e w1 ⟨rfl, rfl⟩
  have c0 := B1.at 0 rfl
  have c3 := B1.at 3 rfl
  have c4 := B1.at 4 rfl
  have c5 := B1.at 5 rfl
  have c6 := B1.at 6 rfl
  have c8 := B1.at 8 rfl
  have hM := h1.below (Below.refl _ _).drew
  go_upto_region 14 with (fail)
  refine wp_region_held_drew (S := fun w' => w'.cell? ⟨t, 0, none⟩ = some (.pointer (some ⟨o, 0, none⟩)) ∧ w'.cell? ⟨t, 3, none⟩ = some (.int .i64 0) ∧ w'.cell? ⟨t, 8, none⟩ = some (.int .u64 done) ∧ w'.cell? ⟨t, 4, none⟩ = some (.int .u64 0)) (by kernel_rfl) ?_ (fun hHeld => ?_)
  · exact ⟨c0, c3, c8, c4⟩
  refine wpAnyH_take (i := 0) (oi := ⟨_, _, _, _, _, _⟩) (v := ?_) rfl (by kernel_rfl) (by kernel_rfl) (by kernel_rfl) (fun _ _ _ h => h) (Or.inl ⟨by rfl, ?_⟩) (by assumption) ?_
  rotate_left
  · intro wS hSw
    try dsimp only at hSw
    go_simp
    try with_reducible rfl
  try simp only [Act.put, List.setIfInBounds_toArray, List.set_cons_zero, List.set_cons_succ]
  refine wpAnyH_take (i := 1) (oi := ⟨_, _, _, _, _, _⟩) (v := ?_) rfl (by kernel_rfl) (by kernel_rfl) (by kernel_rfl) (fun _ _ _ h => h) (Or.inl ⟨by rfl, ?_⟩) (by assumption) ?_
  rotate_left
  · intro wS hSw
    try dsimp only at hSw
    go_simp
    try with_reducible rfl
  try simp only [Act.put, List.setIfInBounds_toArray, List.set_cons_zero, List.set_cons_succ]
  refine wpAnyH_take (i := 2) (oi := ⟨_, _, _, _, _, _⟩) (v := ?_) rfl (by kernel_rfl) (by kernel_rfl) (by kernel_rfl) (fun _ _ _ h => h) (Or.inl ⟨by rfl, ?_⟩) (by assumption) ?_
  rotate_left
  · intro wS hSw
    try dsimp only at hSw
    go_simp
    try with_reducible rfl
  try simp only [Act.put, List.setIfInBounds_toArray, List.set_cons_zero, List.set_cons_succ]
  refine wpAnyH_take (i := 3) (oi := ⟨_, _, _, _, _, _⟩) (v := ?_) rfl (by kernel_rfl) (by kernel_rfl) (by kernel_rfl) (fun _ _ _ h => h) (Or.inl ⟨by rfl, ?_⟩) (by assumption) ?_
  rotate_left
  · intro wS hSw
    try dsimp only at hSw
    go_simp
    try with_reducible rfl
  try simp only [Act.put, List.setIfInBounds_toArray, List.set_cons_zero, List.set_cons_succ]
  refine wpAnyH_take (i := 4) (oi := ⟨_, _, _, _, _, _⟩) (v := ?_) rfl (by kernel_rfl) (by kernel_rfl) (by kernel_rfl) (fun _ _ _ h => h) (Or.inl ⟨by rfl, ?_⟩) (by assumption) ?_
  rotate_left
  · intro wS hSw
    try dsimp only at hSw
    go_simp
    try with_reducible rfl
  try simp only [Act.put, List.setIfInBounds_toArray, List.set_cons_zero, List.set_cons_succ]
  refine wpAnyH_take (i := 5) (oi := ⟨_, _, _, _, _, _⟩) (v := ?_) rfl (by kernel_rfl) (by kernel_rfl) (by kernel_rfl) (fun _ _ _ h => h) (Or.inl ⟨by rfl, ?_⟩) (by assumption) ?_
  rotate_left
  · intro wS hSw
    try dsimp only at hSw
    go_simp
    try with_reducible rfl
  try simp only [Act.put, List.setIfInBounds_toArray, List.set_cons_zero, List.set_cons_succ]
  refine wpAnyH_take (i := 6) (oi := ⟨_, _, _, _, _, _⟩) (v := ?_) rfl (by kernel_rfl) (by kernel_rfl) (by kernel_rfl) (fun _ _ _ h => h) (Or.inl ⟨by rfl, ?_⟩) (by assumption) ?_
  rotate_left
  · intro wS hSw
    try dsimp only at hSw
    go_simp
    try with_reducible rfl
  try simp only [Act.put, List.setIfInBounds_toArray, List.set_cons_zero, List.set_cons_succ]
  refine wpAnyH_take (i := 7) (oi := ⟨_, _, _, _, _, _⟩) (v := ?_) rfl (by kernel_rfl) (by kernel_rfl) (by kernel_rfl) (fun _ _ _ h => h) (Or.inl ⟨by rfl, ?_⟩) (by assumption) ?_
  rotate_left
  · intro wS hSw
    try dsimp only at hSw
    go_simp
    try with_reducible rfl
  try simp only [Act.put, List.setIfInBounds_toArray, List.set_cons_zero, List.set_cons_succ]
  refine wpAnyH_take (i := 8) (oi := ⟨_, _, _, _, _, _⟩) (v := ?_) rfl (by kernel_rfl) (by kernel_rfl) (by kernel_rfl) (fun _ _ _ h => h) (Or.inl ⟨by rfl, ?_⟩) (by assumption) ?_
  rotate_left
  · intro wS hSw
    try dsimp only at hSw
    go_simp
    try with_reducible rfl
  try simp only [Act.put, List.setIfInBounds_toArray, List.set_cons_zero, List.set_cons_succ]
  refine wpAnyH_take (i := 10) (oi := ⟨_, _, _, _, _, _⟩) (v := ?_) rfl (by kernel_rfl) (by kernel_rfl) (by kernel_rfl) (fun _ _ _ h => h) (Or.inl ⟨by rfl, ?_⟩) (by assumption) ?_
  rotate_left
  · intro wS hSw
    try dsimp only at hSw
    go_simp
    try with_reducible rfl
  try simp only [Act.put, List.setIfInBounds_toArray, List.set_cons_zero, List.set_cons_succ]
  refine wpAnyH_take (i := 11) (oi := ⟨_, _, _, _, _, _⟩) (v := ?_) rfl (by kernel_rfl) (by kernel_rfl) (by kernel_rfl) (fun _ _ _ h => h) (Or.inl ⟨by rfl, ?_⟩) (by assumption) ?_
  rotate_left
  · intro wS hSw
    try dsimp only at hSw
    go_simp
    try with_reducible rfl
  try simp only [Act.put, List.setIfInBounds_toArray, List.set_cons_zero, List.set_cons_succ]
  refine wpAnyH_take (i := 12) (oi := ⟨_, _, _, _, _, _⟩) (v := ?_) rfl (by kernel_rfl) (by kernel_rfl) (by kernel_rfl) (fun _ _ _ h => h) (Or.inl ⟨by rfl, ?_⟩) (by assumption) ?_
  rotate_left
  · intro wS hSw
    try dsimp only at hSw
    go_simp
    try with_reducible rfl
  try simp only [Act.put, List.setIfInBounds_toArray, List.set_cons_zero, List.set_cons_succ]
  refine wpAnyH_take (i := 13) (oi := ⟨_, _, _, _, _, _⟩) (v := ?_) rfl (by kernel_rfl) (by kernel_rfl) (by kernel_rfl) (fun _ _ _ h => h) (Or.inl ⟨by rfl, ?_⟩) (by assumption) ?_
  rotate_left
  · intro wS hSw
    try dsimp only at hSw
    go_simp
    try with_reducible rfl
  try simp only [Act.put, List.setIfInBounds_toArray, List.set_cons_zero, List.set_cons_succ]
  refine wpAnyH_take (i := 14) (oi := ⟨_, _, _, _, _, _⟩) (v := ?_) rfl (by kernel_rfl) (by kernel_rfl) (by kernel_rfl) (fun _ _ _ h => h) (Or.inl ⟨by rfl, ?_⟩) (by assumption) ?_
  rotate_left
  · intro wS hSw
    try dsimp only at hSw
    go_simp
    try with_reducible rfl
  try simp only [Act.put, List.setIfInBounds_toArray, List.set_cons_zero, List.set_cons_succ]
  refine wpAnyH_take (i := 15) (oi := ⟨_, _, _, _, _, _⟩) (v := ?_) rfl (by kernel_rfl) (by kernel_rfl) (by kernel_rfl) (fun _ _ _ h => h) (Or.inl ⟨by rfl, ?_⟩) (by assumption) ?_
  rotate_left
  · intro wS hSw
    try dsimp only at hSw
    go_simp
    try with_reducible rfl
  try simp only [Act.put, List.setIfInBounds_toArray, List.set_cons_zero, List.set_cons_succ]
  refine wpAnyH_take (i := 16) (oi := ⟨_, _, _, _, _, _⟩) (v := ?_) rfl (by kernel_rfl) (by kernel_rfl) (by kernel_rfl) (fun _ _ _ h => h) (Or.inl ⟨by rfl, ?_⟩) (by assumption) ?_
  rotate_left
  · intro wS hSw
    try dsimp only at hSw
    go_simp
    try with_reducible rfl
  try simp only [Act.put, List.setIfInBounds_toArray, List.set_cons_zero, List.set_cons_succ]
  refine wpAnyH_take (i := 17) (oi := ⟨_, _, _, _, _, _⟩) (v := ?_) rfl (by kernel_rfl) (by kernel_rfl) (by kernel_rfl) (fun _ _ _ h => h) (Or.inl ⟨by rfl, ?_⟩) (by assumption) ?_
  rotate_left
  · intro wS hSw
    try dsimp only at hSw
    go_simp
    try with_reducible rfl
  try simp only [Act.put, List.setIfInBounds_toArray, List.set_cons_zero, List.set_cons_succ]
  refine wpAnyH_take (i := 18) (oi := ⟨_, _, _, _, _, _⟩) (v := ?_) rfl (by kernel_rfl) (by kernel_rfl) (by kernel_rfl) (fun _ _ _ h => h) (Or.inl ⟨by rfl, ?_⟩) (by assumption) ?_
  rotate_left
  · intro wS hSw
    try dsimp only at hSw
    go_simp
    try with_reducible rfl
  try simp only [Act.put, List.setIfInBounds_toArray, List.set_cons_zero, List.set_cons_succ]
  refine wpAnyH_take (i := 19) (oi := ⟨_, _, _, _, _, _⟩) (v := ?_) rfl (by kernel_rfl) (by kernel_rfl) (by kernel_rfl) (fun _ _ _ h => h) (Or.inl ⟨by rfl, ?_⟩) (by assumption) ?_
  rotate_left
  · intro wS hSw
    try dsimp only at hSw
    go_simp
    try with_reducible rfl
  try simp only [Act.put, List.setIfInBounds_toArray, List.set_cons_zero, List.set_cons_succ]
  refine wpAnyH_ready (rs := [9]) (by kernel_rfl) (by simp) ?_
  refine AllReadyH.cons rfl (fun K hK => ?_) AllReadyH.nil
  go_simp
  refine (done_any 0 _ hM (by omega) (by omega)).mono ?_
  rintro e w2 ⟨rfl, hb2⟩
  have hB2 := below_push2 hB.drew hb2 (Nat.le_refl _)
  have B2 := (B1.drew).below hb2
  have BR := ((Blk.new w (accY 0 0 0 0) 39).drew).below hb2
  refine hK.out _ _ ⟨B2.at 0 rfl, B2.at 3 rfl, B2.at 8 rfl, B2.at 4 rfl⟩ (fun hHeld => ?_)
  clear hK K hb2
  refine wpAnyH_take (i := 20) (oi := ⟨_, _, _, _, _, _⟩) (v := ?_) rfl (by kernel_rfl) (by kernel_rfl) (by kernel_rfl) (fun _ _ _ h => h) (Or.inl ⟨by rfl, ?_⟩) (by assumption) ?_
  rotate_left
  · intro wS hSw
    try dsimp only at hSw
    go_simp
    try with_reducible rfl
  try simp only [Act.put, List.setIfInBounds_toArray, List.set_cons_zero, List.set_cons_succ]
  have B3 := (Fr.row (S := [w.heap.size]) (w := w2) w.heap.size (accY 3 (atI A T 3 0) done 1) (by simp)).blk B2 (by simpa using hne')
  refine wpAnyH_ready (rs := [21]) (by kernel_rfl) (by simp) ?_
  refine AllReadyH.cons rfl (fun K hK => ?_) AllReadyH.nil
  rw [if_pos (by rfl)]
  refine wp_store_row 39 _ _ rfl w.heap.size _ rfl rfl 39 _ BR.h (by kernel_rfl) (by rfl) (by kernel_rfl) ?_
  refine hK.out _ _ ?_ (fun hHeld => ?_)
  · exact ⟨B3.at 0 rfl, B3.at 3 rfl, B3.at 8 rfl, B3.at 4 rfl⟩
  clear hK K
  refine wpAnyH_take (i := 22) (oi := ⟨_, _, _, _, _, _⟩) (v := ?_) rfl (by kernel_rfl) (by kernel_rfl) (by kernel_rfl) (fun _ _ _ h => h) (Or.inl ⟨by rfl, ?_⟩) (by assumption) ?_
  rotate_left
  · intro wS hSw
    try dsimp only at hSw
    go_simp
    try with_reducible rfl
  try simp only [Act.put, List.setIfInBounds_toArray, List.set_cons_zero, List.set_cons_succ]
  refine wpAnyH_done (by kernel_rfl) ?_ _
  go_wp2_with fail
  refine bodyPost_ret (v := .tuple #[.agg (accY 3 (atI A T 3 0) done 1), .bool true]) (results_cell_tmp rfl _ _ w.heap.size 39 (accY 3 (atI A T 3 0) done 1) (0, 0) _ (.bool true) rfl rfl (Blk.row BR (accY 3 (atI A T 3 0) done 1)).h Try.underlying39 rfl (by kernel_rfl)) rfl ⟨rfl, below_setRow hB2 (by omega) _⟩
set_option maxRecDepth 100000 in
set_option maxHeartbeats 3200000 in
theorem cNext_7 {o oc g gb gr A T : Nat} {L : List (Int × Int)} {bs rs : List (List Value)} (t : Nat) (w : World) (h : MemAt w o oc g gb gr A T L bs rs) (done : Int) (en : Bool) (B : Blk w t (carT o 7 done en) 100) :
    Calls Try.prog 36 #[.pointer (some ⟨t, 0, none⟩)] w fun e w' => e = .returned (.tuple #[.agg (accY 3 (gateI A T) 1 0), .bool true]) ∧ Below w.heap.size w w' := by
  have hB : Below w.heap.size w (w.alloc (.cells (accY 0 0 0 0) 39)) := by (repeat (first | exact Below.refl _ _ | assumption | refine below_alloc2 ?_ (by first | exact Nat.le_refl _ | omega) _ | refine Below.drew ?_ | refine below_drewN ?_ _ | refine below_push2 ?_ ‹_› (by first | exact Nat.le_refl _ | omega) | refine Below.setCell ?_ (by first | (simp; done) | (simp; omega) | omega) _))
  have h1 := h.below hB
  have B1 := B.below hB
  have hlt := B.lt
  have hne : ¬ w.heap.size = t := by omega
  have hne' : ¬ t = w.heap.size := by omega
  go_enter Try.func36, Try.ntmps36
  go_wp2_with fail
  refine (cnone_on t 7 done en _ h1 B1 rfl).mono ?_
  rintro e w1 ⟨rfl, rfl⟩
  have c0 := B1.at 0 rfl
  have c3 := B1.at 3 rfl
  have c4 := B1.at 4 rfl
  have c5 := B1.at 5 rfl
  have c6 := B1.at 6 rfl
  have c8 := B1.at 8 rfl
  have hM := h1.below (Below.refl _ _).drew
  go_upto_region 16 with (fail)
  refine wp_region_held_drew (S := fun w' => w'.cell? ⟨t, 0, none⟩ = some (.pointer (some ⟨o, 0, none⟩)) ∧ w'.cell? ⟨t, 5, none⟩ = some (.int .u64 1)) (by kernel_rfl) ?_ (fun hHeld => ?_)
  · exact ⟨c0, c5⟩
  refine wpAnyH_take (i := 0) (oi := ⟨_, _, _, _, _, _⟩) (v := ?_) rfl (by kernel_rfl) (by kernel_rfl) (by kernel_rfl) (fun _ _ _ h => h) (Or.inl ⟨by rfl, ?_⟩) (by assumption) ?_
  rotate_left
  · intro wS hSw
    try dsimp only at hSw
    go_simp
    try with_reducible rfl
  try simp only [Act.put, List.setIfInBounds_toArray, List.set_cons_zero, List.set_cons_succ]
  refine wpAnyH_take (i := 1) (oi := ⟨_, _, _, _, _, _⟩) (v := ?_) rfl (by kernel_rfl) (by kernel_rfl) (by kernel_rfl) (fun _ _ _ h => h) (Or.inl ⟨by rfl, ?_⟩) (by assumption) ?_
  rotate_left
  · intro wS hSw
    try dsimp only at hSw
    go_simp
    try with_reducible rfl
  try simp only [Act.put, List.setIfInBounds_toArray, List.set_cons_zero, List.set_cons_succ]
  refine wpAnyH_take (i := 2) (oi := ⟨_, _, _, _, _, _⟩) (v := ?_) rfl (by kernel_rfl) (by kernel_rfl) (by kernel_rfl) (fun _ _ _ h => h) (Or.inl ⟨by rfl, ?_⟩) (by assumption) ?_
  rotate_left
  · intro wS hSw
    try dsimp only at hSw
    go_simp
    try with_reducible rfl
  try simp only [Act.put, List.setIfInBounds_toArray, List.set_cons_zero, List.set_cons_succ]
  refine wpAnyH_take (i := 3) (oi := ⟨_, _, _, _, _, _⟩) (v := ?_) rfl (by kernel_rfl) (by kernel_rfl) (by kernel_rfl) (fun _ _ _ h => h) (Or.inl ⟨by rfl, ?_⟩) (by assumption) ?_
  rotate_left
  · intro wS hSw
    try dsimp only at hSw
    go_simp
    try with_reducible rfl
  try simp only [Act.put, List.setIfInBounds_toArray, List.set_cons_zero, List.set_cons_succ]
  refine wpAnyH_take (i := 5) (oi := ⟨_, _, _, _, _, _⟩) (v := ?_) rfl (by kernel_rfl) (by kernel_rfl) (by kernel_rfl) (fun _ _ _ h => h) (Or.inl ⟨by rfl, ?_⟩) (by assumption) ?_
  rotate_left
  · intro wS hSw
    try dsimp only at hSw
    go_simp
    try with_reducible rfl
  try simp only [Act.put, List.setIfInBounds_toArray, List.set_cons_zero, List.set_cons_succ]
  refine wpAnyH_take (i := 6) (oi := ⟨_, _, _, _, _, _⟩) (v := ?_) rfl (by kernel_rfl) (by kernel_rfl) (by kernel_rfl) (fun _ _ _ h => h) (Or.inl ⟨by rfl, ?_⟩) (by assumption) ?_
  rotate_left
  · intro wS hSw
    try dsimp only at hSw
    go_simp
    try with_reducible rfl
  try simp only [Act.put, List.setIfInBounds_toArray, List.set_cons_zero, List.set_cons_succ]
  refine wpAnyH_take (i := 7) (oi := ⟨_, _, _, _, _, _⟩) (v := ?_) rfl (by kernel_rfl) (by kernel_rfl) (by kernel_rfl) (fun _ _ _ h => h) (Or.inl ⟨by rfl, ?_⟩) (by assumption) ?_
  rotate_left
  · intro wS hSw
    try dsimp only at hSw
    go_simp
    try with_reducible rfl
  try simp only [Act.put, List.setIfInBounds_toArray, List.set_cons_zero, List.set_cons_succ]
  refine wpAnyH_take (i := 8) (oi := ⟨_, _, _, _, _, _⟩) (v := ?_) rfl (by kernel_rfl) (by kernel_rfl) (by kernel_rfl) (fun _ _ _ h => h) (Or.inl ⟨by rfl, ?_⟩) (by assumption) ?_
  rotate_left
  · intro wS hSw
    try dsimp only at hSw
    go_simp
    try with_reducible rfl
  try simp only [Act.put, List.setIfInBounds_toArray, List.set_cons_zero, List.set_cons_succ]
  refine wpAnyH_ready (rs := [4]) (by kernel_rfl) (by simp) ?_
  refine AllReadyH.cons rfl (fun K hK => ?_) AllReadyH.nil
  go_simp
  refine (gate_any _ hM).mono ?_
  rintro e w2 ⟨rfl, hb2⟩
  have hB2 := below_push2 hB.drew hb2 (Nat.le_refl _)
  have B2 := (B1.drew).below hb2
  have BR := ((Blk.new w (accY 0 0 0 0) 39).drew).below hb2
  refine hK.out _ _ ⟨B2.at 0 rfl, B2.at 5 rfl⟩ (fun hHeld => ?_)
  clear hK K hb2
  refine wpAnyH_take (i := 9) (oi := ⟨_, _, _, _, _, _⟩) (v := ?_) rfl (by kernel_rfl) (by kernel_rfl) (by kernel_rfl) (fun _ _ _ h => h) (Or.inl ⟨by rfl, ?_⟩) (by assumption) ?_
  rotate_left
  · intro wS hSw
    try dsimp only at hSw
    go_simp
    try with_reducible rfl
  try simp only [Act.put, List.setIfInBounds_toArray, List.set_cons_zero, List.set_cons_succ]
  have B3 := (Fr.row (S := [w.heap.size]) (w := w2) w.heap.size (accY 3 (gateI A T) 1 0) (by simp)).blk B2 (by simpa using hne')
  refine wpAnyH_ready (rs := [10]) (by kernel_rfl) (by simp) ?_
  refine AllReadyH.cons rfl (fun K hK => ?_) AllReadyH.nil
  rw [if_pos (by rfl)]
  refine wp_store_row 39 _ _ rfl w.heap.size _ rfl rfl 39 _ BR.h (by kernel_rfl) (by rfl) (by kernel_rfl) ?_
  refine hK.out _ _ ?_ (fun hHeld => ?_)
  · exact ⟨B3.at 0 rfl, B3.at 5 rfl⟩
  clear hK K
  refine wpAnyH_take (i := 11) (oi := ⟨_, _, _, _, _, _⟩) (v := ?_) rfl (by kernel_rfl) (by kernel_rfl) (by kernel_rfl) (fun _ _ _ h => h) (Or.inl ⟨by rfl, ?_⟩) (by assumption) ?_
  rotate_left
  · intro wS hSw
    try dsimp only at hSw
    go_simp
    try with_reducible rfl
  try simp only [Act.put, List.setIfInBounds_toArray, List.set_cons_zero, List.set_cons_succ]
  refine wpAnyH_done (by kernel_rfl) ?_ _
  go_wp2_with fail
  refine bodyPost_ret (v := .tuple #[.agg (accY 3 (gateI A T) 1 0), .bool true]) (results_cell_tmp rfl _ _ w.heap.size 39 (accY 3 (gateI A T) 1 0) (0, 0) _ (.bool true) rfl rfl (Blk.row BR (accY 3 (gateI A T) 1 0)).h Try.underlying39 rfl (by kernel_rfl)) rfl ⟨rfl, below_setRow hB2 (by omega) _⟩
end Go.Proofs.Ytpempcefgfmniaa.MemP

/-
  carry.Next of any task: contract.
-/
namespace Go.Proofs.Ytpempcefgfmniaa.MemP
open Go.RowKit RefP CellP Dp
set_option linter.unusedVariables false
set_option linter.unusedSimpArgs false
set_option maxHeartbeats 800000 in
theorem cnone_g {o oc g gb gr A T : Nat} {L : List (Int × Int)} {bs rs : List (List Value)} (t : Nat) (hp s th x ver at_ : Int) (st : Value) (done : Int) (tu en : Bool) (w : World) (h : MemAt w o oc g gb gr A T L bs rs) (B : Blk w t (carA (some ⟨o, 0, none⟩) hp s th x ver at_ st done tu en) 100) (q : (at_ == 8) = false) :
    Calls Try.prog 64 #[.pointer (some ⟨t, 0, none⟩)] w fun e w' => e = .returned (.bool false) ∧ w = w' := by
  have c0 := B.at 0 rfl
  have c6 := B.at 6 rfl
  have hA := h.a1
  have qA : ((A : Int) == 0) = false := by simp; omega
  clear hA
  go_enter Try.func64, Try.ntmps64
  go_wp2_with fail
  refine (arena_any _ h).mono ?_
  rintro e w1 ⟨rfl, rfl⟩
  go_wp2_with fail
  go_ret
  exact ⟨rfl, rfl⟩
set_option maxHeartbeats 800000 in
theorem cnone_8 {o oc g gb gr A T : Nat} {L : List (Int × Int)} {bs rs : List (List Value)} (t : Nat) (hp s th x ver : Int) (st : Value) (done : Int) (tu en : Bool) (w : World) (h : MemAt w o oc g gb gr A T L bs rs) (B : Blk w t (carA (some ⟨o, 0, none⟩) hp s th x ver 8 st done tu en) 100) :
    Calls Try.prog 64 #[.pointer (some ⟨t, 0, none⟩)] w fun e w' => e = .returned (.bool true) ∧ w = w' := by
  have c0 := B.at 0 rfl
  have c6 := B.at 6 rfl
  have hA := h.a1
  have qA : ((A : Int) == 0) = false := by simp; omega
  clear hA
  go_enter Try.func64, Try.ntmps64
  go_wp2_with fail
  refine (arena_any _ h).mono ?_
  rintro e w1 ⟨rfl, rfl⟩
  go_wp2_with fail
  go_ret
  exact ⟨rfl, rfl⟩
set_option maxRecDepth 100000 in
set_option maxHeartbeats 3200000 in
theorem kNext_8 {o oc g gb gr A T : Nat} {L : List (Int × Int)} {bs rs : List (List Value)} (t : Nat) (hp s th x ver : Int) (st : Value) (done : Int) (tu en : Bool) (w : World) (h : MemAt w o oc g gb gr A T L bs rs) (B : Blk w t (carA (some ⟨o, 0, none⟩) hp s th x ver 8 st done tu en) 100) :
    Calls Try.prog 36 #[.pointer (some ⟨t, 0, none⟩)] w fun e w' => e = .returned (.tuple #[.agg (accY 0 0 0 0), .bool false]) ∧ Below w.heap.size w w' := by
  have hB : Below w.heap.size w (w.alloc (.cells (accY 0 0 0 0) 39)) := by (repeat (first | exact Below.refl _ _ | assumption | refine below_alloc2 ?_ (by first | exact Nat.le_refl _ | omega) _ | refine Below.drew ?_ | refine below_drewN ?_ _ | refine below_push2 ?_ ‹_› (by first | exact Nat.le_refl _ | omega) | refine Below.setCell ?_ (by first | (simp; done) | (simp; omega) | omega) _))
  go_enter Try.func36, Try.ntmps36
  go_wp2_with fail
  refine (cnone_8 t hp s th x ver st done tu en _ (h.below hB) (B.below hB)).mono ?_
  rintro e w1 ⟨rfl, rfl⟩
  have BR := Blk.new w (accY 0 0 0 0) 39
  go_wp2_with (refine wpList_store_row rfl 39 _ _ rfl w.heap.size _ rfl rfl 39 _ BR.h (by kernel_rfl) (by rfl) (by kernel_rfl) ?_)
  refine bodyPost_ret (v := .tuple #[.agg (accY 0 0 0 0), .bool false]) (results_cell_tmp rfl _ _ w.heap.size 39 (accY 0 0 0 0) (0, 0) _ (.bool false) rfl rfl (Blk.row BR (accY 0 0 0 0)).h Try.underlying39 rfl (by kernel_rfl)) rfl ⟨rfl, below_setRow hB (by omega) _⟩
set_option maxRecDepth 100000 in
set_option maxHeartbeats 3200000 in
theorem kNext_0 {o oc g gb gr A T : Nat} {L : List (Int × Int)} {bs rs : List (List Value)} (t : Nat) (hp s th x ver : Int) (st : Value) (done : Int) (tu en : Bool) (w : World) (h : MemAt w o oc g gb gr A T L bs rs) (B : Blk w t (carA (some ⟨o, 0, none⟩) hp s th x ver 0 st done tu en) 100) :
    Calls Try.prog 36 #[.pointer (some ⟨t, 0, none⟩)] w fun e w' => e = .returned (.tuple #[.agg (accY 2 (hazI A T hp 0) 0 x), .bool true]) ∧ Below w.heap.size w w' := by
  have hB : Below w.heap.size w (w.alloc (.cells (accY 0 0 0 0) 39)) := by (repeat (first | exact Below.refl _ _ | assumption | refine below_alloc2 ?_ (by first | exact Nat.le_refl _ | omega) _ | refine Below.drew ?_ | refine below_drewN ?_ _ | refine below_push2 ?_ ‹_› (by first | exact Nat.le_refl _ | omega) | refine Below.setCell ?_ (by first | (simp; done) | (simp; omega) | omega) _))
  have h1 := h.below hB
  have B1 := B.below hB
  have hlt := B.lt
  have hne : ¬ w.heap.size = t := by omega
  have hne' : ¬ t = w.heap.size := by omega
  go_enter Try.func36, Try.ntmps36
  go_wp2_with fail
  refine (cnone_g t hp s th x ver 0 st done tu en _ h1 B1 rfl).mono ?_
  rintro e w1 ⟨rfl, rfl⟩
  have c0 := B1.at 0 rfl
  have c1 := B1.at 1 rfl
  have c3 := B1.at 3 rfl
  have c4 := B1.at 4 rfl
  have c5 := B1.at 5 rfl
  have c6 := B1.at 6 rfl
  have c7 := B1.at 7 rfl
  have c8 := B1.at 8 rfl
  have hM := h1.below (Below.refl _ _).drew
  go_upto_region 5 with (fail)
  refine wp_region_held_drew (S := fun w' => w'.cell? ⟨t, 0, none⟩ = some (.pointer (some ⟨o, 0, none⟩)) ∧ w'.cell? ⟨t, 1, none⟩ = some (.int .i64 hp) ∧ w'.cell? ⟨t, 4, none⟩ = some (.int .u64 x)) (by kernel_rfl) ?_ (fun hHeld => ?_)
  · exact ⟨c0, c1, c4⟩
  refine wpAnyH_take (i := 0) (oi := ⟨_, _, _, _, _, _⟩) (v := ?_) rfl (by kernel_rfl) (by kernel_rfl) (by kernel_rfl) (fun _ _ _ h => h) (Or.inl ⟨by rfl, ?_⟩) (by assumption) ?_
  rotate_left
  · intro wS hSw
    try dsimp only at hSw
    go_simp
    try with_reducible rfl
  try simp only [Act.put, List.setIfInBounds_toArray, List.set_cons_zero, List.set_cons_succ]
  refine wpAnyH_take (i := 1) (oi := ⟨_, _, _, _, _, _⟩) (v := ?_) rfl (by kernel_rfl) (by kernel_rfl) (by kernel_rfl) (fun _ _ _ h => h) (Or.inl ⟨by rfl, ?_⟩) (by assumption) ?_
  rotate_left
  · intro wS hSw
    try dsimp only at hSw
    go_simp
    try with_reducible rfl
  try simp only [Act.put, List.setIfInBounds_toArray, List.set_cons_zero, List.set_cons_succ]
  refine wpAnyH_take (i := 2) (oi := ⟨_, _, _, _, _, _⟩) (v := ?_) rfl (by kernel_rfl) (by kernel_rfl) (by kernel_rfl) (fun _ _ _ h => h) (Or.inl ⟨by rfl, ?_⟩) (by assumption) ?_
  rotate_left
  · intro wS hSw
    try dsimp only at hSw
    go_simp
    try with_reducible rfl
  try simp only [Act.put, List.setIfInBounds_toArray, List.set_cons_zero, List.set_cons_succ]
  refine wpAnyH_take (i := 3) (oi := ⟨_, _, _, _, _, _⟩) (v := ?_) rfl (by kernel_rfl) (by kernel_rfl) (by kernel_rfl) (fun _ _ _ h => h) (Or.inl ⟨by rfl, ?_⟩) (by assumption) ?_
  rotate_left
  · intro wS hSw
    try dsimp only at hSw
    go_simp
    try with_reducible rfl
  try simp only [Act.put, List.setIfInBounds_toArray, List.set_cons_zero, List.set_cons_succ]
  refine wpAnyH_take (i := 4) (oi := ⟨_, _, _, _, _, _⟩) (v := ?_) rfl (by kernel_rfl) (by kernel_rfl) (by kernel_rfl) (fun _ _ _ h => h) (Or.inl ⟨by rfl, ?_⟩) (by assumption) ?_
  rotate_left
  · intro wS hSw
    try dsimp only at hSw
    go_simp
    try with_reducible rfl
  try simp only [Act.put, List.setIfInBounds_toArray, List.set_cons_zero, List.set_cons_succ]
  refine wpAnyH_take (i := 5) (oi := ⟨_, _, _, _, _, _⟩) (v := ?_) rfl (by kernel_rfl) (by kernel_rfl) (by kernel_rfl) (fun _ _ _ h => h) (Or.inl ⟨by rfl, ?_⟩) (by assumption) ?_
  rotate_left
  · intro wS hSw
    try dsimp only at hSw
    go_simp
    try with_reducible rfl
  try simp only [Act.put, List.setIfInBounds_toArray, List.set_cons_zero, List.set_cons_succ]
  refine wpAnyH_take (i := 6) (oi := ⟨_, _, _, _, _, _⟩) (v := ?_) rfl (by kernel_rfl) (by kernel_rfl) (by kernel_rfl) (fun _ _ _ h => h) (Or.inl ⟨by rfl, ?_⟩) (by assumption) ?_
  rotate_left
  · intro wS hSw
    try dsimp only at hSw
    go_simp
    try with_reducible rfl
  try simp only [Act.put, List.setIfInBounds_toArray, List.set_cons_zero, List.set_cons_succ]
  refine wpAnyH_take (i := 7) (oi := ⟨_, _, _, _, _, _⟩) (v := ?_) rfl (by kernel_rfl) (by kernel_rfl) (by kernel_rfl) (fun _ _ _ h => h) (Or.inl ⟨by rfl, ?_⟩) (by assumption) ?_
  rotate_left
  · intro wS hSw
    try dsimp only at hSw
    go_simp
    try with_reducible rfl
  try simp only [Act.put, List.setIfInBounds_toArray, List.set_cons_zero, List.set_cons_succ]
  refine wpAnyH_take (i := 9) (oi := ⟨_, _, _, _, _, _⟩) (v := ?_) rfl (by kernel_rfl) (by kernel_rfl) (by kernel_rfl) (fun _ _ _ h => h) (Or.inl ⟨by rfl, ?_⟩) (by assumption) ?_
  rotate_left
  · intro wS hSw
    try dsimp only at hSw
    go_simp
    try with_reducible rfl
  try simp only [Act.put, List.setIfInBounds_toArray, List.set_cons_zero, List.set_cons_succ]
  refine wpAnyH_take (i := 10) (oi := ⟨_, _, _, _, _, _⟩) (v := ?_) rfl (by kernel_rfl) (by kernel_rfl) (by kernel_rfl) (fun _ _ _ h => h) (Or.inl ⟨by rfl, ?_⟩) (by assumption) ?_
  rotate_left
  · intro wS hSw
    try dsimp only at hSw
    go_simp
    try with_reducible rfl
  try simp only [Act.put, List.setIfInBounds_toArray, List.set_cons_zero, List.set_cons_succ]
  refine wpAnyH_take (i := 11) (oi := ⟨_, _, _, _, _, _⟩) (v := ?_) rfl (by kernel_rfl) (by kernel_rfl) (by kernel_rfl) (fun _ _ _ h => h) (Or.inl ⟨by rfl, ?_⟩) (by assumption) ?_
  rotate_left
  · intro wS hSw
    try dsimp only at hSw
    go_simp
    try with_reducible rfl
  try simp only [Act.put, List.setIfInBounds_toArray, List.set_cons_zero, List.set_cons_succ]
  refine wpAnyH_take (i := 12) (oi := ⟨_, _, _, _, _, _⟩) (v := ?_) rfl (by kernel_rfl) (by kernel_rfl) (by kernel_rfl) (fun _ _ _ h => h) (Or.inl ⟨by rfl, ?_⟩) (by assumption) ?_
  rotate_left
  · intro wS hSw
    try dsimp only at hSw
    go_simp
    try with_reducible rfl
  try simp only [Act.put, List.setIfInBounds_toArray, List.set_cons_zero, List.set_cons_succ]
  refine wpAnyH_take (i := 13) (oi := ⟨_, _, _, _, _, _⟩) (v := ?_) rfl (by kernel_rfl) (by kernel_rfl) (by kernel_rfl) (fun _ _ _ h => h) (Or.inl ⟨by rfl, ?_⟩) (by assumption) ?_
  rotate_left
  · intro wS hSw
    try dsimp only at hSw
    go_simp
    try with_reducible rfl
  try simp only [Act.put, List.setIfInBounds_toArray, List.set_cons_zero, List.set_cons_succ]
  refine wpAnyH_ready (rs := [8]) (by kernel_rfl) (by simp) ?_
  refine AllReadyH.cons rfl (fun K hK => ?_) AllReadyH.nil
  go_simp
  refine (haz_any hp 0 _ hM).mono ?_
  rintro e w2 ⟨rfl, hb2⟩
  have hB2 := below_push2 hB.drew hb2 (Nat.le_refl _)
  have B2 := (B1.drew).below hb2
  have BR := ((Blk.new w (accY 0 0 0 0) 39).drew).below hb2
  refine hK.out _ _ ⟨B2.at 0 rfl, B2.at 1 rfl, B2.at 4 rfl⟩ (fun hHeld => ?_)
  clear hK K hb2
  refine wpAnyH_take (i := 14) (oi := ⟨_, _, _, _, _, _⟩) (v := ?_) rfl (by kernel_rfl) (by kernel_rfl) (by kernel_rfl) (fun _ _ _ h => h) (Or.inl ⟨by rfl, ?_⟩) (by assumption) ?_
  rotate_left
  · intro wS hSw
    try dsimp only at hSw
    go_simp
    try with_reducible rfl
  try simp only [Act.put, List.setIfInBounds_toArray, List.set_cons_zero, List.set_cons_succ]
  have B3 := (Fr.row (S := [w.heap.size]) (w := w2) w.heap.size (accY 2 (hazI A T hp 0) 0 x) (by simp)).blk B2 (by simpa using hne')
  refine wpAnyH_ready (rs := [15]) (by kernel_rfl) (by simp) ?_
  refine AllReadyH.cons rfl (fun K hK => ?_) AllReadyH.nil
  rw [if_pos (by rfl)]
  refine wp_store_row 39 _ _ rfl w.heap.size _ rfl rfl 39 _ BR.h (by kernel_rfl) (by rfl) (by kernel_rfl) ?_
  refine hK.out _ _ ?_ (fun hHeld => ?_)
  · exact ⟨B3.at 0 rfl, B3.at 1 rfl, B3.at 4 rfl⟩
  clear hK K
  refine wpAnyH_take (i := 16) (oi := ⟨_, _, _, _, _, _⟩) (v := ?_) rfl (by kernel_rfl) (by kernel_rfl) (by kernel_rfl) (fun _ _ _ h => h) (Or.inl ⟨by rfl, ?_⟩) (by assumption) ?_
  rotate_left
  · intro wS hSw
    try dsimp only at hSw
    go_simp
    try with_reducible rfl
  try simp only [Act.put, List.setIfInBounds_toArray, List.set_cons_zero, List.set_cons_succ]
  refine wpAnyH_done (by kernel_rfl) ?_ _
  go_wp2_with fail
  refine bodyPost_ret (v := .tuple #[.agg (accY 2 (hazI A T hp 0) 0 x), .bool true]) (results_cell_tmp rfl _ _ w.heap.size 39 (accY 2 (hazI A T hp 0) 0 x) (0, 0) _ (.bool true) rfl rfl (Blk.row BR (accY 2 (hazI A T hp 0) 0 x)).h Try.underlying39 rfl (by kernel_rfl)) rfl ⟨rfl, below_setRow hB2 (by omega) _⟩
set_option maxRecDepth 100000 in
set_option maxHeartbeats 3200000 in
theorem kNext_2 {o oc g gb gr A T : Nat} {L : List (Int × Int)} {bs rs : List (List Value)} (t : Nat) (hp s th x ver : Int) (st : Value) (done : Int) (tu en : Bool) (w : World) (h : MemAt w o oc g gb gr A T L bs rs) (B : Blk w t (carA (some ⟨o, 0, none⟩) hp s th x ver 2 st done tu en) 100) :
    Calls Try.prog 36 #[.pointer (some ⟨t, 0, none⟩)] w fun e w' => e = .returned (.tuple #[.agg (accY 4 0 0 x), .bool true]) ∧ Below w.heap.size w w' := by
  have hB : Below w.heap.size w (w.alloc (.cells (accY 0 0 0 0) 39)) := by (repeat (first | exact Below.refl _ _ | assumption | refine below_alloc2 ?_ (by first | exact Nat.le_refl _ | omega) _ | refine Below.drew ?_ | refine below_drewN ?_ _ | refine below_push2 ?_ ‹_› (by first | exact Nat.le_refl _ | omega) | refine Below.setCell ?_ (by first | (simp; done) | (simp; omega) | omega) _))
  have h1 := h.below hB
  have B1 := B.below hB
  have hlt := B.lt
  have hne : ¬ w.heap.size = t := by omega
  have hne' : ¬ t = w.heap.size := by omega
  go_enter Try.func36, Try.ntmps36
  go_wp2_with fail
  refine (cnone_g t hp s th x ver 2 st done tu en _ h1 B1 rfl).mono ?_
  rintro e w1 ⟨rfl, rfl⟩
  have c0 := B1.at 0 rfl
  have c1 := B1.at 1 rfl
  have c3 := B1.at 3 rfl
  have c4 := B1.at 4 rfl
  have c5 := B1.at 5 rfl
  have c6 := B1.at 6 rfl
  have c7 := B1.at 7 rfl
  have c8 := B1.at 8 rfl
  have hM := h1.below (Below.refl _ _).drew
  have BR := Blk.new w (accY 0 0 0 0) 39
  go_wp2_with (refine wpList_store_row rfl 39 _ _ rfl w.heap.size _ rfl rfl 39 _ BR.h (by kernel_rfl) (by rfl) (by kernel_rfl) ?_)
  refine bodyPost_ret (v := .tuple #[.agg (accY 4 0 0 x), .bool true]) (results_cell_tmp rfl _ _ w.heap.size 39 (accY 4 0 0 x) (0, 0) _ (.bool true) rfl rfl (Blk.row BR (accY 4 0 0 x)).h Try.underlying39 rfl (by kernel_rfl)) rfl ⟨rfl, below_setRow hB (by omega) _⟩
set_option maxRecDepth 100000 in
set_option maxHeartbeats 3200000 in
theorem kNext_4 {o oc g gb gr A T : Nat} {L : List (Int × Int)} {bs rs : List (List Value)} (t : Nat) (hp s th x ver : Int) (st : Value) (done : Int) (tu en : Bool) (w : World) (h : MemAt w o oc g gb gr A T L bs rs) (B : Blk w t (carA (some ⟨o, 0, none⟩) hp s th x ver 4 st done tu en) 100) (t0 : I64 th) :
    Calls Try.prog 36 #[.pointer (some ⟨t, 0, none⟩)] w fun e w' => e = .returned (.tuple #[.agg (accY 1 (atI A T 3 th) 0 0), .bool true]) ∧ Below w.heap.size w w' := by
  obtain ⟨t0, t1⟩ := t0
  have hB : Below w.heap.size w (w.alloc (.cells (accY 0 0 0 0) 39)) := by (repeat (first | exact Below.refl _ _ | assumption | refine below_alloc2 ?_ (by first | exact Nat.le_refl _ | omega) _ | refine Below.drew ?_ | refine below_drewN ?_ _ | refine below_push2 ?_ ‹_› (by first | exact Nat.le_refl _ | omega) | refine Below.setCell ?_ (by first | (simp; done) | (simp; omega) | omega) _))
  have h1 := h.below hB
  have B1 := B.below hB
  have hlt := B.lt
  have hne : ¬ w.heap.size = t := by omega
  have hne' : ¬ t = w.heap.size := by omega
  go_enter Try.func36, Try.ntmps36
  go_wp2_with fail
  refine (cnone_g t hp s th x ver 4 st done tu en _ h1 B1 rfl).mono ?_
  rintro e w1 ⟨rfl, rfl⟩
  have c0 := B1.at 0 rfl
  have c1 := B1.at 1 rfl
  have c3 := B1.at 3 rfl
  have c4 := B1.at 4 rfl
  have c5 := B1.at 5 rfl
  have c6 := B1.at 6 rfl
  have c7 := B1.at 7 rfl
  have c8 := B1.at 8 rfl
  have hM := h1.below (Below.refl _ _).drew
  go_upto_region 12 with (fail)
  refine wp_region_held_drew (S := fun w' => w'.cell? ⟨t, 0, none⟩ = some (.pointer (some ⟨o, 0, none⟩)) ∧ w'.cell? ⟨t, 3, none⟩ = some (.int .i64 th)) (by kernel_rfl) ?_ (fun hHeld => ?_)
  · exact ⟨c0, c3⟩
  refine wpAnyH_take (i := 0) (oi := ⟨_, _, _, _, _, _⟩) (v := ?_) rfl (by kernel_rfl) (by kernel_rfl) (by kernel_rfl) (fun _ _ _ h => h) (Or.inl ⟨by rfl, ?_⟩) (by assumption) ?_
  rotate_left
  · intro wS hSw
    try dsimp only at hSw
    go_simp
    try with_reducible rfl
  try simp only [Act.put, List.setIfInBounds_toArray, List.set_cons_zero, List.set_cons_succ]
  refine wpAnyH_take (i := 1) (oi := ⟨_, _, _, _, _, _⟩) (v := ?_) rfl (by kernel_rfl) (by kernel_rfl) (by kernel_rfl) (fun _ _ _ h => h) (Or.inl ⟨by rfl, ?_⟩) (by assumption) ?_
  rotate_left
  · intro wS hSw
    try dsimp only at hSw
    go_simp
    try with_reducible rfl
  try simp only [Act.put, List.setIfInBounds_toArray, List.set_cons_zero, List.set_cons_succ]
  refine wpAnyH_take (i := 2) (oi := ⟨_, _, _, _, _, _⟩) (v := ?_) rfl (by kernel_rfl) (by kernel_rfl) (by kernel_rfl) (fun _ _ _ h => h) (Or.inl ⟨by rfl, ?_⟩) (by assumption) ?_
  rotate_left
  · intro wS hSw
    try dsimp only at hSw
    go_simp
    try with_reducible rfl
  try simp only [Act.put, List.setIfInBounds_toArray, List.set_cons_zero, List.set_cons_succ]
  refine wpAnyH_take (i := 3) (oi := ⟨_, _, _, _, _, _⟩) (v := ?_) rfl (by kernel_rfl) (by kernel_rfl) (by kernel_rfl) (fun _ _ _ h => h) (Or.inl ⟨by rfl, ?_⟩) (by assumption) ?_
  rotate_left
  · intro wS hSw
    try dsimp only at hSw
    go_simp
    try with_reducible rfl
  try simp only [Act.put, List.setIfInBounds_toArray, List.set_cons_zero, List.set_cons_succ]
  refine wpAnyH_take (i := 4) (oi := ⟨_, _, _, _, _, _⟩) (v := ?_) rfl (by kernel_rfl) (by kernel_rfl) (by kernel_rfl) (fun _ _ _ h => h) (Or.inl ⟨by rfl, ?_⟩) (by assumption) ?_
  rotate_left
  · intro wS hSw
    try dsimp only at hSw
    go_simp
    try with_reducible rfl
  try simp only [Act.put, List.setIfInBounds_toArray, List.set_cons_zero, List.set_cons_succ]
  refine wpAnyH_take (i := 5) (oi := ⟨_, _, _, _, _, _⟩) (v := ?_) rfl (by kernel_rfl) (by kernel_rfl) (by kernel_rfl) (fun _ _ _ h => h) (Or.inl ⟨by rfl, ?_⟩) (by assumption) ?_
  rotate_left
  · intro wS hSw
    try dsimp only at hSw
    go_simp
    try with_reducible rfl
  try simp only [Act.put, List.setIfInBounds_toArray, List.set_cons_zero, List.set_cons_succ]
  refine wpAnyH_take (i := 6) (oi := ⟨_, _, _, _, _, _⟩) (v := ?_) rfl (by kernel_rfl) (by kernel_rfl) (by kernel_rfl) (fun _ _ _ h => h) (Or.inl ⟨by rfl, ?_⟩) (by assumption) ?_
  rotate_left
  · intro wS hSw
    try dsimp only at hSw
    go_simp
    try with_reducible rfl
  try simp only [Act.put, List.setIfInBounds_toArray, List.set_cons_zero, List.set_cons_succ]
  refine wpAnyH_take (i := 7) (oi := ⟨_, _, _, _, _, _⟩) (v := ?_) rfl (by kernel_rfl) (by kernel_rfl) (by kernel_rfl) (fun _ _ _ h => h) (Or.inl ⟨by rfl, ?_⟩) (by assumption) ?_
  rotate_left
  · intro wS hSw
    try dsimp only at hSw
    go_simp
    try with_reducible rfl
  try simp only [Act.put, List.setIfInBounds_toArray, List.set_cons_zero, List.set_cons_succ]
  refine wpAnyH_take (i := 8) (oi := ⟨_, _, _, _, _, _⟩) (v := ?_) rfl (by kernel_rfl) (by kernel_rfl) (by kernel_rfl) (fun _ _ _ h => h) (Or.inl ⟨by rfl, ?_⟩) (by assumption) ?_
  rotate_left
  · intro wS hSw
    try dsimp only at hSw
    go_simp
    try with_reducible rfl
  try simp only [Act.put, List.setIfInBounds_toArray, List.set_cons_zero, List.set_cons_succ]
  refine wpAnyH_ready (rs := [9]) (by kernel_rfl) (by simp) ?_
  refine AllReadyH.cons rfl (fun K hK => ?_) AllReadyH.nil
  go_simp
  refine (done_any th _ hM (by omega) (by omega)).mono ?_
  rintro e w2 ⟨rfl, hb2⟩
  have hB2 := below_push2 hB.drew hb2 (Nat.le_refl _)
  have B2 := (B1.drew).below hb2
  have BR := ((Blk.new w (accY 0 0 0 0) 39).drew).below hb2
  refine hK.out _ _ ⟨B2.at 0 rfl, B2.at 3 rfl⟩ (fun hHeld => ?_)
  clear hK K hb2
  refine wpAnyH_take (i := 10) (oi := ⟨_, _, _, _, _, _⟩) (v := ?_) rfl (by kernel_rfl) (by kernel_rfl) (by kernel_rfl) (fun _ _ _ h => h) (Or.inl ⟨by rfl, ?_⟩) (by assumption) ?_
  rotate_left
  · intro wS hSw
    try dsimp only at hSw
    go_simp
    try with_reducible rfl
  try simp only [Act.put, List.setIfInBounds_toArray, List.set_cons_zero, List.set_cons_succ]
  have B3 := (Fr.row (S := [w.heap.size]) (w := w2) w.heap.size (accY 1 (atI A T 3 th) 0 0) (by simp)).blk B2 (by simpa using hne')
  refine wpAnyH_ready (rs := [11]) (by kernel_rfl) (by simp) ?_
  refine AllReadyH.cons rfl (fun K hK => ?_) AllReadyH.nil
  rw [if_pos (by rfl)]
  refine wp_store_row 39 _ _ rfl w.heap.size _ rfl rfl 39 _ BR.h (by kernel_rfl) (by rfl) (by kernel_rfl) ?_
  refine hK.out _ _ ?_ (fun hHeld => ?_)
  · exact ⟨B3.at 0 rfl, B3.at 3 rfl⟩
  clear hK K
  refine wpAnyH_take (i := 12) (oi := ⟨_, _, _, _, _, _⟩) (v := ?_) rfl (by kernel_rfl) (by kernel_rfl) (by kernel_rfl) (fun _ _ _ h => h) (Or.inl ⟨by rfl, ?_⟩) (by assumption) ?_
  rotate_left
  · intro wS hSw
    try dsimp only at hSw
    go_simp
    try with_reducible rfl
  try simp only [Act.put, List.setIfInBounds_toArray, List.set_cons_zero, List.set_cons_succ]
  refine wpAnyH_done (by kernel_rfl) ?_ _
  go_wp2_with fail
  refine bodyPost_ret (v := .tuple #[.agg (accY 1 (atI A T 3 th) 0 0), .bool true]) (results_cell_tmp rfl _ _ w.heap.size 39 (accY 1 (atI A T 3 th) 0 0) (0, 0) _ (.bool true) rfl rfl (Blk.row BR (accY 1 (atI A T 3 th) 0 0)).h Try.underlying39 rfl (by kernel_rfl)) rfl ⟨rfl, below_setRow hB2 (by omega) _⟩
set_option maxRecDepth 100000 in
set_option maxHeartbeats 3200000 in
theorem kNext_6 {o oc g gb gr A T : Nat} {L : List (Int × Int)} {bs rs : List (List Value)} (t : Nat) (hp s th x ver : Int) (st : Value) (done : Int) (tu en : Bool) (w : World) (h : MemAt w o oc g gb gr A T L bs rs) (B : Blk w t (carA (some ⟨o, 0, none⟩) hp s th x ver 6 st done tu en) 100) (t0 : I64 th) (hx : U64 x) :
    Calls Try.prog 36 #[.pointer (some ⟨t, 0, none⟩)] w fun e w' => e = .returned (.tuple #[.agg (accY 3 (atI A T 3 th) done (maxW x)), .bool true]) ∧ Below w.heap.size w w' := by
  obtain ⟨t0, t1⟩ := t0
  obtain ⟨x0, x1⟩ := hx
  have hB : Below w.heap.size w (w.alloc (.cells (accY 0 0 0 0) 39)) := by (repeat (first | exact Below.refl _ _ | assumption | refine below_alloc2 ?_ (by first | exact Nat.le_refl _ | omega) _ | refine Below.drew ?_ | refine below_drewN ?_ _ | refine below_push2 ?_ ‹_› (by first | exact Nat.le_refl _ | omega) | refine Below.setCell ?_ (by first | (simp; done) | (simp; omega) | omega) _))
  have h1 := h.below hB
  have B1 := B.below hB
  have hlt := B.lt
  have hne : ¬ w.heap.size = t := by omega
  have hne' : ¬ t = w.heap.size := by omega
  go_enter Try.func36, Try.ntmps36
  go_wp2_with fail
  refine (cnone_g t hp s th x ver 6 st done tu en _ h1 B1 rfl).mono ?_
  rintro e w1 ⟨rfl, rfl⟩
  have c0 := B1.at 0 rfl
  have c1 := B1.at 1 rfl
  have c3 := B1.at 3 rfl
  have c4 := B1.at 4 rfl
  have c5 := B1.at 5 rfl
  have c6 := B1.at 6 rfl
  have c7 := B1.at 7 rfl
  have c8 := B1.at 8 rfl
  have hM := h1.below (Below.refl _ _).drew
  go_upto_region 14 with (fail)
  refine wp_region_held_drew (S := fun w' => w'.cell? ⟨t, 0, none⟩ = some (.pointer (some ⟨o, 0, none⟩)) ∧ w'.cell? ⟨t, 3, none⟩ = some (.int .i64 th) ∧ w'.cell? ⟨t, 8, none⟩ = some (.int .u64 done) ∧ w'.cell? ⟨t, 4, none⟩ = some (.int .u64 x)) (by kernel_rfl) ?_ (fun hHeld => ?_)
  · exact ⟨c0, c3, c8, c4⟩
  refine wpAnyH_take (i := 0) (oi := ⟨_, _, _, _, _, _⟩) (v := ?_) rfl (by kernel_rfl) (by kernel_rfl) (by kernel_rfl) (fun _ _ _ h => h) (Or.inl ⟨by rfl, ?_⟩) (by assumption) ?_
  rotate_left
  · intro wS hSw
    try dsimp only at hSw
    go_simp
    try with_reducible rfl
  try simp only [Act.put, List.setIfInBounds_toArray, List.set_cons_zero, List.set_cons_succ]
  refine wpAnyH_take (i := 1) (oi := ⟨_, _, _, _, _, _⟩) (v := ?_) rfl (by kernel_rfl) (by kernel_rfl) (by kernel_rfl) (fun _ _ _ h => h) (Or.inl ⟨by rfl, ?_⟩) (by assumption) ?_
  rotate_left
  · intro wS hSw
    try dsimp only at hSw
    go_simp
    try with_reducible rfl
  try simp only [Act.put, List.setIfInBounds_toArray, List.set_cons_zero, List.set_cons_succ]
  refine wpAnyH_take (i := 2) (oi := ⟨_, _, _, _, _, _⟩) (v := ?_) rfl (by kernel_rfl) (by kernel_rfl) (by kernel_rfl) (fun _ _ _ h => h) (Or.inl ⟨by rfl, ?_⟩) (by assumption) ?_
  rotate_left
  · intro wS hSw
    try dsimp only at hSw
    go_simp
    try with_reducible rfl
  try simp only [Act.put, List.setIfInBounds_toArray, List.set_cons_zero, List.set_cons_succ]
  refine wpAnyH_take (i := 3) (oi := ⟨_, _, _, _, _, _⟩) (v := ?_) rfl (by kernel_rfl) (by kernel_rfl) (by kernel_rfl) (fun _ _ _ h => h) (Or.inl ⟨by rfl, ?_⟩) (by assumption) ?_
  rotate_left
  · intro wS hSw
    try dsimp only at hSw
    go_simp
    try with_reducible rfl
  try simp only [Act.put, List.setIfInBounds_toArray, List.set_cons_zero, List.set_cons_succ]
  refine wpAnyH_take (i := 4) (oi := ⟨_, _, _, _, _, _⟩) (v := ?_) rfl (by kernel_rfl) (by kernel_rfl) (by kernel_rfl) (fun _ _ _ h => h) (Or.inl ⟨by rfl, ?_⟩) (by assumption) ?_
  rotate_left
  · intro wS hSw
    try dsimp only at hSw
    go_simp
    try with_reducible rfl
  try simp only [Act.put, List.setIfInBounds_toArray, List.set_cons_zero, List.set_cons_succ]
  refine wpAnyH_take (i := 5) (oi := ⟨_, _, _, _, _, _⟩) (v := ?_) rfl (by kernel_rfl) (by kernel_rfl) (by kernel_rfl) (fun _ _ _ h => h) (Or.inl ⟨by rfl, ?_⟩) (by assumption) ?_
  rotate_left
  · intro wS hSw
    try dsimp only at hSw
    go_simp
    try with_reducible rfl
  try simp only [Act.put, List.setIfInBounds_toArray, List.set_cons_zero, List.set_cons_succ]
  refine wpAnyH_take (i := 6) (oi := ⟨_, _, _, _, _, _⟩) (v := ?_) rfl (by kernel_rfl) (by kernel_rfl) (by kernel_rfl) (fun _ _ _ h => h) (Or.inl ⟨by rfl, ?_⟩) (by assumption) ?_
  rotate_left
  · intro wS hSw
    try dsimp only at hSw
    go_simp
    try with_reducible rfl
  try simp only [Act.put, List.setIfInBounds_toArray, List.set_cons_zero, List.set_cons_succ]
  refine wpAnyH_take (i := 7) (oi := ⟨_, _, _, _, _, _⟩) (v := ?_) rfl (by kernel_rfl) (by kernel_rfl) (by kernel_rfl) (fun _ _ _ h => h) (Or.inl ⟨by rfl, ?_⟩) (by assumption) ?_
  rotate_left
  · intro wS hSw
    try dsimp only at hSw
    go_simp
    try with_reducible rfl
  try simp only [Act.put, List.setIfInBounds_toArray, List.set_cons_zero, List.set_cons_succ]
  refine wpAnyH_take (i := 8) (oi := ⟨_, _, _, _, _, _⟩) (v := ?_) rfl (by kernel_rfl) (by kernel_rfl) (by kernel_rfl) (fun _ _ _ h => h) (Or.inl ⟨by rfl, ?_⟩) (by assumption) ?_
  rotate_left
  · intro wS hSw
    try dsimp only at hSw
    go_simp
    try with_reducible rfl
  try simp only [Act.put, List.setIfInBounds_toArray, List.set_cons_zero, List.set_cons_succ]
  refine wpAnyH_take (i := 10) (oi := ⟨_, _, _, _, _, _⟩) (v := ?_) rfl (by kernel_rfl) (by kernel_rfl) (by kernel_rfl) (fun _ _ _ h => h) (Or.inl ⟨by rfl, ?_⟩) (by assumption) ?_
  rotate_left
  · intro wS hSw
    try dsimp only at hSw
    go_simp
    try with_reducible rfl
  try simp only [Act.put, List.setIfInBounds_toArray, List.set_cons_zero, List.set_cons_succ]
  refine wpAnyH_take (i := 11) (oi := ⟨_, _, _, _, _, _⟩) (v := ?_) rfl (by kernel_rfl) (by kernel_rfl) (by kernel_rfl) (fun _ _ _ h => h) (Or.inl ⟨by rfl, ?_⟩) (by assumption) ?_
  rotate_left
  · intro wS hSw
    try dsimp only at hSw
    go_simp
    try with_reducible rfl
  try simp only [Act.put, List.setIfInBounds_toArray, List.set_cons_zero, List.set_cons_succ]
  refine wpAnyH_take (i := 12) (oi := ⟨_, _, _, _, _, _⟩) (v := ?_) rfl (by kernel_rfl) (by kernel_rfl) (by kernel_rfl) (fun _ _ _ h => h) (Or.inl ⟨by rfl, ?_⟩) (by assumption) ?_
  rotate_left
  · intro wS hSw
    try dsimp only at hSw
    go_simp
    try with_reducible rfl
  try simp only [Act.put, List.setIfInBounds_toArray, List.set_cons_zero, List.set_cons_succ]
  refine wpAnyH_take (i := 13) (oi := ⟨_, _, _, _, _, _⟩) (v := ?_) rfl (by kernel_rfl) (by kernel_rfl) (by kernel_rfl) (fun _ _ _ h => h) (Or.inl ⟨by rfl, ?_⟩) (by assumption) ?_
  rotate_left
  · intro wS hSw
    try dsimp only at hSw
    go_simp
    try with_reducible rfl
  try simp only [Act.put, List.setIfInBounds_toArray, List.set_cons_zero, List.set_cons_succ]
  refine wpAnyH_take (i := 14) (oi := ⟨_, _, _, _, _, _⟩) (v := ?_) rfl (by kernel_rfl) (by kernel_rfl) (by kernel_rfl) (fun _ _ _ h => h) (Or.inl ⟨by rfl, ?_⟩) (by assumption) ?_
  rotate_left
  · intro wS hSw
    try dsimp only at hSw
    go_simp
    try with_reducible rfl
  try simp only [Act.put, List.setIfInBounds_toArray, List.set_cons_zero, List.set_cons_succ]
  refine wpAnyH_take (i := 15) (oi := ⟨_, _, _, _, _, _⟩) (v := ?_) rfl (by kernel_rfl) (by kernel_rfl) (by kernel_rfl) (fun _ _ _ h => h) (Or.inl ⟨by rfl, ?_⟩) (by assumption) ?_
  rotate_left
  · intro wS hSw
    try dsimp only at hSw
    go_simp
    try with_reducible rfl
  try simp only [Act.put, List.setIfInBounds_toArray, List.set_cons_zero, List.set_cons_succ]
  refine wpAnyH_take (i := 16) (oi := ⟨_, _, _, _, _, _⟩) (v := ?_) rfl (by kernel_rfl) (by kernel_rfl) (by kernel_rfl) (fun _ _ _ h => h) (Or.inl ⟨by rfl, ?_⟩) (by assumption) ?_
  rotate_left
  · intro wS hSw
    try dsimp only at hSw
    go_simp
    try with_reducible rfl
  try simp only [Act.put, List.setIfInBounds_toArray, List.set_cons_zero, List.set_cons_succ]
  refine wpAnyH_take (i := 17) (oi := ⟨_, _, _, _, _, _⟩) (v := ?_) rfl (by kernel_rfl) (by kernel_rfl) (by kernel_rfl) (fun _ _ _ h => h) (Or.inl ⟨by rfl, ?_⟩) (by assumption) ?_
  rotate_left
  · intro wS hSw
    try dsimp only at hSw
    go_simp
    try with_reducible rfl
  try simp only [Act.put, List.setIfInBounds_toArray, List.set_cons_zero, List.set_cons_succ]
  refine wpAnyH_take (i := 18) (oi := ⟨_, _, _, _, _, _⟩) (v := ?_) rfl (by kernel_rfl) (by kernel_rfl) (by kernel_rfl) (fun _ _ _ h => h) (Or.inl ⟨by rfl, ?_⟩) (by assumption) ?_
  rotate_left
  · intro wS hSw
    try dsimp only at hSw
    go_simp
    try with_reducible rfl
  try simp only [Act.put, List.setIfInBounds_toArray, List.set_cons_zero, List.set_cons_succ]
  refine wpAnyH_take (i := 19) (oi := ⟨_, _, _, _, _, _⟩) (v := ?_) rfl (by kernel_rfl) (by kernel_rfl) (by kernel_rfl) (fun _ _ _ h => h) (Or.inl ⟨by rfl, ?_⟩) (by assumption) ?_
  rotate_left
  · intro wS hSw
    try dsimp only at hSw
    go_simp
    try with_reducible rfl
  try simp only [Act.put, List.setIfInBounds_toArray, List.set_cons_zero, List.set_cons_succ]
  refine wpAnyH_ready (rs := [9]) (by kernel_rfl) (by simp) ?_
  refine AllReadyH.cons rfl (fun K hK => ?_) AllReadyH.nil
  go_simp
  refine (done_any th _ hM (by omega) (by omega)).mono ?_
  rintro e w2 ⟨rfl, hb2⟩
  have hB2 := below_push2 hB.drew hb2 (Nat.le_refl _)
  have B2 := (B1.drew).below hb2
  have BR := ((Blk.new w (accY 0 0 0 0) 39).drew).below hb2
  refine hK.out _ _ ⟨B2.at 0 rfl, B2.at 3 rfl, B2.at 8 rfl, B2.at 4 rfl⟩ (fun hHeld => ?_)
  clear hK K hb2
  refine wpAnyH_take (i := 20) (oi := ⟨_, _, _, _, _, _⟩) (v := ?_) rfl (by kernel_rfl) (by kernel_rfl) (by kernel_rfl) (fun _ _ _ h => h) (Or.inl ⟨by rfl, ?_⟩) (by assumption) ?_
  rotate_left
  · intro wS hSw
    try dsimp only at hSw
    go_simp
    try with_reducible rfl
  try simp only [Act.put, List.setIfInBounds_toArray, List.set_cons_zero, List.set_cons_succ]
  have B3 := (Fr.row (S := [w.heap.size]) (w := w2) w.heap.size (accY 3 (atI A T 3 th) done (if x < 1 then 1 else x)) (by simp)).blk B2 (by simpa using hne')
  refine wpAnyH_ready (rs := [21]) (by kernel_rfl) (by simp) ?_
  refine AllReadyH.cons rfl (fun K hK => ?_) AllReadyH.nil
  rw [if_pos (by rfl)]
  refine wp_store_row 39 _ _ rfl w.heap.size _ rfl rfl 39 _ BR.h (by kernel_rfl) (by rfl) (by kernel_rfl) ?_
  refine hK.out _ _ ?_ (fun hHeld => ?_)
  · exact ⟨B3.at 0 rfl, B3.at 3 rfl, B3.at 8 rfl, B3.at 4 rfl⟩
  clear hK K
  refine wpAnyH_take (i := 22) (oi := ⟨_, _, _, _, _, _⟩) (v := ?_) rfl (by kernel_rfl) (by kernel_rfl) (by kernel_rfl) (fun _ _ _ h => h) (Or.inl ⟨by rfl, ?_⟩) (by assumption) ?_
  rotate_left
  · intro wS hSw
    try dsimp only at hSw
    go_simp
    try with_reducible rfl
  try simp only [Act.put, List.setIfInBounds_toArray, List.set_cons_zero, List.set_cons_succ]
  refine wpAnyH_done (by kernel_rfl) ?_ _
  have BR4 := Blk.row BR (accY 3 (atI A T 3 th) done (maxW x))
  rw [show (if x < 1 then (1 : Int) else x) = maxW x from rfl]
  go_wp2_with fail
  refine bodyPost_ret (v := .tuple #[.agg (accY 3 (atI A T 3 th) done (maxW x)), .bool true]) (results_cell_tmp rfl _ _ w.heap.size 39 (accY 3 (atI A T 3 th) done (maxW x)) (0, 0) _ (.bool true) rfl rfl BR4.h Try.underlying39 rfl (by kernel_rfl)) rfl ⟨rfl, below_setRow hB2 (by omega) _⟩
set_option maxRecDepth 100000 in
set_option maxHeartbeats 3200000 in
theorem kNext_7 {o oc g gb gr A T : Nat} {L : List (Int × Int)} {bs rs : List (List Value)} (t : Nat) (hp s th x ver : Int) (st : Value) (done : Int) (tu en : Bool) (w : World) (h : MemAt w o oc g gb gr A T L bs rs) (B : Blk w t (carA (some ⟨o, 0, none⟩) hp s th x ver 7 st done tu en) 100) :
    Calls Try.prog 36 #[.pointer (some ⟨t, 0, none⟩)] w fun e w' => e = .returned (.tuple #[.agg (accY 3 (gateI A T) ver 0), .bool true]) ∧ Below w.heap.size w w' := by
  have hB : Below w.heap.size w (w.alloc (.cells (accY 0 0 0 0) 39)) := by (repeat (first | exact Below.refl _ _ | assumption | refine below_alloc2 ?_ (by first | exact Nat.le_refl _ | omega) _ | refine Below.drew ?_ | refine below_drewN ?_ _ | refine below_push2 ?_ ‹_› (by first | exact Nat.le_refl _ | omega) | refine Below.setCell ?_ (by first | (simp; done) | (simp; omega) | omega) _))
  have h1 := h.below hB
  have B1 := B.below hB
  have hlt := B.lt
  have hne : ¬ w.heap.size = t := by omega
  have hne' : ¬ t = w.heap.size := by omega
  go_enter Try.func36, Try.ntmps36
  go_wp2_with fail
  refine (cnone_g t hp s th x ver 7 st done tu en _ h1 B1 rfl).mono ?_
  rintro e w1 ⟨rfl, rfl⟩
  have c0 := B1.at 0 rfl
  have c1 := B1.at 1 rfl
  have c3 := B1.at 3 rfl
  have c4 := B1.at 4 rfl
  have c5 := B1.at 5 rfl
  have c6 := B1.at 6 rfl
  have c7 := B1.at 7 rfl
  have c8 := B1.at 8 rfl
  have hM := h1.below (Below.refl _ _).drew
  go_upto_region 16 with (fail)
  refine wp_region_held_drew (S := fun w' => w'.cell? ⟨t, 0, none⟩ = some (.pointer (some ⟨o, 0, none⟩)) ∧ w'.cell? ⟨t, 5, none⟩ = some (.int .u64 ver)) (by kernel_rfl) ?_ (fun hHeld => ?_)
  · exact ⟨c0, c5⟩
  refine wpAnyH_take (i := 0) (oi := ⟨_, _, _, _, _, _⟩) (v := ?_) rfl (by kernel_rfl) (by kernel_rfl) (by kernel_rfl) (fun _ _ _ h => h) (Or.inl ⟨by rfl, ?_⟩) (by assumption) ?_
  rotate_left
  · intro wS hSw
    try dsimp only at hSw
    go_simp
    try with_reducible rfl
  try simp only [Act.put, List.setIfInBounds_toArray, List.set_cons_zero, List.set_cons_succ]
  refine wpAnyH_take (i := 1) (oi := ⟨_, _, _, _, _, _⟩) (v := ?_) rfl (by kernel_rfl) (by kernel_rfl) (by kernel_rfl) (fun _ _ _ h => h) (Or.inl ⟨by rfl, ?_⟩) (by assumption) ?_
  rotate_left
  · intro wS hSw
    try dsimp only at hSw
    go_simp
    try with_reducible rfl
  try simp only [Act.put, List.setIfInBounds_toArray, List.set_cons_zero, List.set_cons_succ]
  refine wpAnyH_take (i := 2) (oi := ⟨_, _, _, _, _, _⟩) (v := ?_) rfl (by kernel_rfl) (by kernel_rfl) (by kernel_rfl) (fun _ _ _ h => h) (Or.inl ⟨by rfl, ?_⟩) (by assumption) ?_
  rotate_left
  · intro wS hSw
    try dsimp only at hSw
    go_simp
    try with_reducible rfl
  try simp only [Act.put, List.setIfInBounds_toArray, List.set_cons_zero, List.set_cons_succ]
  refine wpAnyH_take (i := 3) (oi := ⟨_, _, _, _, _, _⟩) (v := ?_) rfl (by kernel_rfl) (by kernel_rfl) (by kernel_rfl) (fun _ _ _ h => h) (Or.inl ⟨by rfl, ?_⟩) (by assumption) ?_
  rotate_left
  · intro wS hSw
    try dsimp only at hSw
    go_simp
    try with_reducible rfl
  try simp only [Act.put, List.setIfInBounds_toArray, List.set_cons_zero, List.set_cons_succ]
  refine wpAnyH_take (i := 5) (oi := ⟨_, _, _, _, _, _⟩) (v := ?_) rfl (by kernel_rfl) (by kernel_rfl) (by kernel_rfl) (fun _ _ _ h => h) (Or.inl ⟨by rfl, ?_⟩) (by assumption) ?_
  rotate_left
  · intro wS hSw
    try dsimp only at hSw
    go_simp
    try with_reducible rfl
  try simp only [Act.put, List.setIfInBounds_toArray, List.set_cons_zero, List.set_cons_succ]
  refine wpAnyH_take (i := 6) (oi := ⟨_, _, _, _, _, _⟩) (v := ?_) rfl (by kernel_rfl) (by kernel_rfl) (by kernel_rfl) (fun _ _ _ h => h) (Or.inl ⟨by rfl, ?_⟩) (by assumption) ?_
  rotate_left
  · intro wS hSw
    try dsimp only at hSw
    go_simp
    try with_reducible rfl
  try simp only [Act.put, List.setIfInBounds_toArray, List.set_cons_zero, List.set_cons_succ]
  refine wpAnyH_take (i := 7) (oi := ⟨_, _, _, _, _, _⟩) (v := ?_) rfl (by kernel_rfl) (by kernel_rfl) (by kernel_rfl) (fun _ _ _ h => h) (Or.inl ⟨by rfl, ?_⟩) (by assumption) ?_
  rotate_left
  · intro wS hSw
    try dsimp only at hSw
    go_simp
    try with_reducible rfl
  try simp only [Act.put, List.setIfInBounds_toArray, List.set_cons_zero, List.set_cons_succ]
  refine wpAnyH_take (i := 8) (oi := ⟨_, _, _, _, _, _⟩) (v := ?_) rfl (by kernel_rfl) (by kernel_rfl) (by kernel_rfl) (fun _ _ _ h => h) (Or.inl ⟨by rfl, ?_⟩) (by assumption) ?_
  rotate_left
  · intro wS hSw
    try dsimp only at hSw
    go_simp
    try with_reducible rfl
  try simp only [Act.put, List.setIfInBounds_toArray, List.set_cons_zero, List.set_cons_succ]
  refine wpAnyH_ready (rs := [4]) (by kernel_rfl) (by simp) ?_
  refine AllReadyH.cons rfl (fun K hK => ?_) AllReadyH.nil
  go_simp
  refine (gate_any _ hM).mono ?_
  rintro e w2 ⟨rfl, hb2⟩
  have hB2 := below_push2 hB.drew hb2 (Nat.le_refl _)
  have B2 := (B1.drew).below hb2
  have BR := ((Blk.new w (accY 0 0 0 0) 39).drew).below hb2
  refine hK.out _ _ ⟨B2.at 0 rfl, B2.at 5 rfl⟩ (fun hHeld => ?_)
  clear hK K hb2
  refine wpAnyH_take (i := 9) (oi := ⟨_, _, _, _, _, _⟩) (v := ?_) rfl (by kernel_rfl) (by kernel_rfl) (by kernel_rfl) (fun _ _ _ h => h) (Or.inl ⟨by rfl, ?_⟩) (by assumption) ?_
  rotate_left
  · intro wS hSw
    try dsimp only at hSw
    go_simp
    try with_reducible rfl
  try simp only [Act.put, List.setIfInBounds_toArray, List.set_cons_zero, List.set_cons_succ]
  have B3 := (Fr.row (S := [w.heap.size]) (w := w2) w.heap.size (accY 3 (gateI A T) ver 0) (by simp)).blk B2 (by simpa using hne')
  refine wpAnyH_ready (rs := [10]) (by kernel_rfl) (by simp) ?_
  refine AllReadyH.cons rfl (fun K hK => ?_) AllReadyH.nil
  rw [if_pos (by rfl)]
  refine wp_store_row 39 _ _ rfl w.heap.size _ rfl rfl 39 _ BR.h (by kernel_rfl) (by rfl) (by kernel_rfl) ?_
  refine hK.out _ _ ?_ (fun hHeld => ?_)
  · exact ⟨B3.at 0 rfl, B3.at 5 rfl⟩
  clear hK K
  refine wpAnyH_take (i := 11) (oi := ⟨_, _, _, _, _, _⟩) (v := ?_) rfl (by kernel_rfl) (by kernel_rfl) (by kernel_rfl) (fun _ _ _ h => h) (Or.inl ⟨by rfl, ?_⟩) (by assumption) ?_
  rotate_left
  · intro wS hSw
    try dsimp only at hSw
    go_simp
    try with_reducible rfl
  try simp only [Act.put, List.setIfInBounds_toArray, List.set_cons_zero, List.set_cons_succ]
  refine wpAnyH_done (by kernel_rfl) ?_ _
  go_wp2_with fail
  refine bodyPost_ret (v := .tuple #[.agg (accY 3 (gateI A T) ver 0), .bool true]) (results_cell_tmp rfl _ _ w.heap.size 39 (accY 3 (gateI A T) ver 0) (0, 0) _ (.bool true) rfl rfl (Blk.row BR (accY 3 (gateI A T) ver 0)).h Try.underlying39 rfl (by kernel_rfl)) rfl ⟨rfl, below_setRow hB2 (by omega) _⟩
set_option maxRecDepth 100000 in
set_option maxHeartbeats 3200000 in
theorem kNext_3 {S : List Nat} {q : Hd} {l : List StepV} {o oc g gb gr A T : Nat} {L : List (Int × Int)} {bs rs : List (List Value)} (t : Nat) (hp s th x ver : Int) (done : Int) (tu en : Bool) (w : World) (h : MemAt w o oc g gb gr A T L bs rs) (B : Blk w t (carA (some ⟨o, 0, none⟩) hp s th x ver 3 (.slice q.a l.length q.c) done tu en) 100) (H : HRow Dp.stepT w S q l) (h0 : 0 < l.length) :
    Calls Try.prog 36 #[.pointer (some ⟨t, 0, none⟩)] w fun e w' => e = .returned (.tuple #[.agg (accY 3 (atI A T 0 (l.headD stepZ).cell) (l.headD stepZ).ver (l.headD stepZ).new), .bool true]) ∧ Below w.heap.size w w' := by
  obtain ⟨b, off, ha, hb, hn, hok, hr⟩ := step_cell H h0
  have hcap := H.le
  have hmx : (maxLen : Nat) = 9223372036854775807 := by unfold maxLen; rfl
  have hcm := H.cap
  rw [ha] at B
  obtain ⟨qa, qc⟩ := q
  simp only at B hcap ha hcm
  obtain ⟨i0, i1⟩ := hok.cell
  clear H ha hok hmx
  generalize l.headD stepZ = s1 at hr i0 i1 ⊢
  obtain ⟨sc, sv, so, sn, sl⟩ := s1
  generalize l.length = n at h0 B hcap
  have hn0 : (0 : Int) < (n : Int) := by omega
  simp only at i0 i1 ⊢
  have hB : Below w.heap.size w (w.alloc (.cells (accY 0 0 0 0) 39)) := by (repeat (first | exact Below.refl _ _ | assumption | refine below_alloc2 ?_ (by first | exact Nat.le_refl _ | omega) _ | refine Below.drew ?_ | refine below_drewN ?_ _ | refine below_push2 ?_ ‹_› (by first | exact Nat.le_refl _ | omega) | refine Below.setCell ?_ (by first | (simp; done) | (simp; omega) | omega) _))
  have h1 := h.below hB
  have B1 := B.below hB
  have hlt := B.lt
  have hne : ¬ w.heap.size = t := by omega
  have hne' : ¬ t = w.heap.size := by omega
  replace hr : (w.alloc (.cells (accY 0 0 0 0) 39)).rangeAt b off [.int .i64 sc, .int .u64 sv, .int .u64 so, .int .u64 sn, .bool sl] := rangeAt_below hb hr hB
  go_enter Try.func36, Try.ntmps36
  go_wp2_with fail
  refine (cnone_g t hp s th x ver 3 _ done tu en _ h1 B1 rfl).mono ?_
  rintro e w1 ⟨rfl, rfl⟩
  have c0 := B1.at 0 rfl
  have c6 := B1.at 6 rfl
  have c7 := B1.at 7 rfl
  have hBs : Below w.heap.size w ((w.alloc (.cells (accY 0 0 0 0) 39)).alloc (.cells #[.int .i64 sc, .int .u64 sv, .int .u64 so, .int .u64 sn, .bool sl] 94)) := by (repeat (first | exact Below.refl _ _ | assumption | refine below_alloc2 ?_ (by first | exact Nat.le_refl _ | omega) _ | refine Below.drew ?_ | refine below_drewN ?_ _ | refine below_push2 ?_ ‹_› (by first | exact Nat.le_refl _ | omega) | refine Below.setCell ?_ (by first | (simp; done) | (simp; omega) | omega) _))
  have hM := (h1.below ((Below.refl _ (w.alloc (.cells (accY 0 0 0 0) 39))).alloc (Nat.le_refl _) (.cells #[.int .i64 sc, .int .u64 sv, .int .u64 so, .int .u64 sn, .bool sl] 94))).below (Below.refl _ _).drew
  have BS : Blk ((w.alloc (.cells (accY 0 0 0 0) 39)).alloc (.cells #[.int .i64 sc, .int .u64 sv, .int .u64 so, .int .u64 sn, .bool sl] 94)) (w.heap.size + 1) #[.int .i64 sc, .int .u64 sv, .int .u64 so, .int .u64 sn, .bool sl] 94 := by
    have := Blk.new (w.alloc (.cells (accY 0 0 0 0) 39)) #[.int .i64 sc, .int .u64 sv, .int .u64 so, .int .u64 sn, .bool sl] 94
    simpa using this
  have B2 := B1.alloc (.cells #[.int .i64 sc, .int .u64 sv, .int .u64 so, .int .u64 sn, .bool sl] 94)
  have BR := (Blk.new w (accY 0 0 0 0) 39).alloc (.cells #[.int .i64 sc, .int .u64 sv, .int .u64 so, .int .u64 sn, .bool sl] 94)
  go_upto_region 10 with (first
    | (refine wpList_load_mid rfl 94 _ rfl b off rfl [.int .i64 sc, .int .u64 sv, .int .u64 so, .int .u64 sn, .bool sl] _ hr Try.underlying94 rfl (by kernel_rfl) ?_))
  generalize hW : (w.alloc (.cells (accY 0 0 0 0) 39)).alloc (.cells #[.int .i64 sc, .int .u64 sv, .int .u64 so, .int .u64 sn, .bool sl] 94) = w1 at hBs hM BS B2 BR ⊢
  have c0 : w1.cell? ⟨t, 0, none⟩ = some (.pointer (some ⟨o, 0, none⟩)) := B2.at 0 rfl
  have s0 := BS.at 0 rfl
  have s1 := BS.at 1 rfl
  have s3 := BS.at 3 rfl
  clear c6 c7 hr hW
  refine wp_region_held_drew (S := fun w' => w'.cell? ⟨t, 0, none⟩ = some (.pointer (some ⟨o, 0, none⟩)) ∧ w'.cell? ⟨w.heap.size + 1, 0, none⟩ = some (.int .i64 sc) ∧ w'.cell? ⟨w.heap.size + 1, 1, none⟩ = some (.int .u64 sv) ∧ w'.cell? ⟨w.heap.size + 1, 3, none⟩ = some (.int .u64 sn)) (by kernel_rfl) ?_ (fun hHeld => ?_)
  · exact ⟨c0, s0, s1, s3⟩
  refine wpAnyH_take (i := 0) (oi := ⟨_, _, _, _, _, _⟩) (v := ?_) rfl (by kernel_rfl) (by kernel_rfl) (by kernel_rfl) (fun _ _ _ h => h) (Or.inl ⟨by rfl, ?_⟩) (by assumption) ?_
  rotate_left
  · intro wS hSw
    try dsimp only at hSw
    go_simp
    try with_reducible rfl
  try simp only [Act.put, List.setIfInBounds_toArray, List.set_cons_zero, List.set_cons_succ]
  refine wpAnyH_take (i := 1) (oi := ⟨_, _, _, _, _, _⟩) (v := ?_) rfl (by kernel_rfl) (by kernel_rfl) (by kernel_rfl) (fun _ _ _ h => h) (Or.inl ⟨by rfl, ?_⟩) (by assumption) ?_
  rotate_left
  · intro wS hSw
    try dsimp only at hSw
    go_simp
    try with_reducible rfl
  try simp only [Act.put, List.setIfInBounds_toArray, List.set_cons_zero, List.set_cons_succ]
  refine wpAnyH_take (i := 2) (oi := ⟨_, _, _, _, _, _⟩) (v := ?_) rfl (by kernel_rfl) (by kernel_rfl) (by kernel_rfl) (fun _ _ _ h => h) (Or.inl ⟨by rfl, ?_⟩) (by assumption) ?_
  rotate_left
  · intro wS hSw
    try dsimp only at hSw
    go_simp
    try with_reducible rfl
  try simp only [Act.put, List.setIfInBounds_toArray, List.set_cons_zero, List.set_cons_succ]
  refine wpAnyH_take (i := 3) (oi := ⟨_, _, _, _, _, _⟩) (v := ?_) rfl (by kernel_rfl) (by kernel_rfl) (by kernel_rfl) (fun _ _ _ h => h) (Or.inl ⟨by rfl, ?_⟩) (by assumption) ?_
  rotate_left
  · intro wS hSw
    try dsimp only at hSw
    go_simp
    try with_reducible rfl
  try simp only [Act.put, List.setIfInBounds_toArray, List.set_cons_zero, List.set_cons_succ]
  refine wpAnyH_take (i := 4) (oi := ⟨_, _, _, _, _, _⟩) (v := ?_) rfl (by kernel_rfl) (by kernel_rfl) (by kernel_rfl) (fun _ _ _ h => h) (Or.inl ⟨by rfl, ?_⟩) (by assumption) ?_
  rotate_left
  · intro wS hSw
    try dsimp only at hSw
    go_simp
    try with_reducible rfl
  try simp only [Act.put, List.setIfInBounds_toArray, List.set_cons_zero, List.set_cons_succ]
  refine wpAnyH_take (i := 5) (oi := ⟨_, _, _, _, _, _⟩) (v := ?_) rfl (by kernel_rfl) (by kernel_rfl) (by kernel_rfl) (fun _ _ _ h => h) (Or.inl ⟨by rfl, ?_⟩) (by assumption) ?_
  rotate_left
  · intro wS hSw
    try dsimp only at hSw
    go_simp
    try with_reducible rfl
  try simp only [Act.put, List.setIfInBounds_toArray, List.set_cons_zero, List.set_cons_succ]
  refine wpAnyH_take (i := 7) (oi := ⟨_, _, _, _, _, _⟩) (v := ?_) rfl (by kernel_rfl) (by kernel_rfl) (by kernel_rfl) (fun _ _ _ h => h) (Or.inl ⟨by rfl, ?_⟩) (by assumption) ?_
  rotate_left
  · intro wS hSw
    try dsimp only at hSw
    go_simp
    try with_reducible rfl
  try simp only [Act.put, List.setIfInBounds_toArray, List.set_cons_zero, List.set_cons_succ]
  refine wpAnyH_take (i := 8) (oi := ⟨_, _, _, _, _, _⟩) (v := ?_) rfl (by kernel_rfl) (by kernel_rfl) (by kernel_rfl) (fun _ _ _ h => h) (Or.inl ⟨by rfl, ?_⟩) (by assumption) ?_
  rotate_left
  · intro wS hSw
    try dsimp only at hSw
    go_simp
    try with_reducible rfl
  try simp only [Act.put, List.setIfInBounds_toArray, List.set_cons_zero, List.set_cons_succ]
  refine wpAnyH_take (i := 9) (oi := ⟨_, _, _, _, _, _⟩) (v := ?_) rfl (by kernel_rfl) (by kernel_rfl) (by kernel_rfl) (fun _ _ _ h => h) (Or.inl ⟨by rfl, ?_⟩) (by assumption) ?_
  rotate_left
  · intro wS hSw
    try dsimp only at hSw
    go_simp
    try with_reducible rfl
  try simp only [Act.put, List.setIfInBounds_toArray, List.set_cons_zero, List.set_cons_succ]
  refine wpAnyH_take (i := 10) (oi := ⟨_, _, _, _, _, _⟩) (v := ?_) rfl (by kernel_rfl) (by kernel_rfl) (by kernel_rfl) (fun _ _ _ h => h) (Or.inl ⟨by rfl, ?_⟩) (by assumption) ?_
  rotate_left
  · intro wS hSw
    try dsimp only at hSw
    go_simp
    try with_reducible rfl
  try simp only [Act.put, List.setIfInBounds_toArray, List.set_cons_zero, List.set_cons_succ]
  refine wpAnyH_ready (rs := [6]) (by kernel_rfl) (by simp) ?_
  refine AllReadyH.cons rfl (fun K hK => ?_) AllReadyH.nil
  go_simp
  refine (node_any sc _ hM (by omega) (by omega)).mono ?_
  rintro e w2 ⟨rfl, hb2⟩
  have hB2 := below_push2 hBs.drew hb2 (Nat.le_refl _)
  have B3 := B2.drew.below hb2
  have BS2 := BS.drew.below hb2
  replace BR := BR.drew.below hb2
  refine hK.out _ _ ⟨B3.at 0 rfl, BS2.at 0 rfl, BS2.at 1 rfl, BS2.at 3 rfl⟩ (fun hHeld => ?_)
  clear hK K hb2
  refine wpAnyH_take (i := 11) (oi := ⟨_, _, _, _, _, _⟩) (v := ?_) rfl (by kernel_rfl) (by kernel_rfl) (by kernel_rfl) (fun _ _ _ h => h) (Or.inl ⟨by rfl, ?_⟩) (by assumption) ?_
  rotate_left
  · intro wS hSw
    try dsimp only at hSw
    go_simp
    try with_reducible rfl
  try simp only [Act.put, List.setIfInBounds_toArray, List.set_cons_zero, List.set_cons_succ]
  have F4 := Fr.row (S := [w.heap.size]) (w := w2) w.heap.size (accY 3 (atI A T 0 sc) sv sn) (by simp)
  have B4 := F4.blk B3 (by simpa using hne')
  have BS4 := F4.blk BS2 (by simp)
  refine wpAnyH_ready (rs := [12]) (by kernel_rfl) (by simp) ?_
  refine AllReadyH.cons rfl (fun K hK => ?_) AllReadyH.nil
  rw [if_pos (by rfl)]
  refine wp_store_row 39 _ _ rfl w.heap.size _ rfl rfl 39 _ BR.h (by kernel_rfl) (by rfl) (by kernel_rfl) ?_
  refine hK.out _ _ ?_ (fun hHeld => ?_)
  · exact ⟨B4.at 0 rfl, BS4.at 0 rfl, BS4.at 1 rfl, BS4.at 3 rfl⟩
  clear hK K
  refine wpAnyH_take (i := 13) (oi := ⟨_, _, _, _, _, _⟩) (v := ?_) rfl (by kernel_rfl) (by kernel_rfl) (by kernel_rfl) (fun _ _ _ h => h) (Or.inl ⟨by rfl, ?_⟩) (by assumption) ?_
  rotate_left
  · intro wS hSw
    try dsimp only at hSw
    go_simp
    try with_reducible rfl
  try simp only [Act.put, List.setIfInBounds_toArray, List.set_cons_zero, List.set_cons_succ]
  refine wpAnyH_done (by kernel_rfl) ?_ _
  go_wp2_with fail
  refine bodyPost_ret (v := .tuple #[.agg (accY 3 (atI A T 0 sc) sv sn), .bool true]) (results_cell_tmp rfl _ _ w.heap.size 39 (accY 3 (atI A T 0 sc) sv sn) (0, 0) _ (.bool true) rfl rfl (Blk.row BR (accY 3 (atI A T 0 sc) sv sn)).h Try.underlying39 rfl (by kernel_rfl)) rfl ⟨rfl, below_setRow hB2 (by omega) _⟩
set_option maxRecDepth 100000 in
set_option maxHeartbeats 3200000 in
theorem kNext_1 {o oc g gb gr A T : Nat} {L : List (Int × Int)} {bs rs : List (List Value)} (t : Nat) (hp s th x ver : Int) (st : Value) (done : Int) (tu en : Bool) (w : World) (h : MemAt w o oc g gb gr A T L bs rs) (B : Blk w t (carA (some ⟨o, 0, none⟩) hp s th x ver 1 st done tu en) 100) :
    Calls Try.prog 36 #[.pointer (some ⟨t, 0, none⟩)] w fun e w' => e = .returned (.tuple #[.agg (accY 1 (gateI A T) 0 0), .bool true]) ∧ Below w.heap.size w w' := by
  have hB : Below w.heap.size w (w.alloc (.cells (accY 0 0 0 0) 39)) := by (repeat (first | exact Below.refl _ _ | assumption | refine below_alloc2 ?_ (by first | exact Nat.le_refl _ | omega) _ | refine Below.drew ?_ | refine below_drewN ?_ _ | refine below_push2 ?_ ‹_› (by first | exact Nat.le_refl _ | omega) | refine Below.setCell ?_ (by first | (simp; done) | (simp; omega) | omega) _))
  have h1 := h.below hB
  have B1 := B.below hB
  have hlt := B.lt
  have hne : ¬ w.heap.size = t := by omega
  have hne' : ¬ t = w.heap.size := by omega
  go_enter Try.func36, Try.ntmps36
  go_wp2_with fail
  refine (cnone_g t hp s th x ver 1 st done tu en _ h1 B1 rfl).mono ?_
  rintro e w1 ⟨rfl, rfl⟩
  have c0 := B1.at 0 rfl
  have c1 := B1.at 1 rfl
  have c3 := B1.at 3 rfl
  have c4 := B1.at 4 rfl
  have c5 := B1.at 5 rfl
  have c6 := B1.at 6 rfl
  have c7 := B1.at 7 rfl
  have c8 := B1.at 8 rfl
  have hM := h1.below (Below.refl _ _).drew
  go_wp2_with fail
  refine (gate_any _ h1).mono ?_
  rintro e w2 ⟨rfl, hb2⟩
  have BR := (Blk.new w (accY 0 0 0 0) 39).below hb2
  replace hB := below_push2 hB hb2 (Nat.le_refl _)
  clear c0 c1 c3 c4 c5 c6 c7 c8 h1 B1 hb2
  go_wp2_with (refine wpList_store_row rfl 39 _ _ rfl w.heap.size _ rfl rfl 39 _ BR.h (by kernel_rfl) (by rfl) (by kernel_rfl) ?_)
  refine bodyPost_ret (v := .tuple #[.agg (accY 1 (gateI A T) 0 0), .bool true]) (results_cell_tmp rfl _ _ w.heap.size 39 (accY 1 (gateI A T) 0 0) (0, 0) _ (.bool true) rfl rfl (Blk.row BR (accY 1 (gateI A T) 0 0)).h Try.underlying39 rfl (by kernel_rfl)) rfl ⟨rfl, below_setRow hB (by omega) _⟩
set_option maxRecDepth 100000 in
set_option maxHeartbeats 3200000 in
theorem kNext_5 {o oc g gb gr A T : Nat} {L : List (Int × Int)} {bs rs : List (List Value)} (t : Nat) (hp s th x ver : Int) (st : Value) (done : Int) (tu en : Bool) (w : World) (h : MemAt w o oc g gb gr A T L bs rs) (B : Blk w t (carA (some ⟨o, 0, none⟩) hp s th x ver 5 st done tu en) 100) :
    Calls Try.prog 36 #[.pointer (some ⟨t, 0, none⟩)] w fun e w' => e = .returned (.tuple #[.agg (accY 1 (gateI A T) 0 0), .bool true]) ∧ Below w.heap.size w w' := by
  have hB : Below w.heap.size w (w.alloc (.cells (accY 0 0 0 0) 39)) := by (repeat (first | exact Below.refl _ _ | assumption | refine below_alloc2 ?_ (by first | exact Nat.le_refl _ | omega) _ | refine Below.drew ?_ | refine below_drewN ?_ _ | refine below_push2 ?_ ‹_› (by first | exact Nat.le_refl _ | omega) | refine Below.setCell ?_ (by first | (simp; done) | (simp; omega) | omega) _))
  have h1 := h.below hB
  have B1 := B.below hB
  have hlt := B.lt
  have hne : ¬ w.heap.size = t := by omega
  have hne' : ¬ t = w.heap.size := by omega
  go_enter Try.func36, Try.ntmps36
  go_wp2_with fail
  refine (cnone_g t hp s th x ver 5 st done tu en _ h1 B1 rfl).mono ?_
  rintro e w1 ⟨rfl, rfl⟩
  have c0 := B1.at 0 rfl
  have c1 := B1.at 1 rfl
  have c3 := B1.at 3 rfl
  have c4 := B1.at 4 rfl
  have c5 := B1.at 5 rfl
  have c6 := B1.at 6 rfl
  have c7 := B1.at 7 rfl
  have c8 := B1.at 8 rfl
  have hM := h1.below (Below.refl _ _).drew
  go_wp2_with fail
  refine (gate_any _ h1).mono ?_
  rintro e w2 ⟨rfl, hb2⟩
  have BR := (Blk.new w (accY 0 0 0 0) 39).below hb2
  replace hB := below_push2 hB hb2 (Nat.le_refl _)
  clear c0 c1 c3 c4 c5 c6 c7 c8 h1 B1 hb2
  go_wp2_with (refine wpList_store_row rfl 39 _ _ rfl w.heap.size _ rfl rfl 39 _ BR.h (by kernel_rfl) (by rfl) (by kernel_rfl) ?_)
  refine bodyPost_ret (v := .tuple #[.agg (accY 1 (gateI A T) 0 0), .bool true]) (results_cell_tmp rfl _ _ w.heap.size 39 (accY 1 (gateI A T) 0 0) (0, 0) _ (.bool true) rfl rfl (Blk.row BR (accY 1 (gateI A T) 0 0)).h Try.underlying39 rfl (by kernel_rfl)) rfl ⟨rfl, below_setRow hB (by omega) _⟩
end Go.Proofs.Ytpempcefgfmniaa.MemP

/-
  carry.Tell of any task, with any reply: contracts.
-/
namespace Go.Proofs.Ytpempcefgfmniaa.MemP
open Go.RowKit RefP CellP Dp
set_option linter.unusedVariables false
set_option linter.unusedSimpArgs false
set_option maxHeartbeats 800000 in
theorem cto_no (t : Nat) (a : Int) (cs : Array Value) (hs : 6 < cs.size) (w : World) (B : Blk w t cs 100) : Calls Try.prog 65 #[.pointer (some ⟨t, 0, none⟩), .int .i64 a, .bool false] w fun e w' => e = .returned (.tuple #[]) ∧ w' = w.setCell ⟨t, 6, none⟩ (.int .i64 8) := by
  have f6 := B.free 6
  have c6 := B.at 6 (Array.getElem?_eq_getElem hs)
  go_enter Try.func65, Try.ntmps65
  go_wp2_with fail
  go_end0
  exact ⟨rfl, rfl⟩
def KT (w : World) (o t : Nat) (hp s th x ver at_ : Int) (st : Value) (done : Int) (tu en : Bool) (e : Ending) (w' : World) : Prop :=
  e = .returned (.tuple #[]) ∧ Blk w' t (carA (some ⟨o, 0, none⟩) hp s th x ver at_ st done tu en) 100 ∧ Fr [t] w w'
set_option maxRecDepth 100000 in
set_option maxHeartbeats 3200000 in
theorem kTell_0 {o oc g gb gr A T : Nat} {L : List (Int × Int)} {bs rs : List (List Value)} (t : Nat) (hp s th x ver : Int) (st : Value) (done : Int) (tu en : Bool) (w : World) (h : MemAt w o oc g gb gr A T L bs rs) (hdis : ¬ o = t ∧ ¬ oc = t ∧ ¬ g = t ∧ ¬ gb = t ∧ ¬ gr = t) (B : Blk w t (carA (some ⟨o, 0, none⟩) hp s th x ver 0 st done tu en) 100) (qr : BlockH) (r : ReplyV) : Calls Try.prog 40 #[.pointer (some ⟨t, 0, none⟩), .agg (repA qr r)] w (KT w o t hp s th x ver 1 st done false en) := by
  have hlt := B.lt
  have hn1 : ¬ t = w.heap.size := by omega
  have hn3 : ¬ w.heap.size = t := by omega
  have c9 := B.at 9 rfl
  have f9 := B.free 9
  have F1 : Fr [t] w (w.setCell ⟨t, 9, none⟩ (.bool false)) := (Fr.refl _ _).set _ _ (.inl (by simp))
  have B1 : Blk (w.setCell ⟨t, 9, none⟩ (.bool false)) t (carA (some ⟨o, 0, none⟩) hp s th x ver 0 st done false en) 100 := by simpa [carA] using B.set 9 (.bool false)
  have h1 := h.off F1 (by simp; exact hdis)
  have hb0 : Below w.heap.size (w.setCell ⟨t, 9, none⟩ (.bool false)) ((w.setCell ⟨t, 9, none⟩ (.bool false)).alloc (.cells (repA qr r) 50)) := by
    have := (Below.refl _ (w.setCell ⟨t, 9, none⟩ (.bool false))).alloc (Nat.le_refl _) (.cells (repA qr r) 50)
    simpa using this
  have BQ2 : Blk ((w.setCell ⟨t, 9, none⟩ (.bool false)).alloc (.cells (repA qr r) 50)) w.heap.size (repA qr r) 50 := by
    have := Blk.new (w.setCell ⟨t, 9, none⟩ (.bool false)) (repA qr r) 50
    simpa using this
  have hsz : (w.setCell ⟨t, 9, none⟩ (.bool false)).heap.size = w.heap.size := by simp
  have B2 := B1.below (by rw [hsz]; exact hb0)
  have h2 := h1.below (by rw [hsz]; exact hb0)
  have F0 := F1.trans (Fr.of_below (S := [t]) (by rw [hsz]; exact hb0))
  clear F1 B1 h1 hb0 hsz
  go_enter Try.func40, Try.ntmps40
  go_wp2_with fail
  clear c9 f9
  generalize (w.setCell ⟨t, 9, none⟩ (.bool false)).alloc (.cells (repA qr r) 50) = w2 at F0 B2 BQ2 h2 ⊢
  refine (cnone_g t hp s th x ver 0 st done false en _ h2 B2 rfl).mono ?_
  rintro e w3 ⟨rfl, rfl⟩
  have f5 := B2.free 5
  have f6 := B2.free 6
  have f7 := B2.free 7
  have f8 := B2.free 8
  have f9 := B2.free 9
  have f10 := B2.free 10
  have c5 := B2.at 5 rfl
  have c6 := B2.at 6 rfl
  have c7 := B2.at 7 rfl
  have c8 := B2.at 8 rfl
  have c9 := B2.at 9 rfl
  have c10 := B2.at 10 rfl
  have r0 := BQ2.at 0 rfl
  have r1 := BQ2.at 1 rfl
  have r2 := BQ2.at 2 rfl
  have r3 := BQ2.at 3 rfl
  go_wp2_with fail
  go_end0
  exact ⟨rfl, by simpa [carA] using B2.set 6 (.int .i64 1), F0.trans ((Fr.refl _ _).set _ _ (.inl (by simp)))⟩
set_option maxRecDepth 100000 in
set_option maxHeartbeats 3200000 in
theorem kTell_6 {o oc g gb gr A T : Nat} {L : List (Int × Int)} {bs rs : List (List Value)} (t : Nat) (hp s th x ver : Int) (st : Value) (done : Int) (tu en : Bool) (w : World) (h : MemAt w o oc g gb gr A T L bs rs) (hdis : ¬ o = t ∧ ¬ oc = t ∧ ¬ g = t ∧ ¬ gb = t ∧ ¬ gr = t) (B : Blk w t (carA (some ⟨o, 0, none⟩) hp s th x ver 6 st done tu en) 100) (qr : BlockH) (r : ReplyV) : Calls Try.prog 40 #[.pointer (some ⟨t, 0, none⟩), .agg (repA qr r)] w (KT w o t hp s th x ver 7 st done false en) := by
  have hlt := B.lt
  have hn1 : ¬ t = w.heap.size := by omega
  have hn3 : ¬ w.heap.size = t := by omega
  have c9 := B.at 9 rfl
  have f9 := B.free 9
  have F1 : Fr [t] w (w.setCell ⟨t, 9, none⟩ (.bool false)) := (Fr.refl _ _).set _ _ (.inl (by simp))
  have B1 : Blk (w.setCell ⟨t, 9, none⟩ (.bool false)) t (carA (some ⟨o, 0, none⟩) hp s th x ver 6 st done false en) 100 := by simpa [carA] using B.set 9 (.bool false)
  have h1 := h.off F1 (by simp; exact hdis)
  have hb0 : Below w.heap.size (w.setCell ⟨t, 9, none⟩ (.bool false)) ((w.setCell ⟨t, 9, none⟩ (.bool false)).alloc (.cells (repA qr r) 50)) := by
    have := (Below.refl _ (w.setCell ⟨t, 9, none⟩ (.bool false))).alloc (Nat.le_refl _) (.cells (repA qr r) 50)
    simpa using this
  have BQ2 : Blk ((w.setCell ⟨t, 9, none⟩ (.bool false)).alloc (.cells (repA qr r) 50)) w.heap.size (repA qr r) 50 := by
    have := Blk.new (w.setCell ⟨t, 9, none⟩ (.bool false)) (repA qr r) 50
    simpa using this
  have hsz : (w.setCell ⟨t, 9, none⟩ (.bool false)).heap.size = w.heap.size := by simp
  have B2 := B1.below (by rw [hsz]; exact hb0)
  have h2 := h1.below (by rw [hsz]; exact hb0)
  have F0 := F1.trans (Fr.of_below (S := [t]) (by rw [hsz]; exact hb0))
  clear F1 B1 h1 hb0 hsz
  go_enter Try.func40, Try.ntmps40
  go_wp2_with fail
  clear c9 f9
  generalize (w.setCell ⟨t, 9, none⟩ (.bool false)).alloc (.cells (repA qr r) 50) = w2 at F0 B2 BQ2 h2 ⊢
  refine (cnone_g t hp s th x ver 6 st done false en _ h2 B2 rfl).mono ?_
  rintro e w3 ⟨rfl, rfl⟩
  have f5 := B2.free 5
  have f6 := B2.free 6
  have f7 := B2.free 7
  have f8 := B2.free 8
  have f9 := B2.free 9
  have f10 := B2.free 10
  have c5 := B2.at 5 rfl
  have c6 := B2.at 6 rfl
  have c7 := B2.at 7 rfl
  have c8 := B2.at 8 rfl
  have c9 := B2.at 9 rfl
  have c10 := B2.at 10 rfl
  have r0 := BQ2.at 0 rfl
  have r1 := BQ2.at 1 rfl
  have r2 := BQ2.at 2 rfl
  have r3 := BQ2.at 3 rfl
  go_wp2_with fail
  go_end0
  exact ⟨rfl, by simpa [carA] using B2.set 6 (.int .i64 7), F0.trans ((Fr.refl _ _).set _ _ (.inl (by simp)))⟩
set_option maxRecDepth 100000 in
set_option maxHeartbeats 3200000 in
theorem kTell_7 {o oc g gb gr A T : Nat} {L : List (Int × Int)} {bs rs : List (List Value)} (t : Nat) (hp s th x ver : Int) (st : Value) (done : Int) (tu en : Bool) (w : World) (h : MemAt w o oc g gb gr A T L bs rs) (hdis : ¬ o = t ∧ ¬ oc = t ∧ ¬ g = t ∧ ¬ gb = t ∧ ¬ gr = t) (B : Blk w t (carA (some ⟨o, 0, none⟩) hp s th x ver 7 st done tu en) 100) (qr : BlockH) (r : ReplyV) : Calls Try.prog 40 #[.pointer (some ⟨t, 0, none⟩), .agg (repA qr r)] w (KT w o t hp s th x ver 8 st done false r.ok) := by
  have hlt := B.lt
  have hn1 : ¬ t = w.heap.size := by omega
  have hn3 : ¬ w.heap.size = t := by omega
  have c9 := B.at 9 rfl
  have f9 := B.free 9
  have F1 : Fr [t] w (w.setCell ⟨t, 9, none⟩ (.bool false)) := (Fr.refl _ _).set _ _ (.inl (by simp))
  have B1 : Blk (w.setCell ⟨t, 9, none⟩ (.bool false)) t (carA (some ⟨o, 0, none⟩) hp s th x ver 7 st done false en) 100 := by simpa [carA] using B.set 9 (.bool false)
  have h1 := h.off F1 (by simp; exact hdis)
  have hb0 : Below w.heap.size (w.setCell ⟨t, 9, none⟩ (.bool false)) ((w.setCell ⟨t, 9, none⟩ (.bool false)).alloc (.cells (repA qr r) 50)) := by
    have := (Below.refl _ (w.setCell ⟨t, 9, none⟩ (.bool false))).alloc (Nat.le_refl _) (.cells (repA qr r) 50)
    simpa using this
  have BQ2 : Blk ((w.setCell ⟨t, 9, none⟩ (.bool false)).alloc (.cells (repA qr r) 50)) w.heap.size (repA qr r) 50 := by
    have := Blk.new (w.setCell ⟨t, 9, none⟩ (.bool false)) (repA qr r) 50
    simpa using this
  have hsz : (w.setCell ⟨t, 9, none⟩ (.bool false)).heap.size = w.heap.size := by simp
  have B2 := B1.below (by rw [hsz]; exact hb0)
  have h2 := h1.below (by rw [hsz]; exact hb0)
  have F0 := F1.trans (Fr.of_below (S := [t]) (by rw [hsz]; exact hb0))
  clear F1 B1 h1 hb0 hsz
  go_enter Try.func40, Try.ntmps40
  go_wp2_with fail
  clear c9 f9
  generalize (w.setCell ⟨t, 9, none⟩ (.bool false)).alloc (.cells (repA qr r) 50) = w2 at F0 B2 BQ2 h2 ⊢
  refine (cnone_g t hp s th x ver 7 st done false en _ h2 B2 rfl).mono ?_
  rintro e w3 ⟨rfl, rfl⟩
  have f5 := B2.free 5
  have f6 := B2.free 6
  have f7 := B2.free 7
  have f8 := B2.free 8
  have f9 := B2.free 9
  have f10 := B2.free 10
  have c5 := B2.at 5 rfl
  have c6 := B2.at 6 rfl
  have c7 := B2.at 7 rfl
  have c8 := B2.at 8 rfl
  have c9 := B2.at 9 rfl
  have c10 := B2.at 10 rfl
  have r0 := BQ2.at 0 rfl
  have r1 := BQ2.at 1 rfl
  have r2 := BQ2.at 2 rfl
  have r3 := BQ2.at 3 rfl
  go_wp2_with fail
  go_end0
  exact ⟨rfl, by simpa [carA] using (B2.set 10 (.bool r.ok)).set 6 (.int .i64 8), F0.trans (((Fr.refl _ _).set _ _ (.inl (by simp))).set _ _ (.inl (by simp)))⟩
set_option maxRecDepth 100000 in
set_option maxHeartbeats 3200000 in
theorem kTell_4no {o oc g gb gr A T : Nat} {L : List (Int × Int)} {bs rs : List (List Value)} (t : Nat) (hp s th x ver : Int) (st : Value) (done : Int) (tu en : Bool) (w : World) (h : MemAt w o oc g gb gr A T L bs rs) (hdis : ¬ o = t ∧ ¬ oc = t ∧ ¬ g = t ∧ ¬ gb = t ∧ ¬ gr = t) (B : Blk w t (carA (some ⟨o, 0, none⟩) hp s th x ver 4 st done tu en) 100) (qr : BlockH) (r : ReplyV) (hr : r.word ≠ 0) : Calls Try.prog 40 #[.pointer (some ⟨t, 0, none⟩), .agg (repA qr r)] w (KT w o t hp s th x ver 7 st r.ver false en) := by
  have q1 : (r.word == 0) = false := by simpa using hr
  clear hr
  have hlt := B.lt
  have hn1 : ¬ t = w.heap.size := by omega
  have hn3 : ¬ w.heap.size = t := by omega
  have c9 := B.at 9 rfl
  have f9 := B.free 9
  have F1 : Fr [t] w (w.setCell ⟨t, 9, none⟩ (.bool false)) := (Fr.refl _ _).set _ _ (.inl (by simp))
  have B1 : Blk (w.setCell ⟨t, 9, none⟩ (.bool false)) t (carA (some ⟨o, 0, none⟩) hp s th x ver 4 st done false en) 100 := by simpa [carA] using B.set 9 (.bool false)
  have h1 := h.off F1 (by simp; exact hdis)
  have hb0 : Below w.heap.size (w.setCell ⟨t, 9, none⟩ (.bool false)) ((w.setCell ⟨t, 9, none⟩ (.bool false)).alloc (.cells (repA qr r) 50)) := by
    have := (Below.refl _ (w.setCell ⟨t, 9, none⟩ (.bool false))).alloc (Nat.le_refl _) (.cells (repA qr r) 50)
    simpa using this
  have BQ2 : Blk ((w.setCell ⟨t, 9, none⟩ (.bool false)).alloc (.cells (repA qr r) 50)) w.heap.size (repA qr r) 50 := by
    have := Blk.new (w.setCell ⟨t, 9, none⟩ (.bool false)) (repA qr r) 50
    simpa using this
  have hsz : (w.setCell ⟨t, 9, none⟩ (.bool false)).heap.size = w.heap.size := by simp
  have B2 := B1.below (by rw [hsz]; exact hb0)
  have h2 := h1.below (by rw [hsz]; exact hb0)
  have F0 := F1.trans (Fr.of_below (S := [t]) (by rw [hsz]; exact hb0))
  clear F1 B1 h1 hb0 hsz
  go_enter Try.func40, Try.ntmps40
  go_wp2_with fail
  clear c9 f9
  generalize (w.setCell ⟨t, 9, none⟩ (.bool false)).alloc (.cells (repA qr r) 50) = w2 at F0 B2 BQ2 h2 ⊢
  refine (cnone_g t hp s th x ver 4 st done false en _ h2 B2 rfl).mono ?_
  rintro e w3 ⟨rfl, rfl⟩
  have f5 := B2.free 5
  have f6 := B2.free 6
  have f7 := B2.free 7
  have f8 := B2.free 8
  have f9 := B2.free 9
  have f10 := B2.free 10
  have c5 := B2.at 5 rfl
  have c6 := B2.at 6 rfl
  have c7 := B2.at 7 rfl
  have c8 := B2.at 8 rfl
  have c9 := B2.at 9 rfl
  have c10 := B2.at 10 rfl
  have r0 := BQ2.at 0 rfl
  have r1 := BQ2.at 1 rfl
  have r2 := BQ2.at 2 rfl
  have r3 := BQ2.at 3 rfl
  go_wp2_with fail
  go_end0
  exact ⟨rfl, by simpa [carA] using (B2.set 8 (.int .u64 r.ver)).set 6 (.int .i64 7), F0.trans (((Fr.refl _ _).set _ _ (.inl (by simp))).set _ _ (.inl (by simp)))⟩
set_option maxRecDepth 100000 in
set_option maxHeartbeats 3200000 in
theorem kTell_4 {o oc g gb gr A T : Nat} {L : List (Int × Int)} {bs rs : List (List Value)} (t : Nat) (hp s th x ver : Int) (st : Value) (done : Int) (tu en : Bool) (w : World) (h : MemAt w o oc g gb gr A T L bs rs) (hdis : ¬ o = t ∧ ¬ oc = t ∧ ¬ g = t ∧ ¬ gb = t ∧ ¬ gr = t) (B : Blk w t (carA (some ⟨o, 0, none⟩) hp s th x ver 4 st done tu en) 100) (qr : BlockH) (r : ReplyV) (hr : r.word = 0) : Calls Try.prog 40 #[.pointer (some ⟨t, 0, none⟩), .agg (repA qr r)] w (KT w o t hp s th x ver 5 st r.ver false en) := by
  have q1 : (r.word == 0) = true := by simpa using hr
  clear hr
  have hlt := B.lt
  have hn1 : ¬ t = w.heap.size := by omega
  have hn3 : ¬ w.heap.size = t := by omega
  have c9 := B.at 9 rfl
  have f9 := B.free 9
  have F1 : Fr [t] w (w.setCell ⟨t, 9, none⟩ (.bool false)) := (Fr.refl _ _).set _ _ (.inl (by simp))
  have B1 : Blk (w.setCell ⟨t, 9, none⟩ (.bool false)) t (carA (some ⟨o, 0, none⟩) hp s th x ver 4 st done false en) 100 := by simpa [carA] using B.set 9 (.bool false)
  have h1 := h.off F1 (by simp; exact hdis)
  have hb0 : Below w.heap.size (w.setCell ⟨t, 9, none⟩ (.bool false)) ((w.setCell ⟨t, 9, none⟩ (.bool false)).alloc (.cells (repA qr r) 50)) := by
    have := (Below.refl _ (w.setCell ⟨t, 9, none⟩ (.bool false))).alloc (Nat.le_refl _) (.cells (repA qr r) 50)
    simpa using this
  have BQ2 : Blk ((w.setCell ⟨t, 9, none⟩ (.bool false)).alloc (.cells (repA qr r) 50)) w.heap.size (repA qr r) 50 := by
    have := Blk.new (w.setCell ⟨t, 9, none⟩ (.bool false)) (repA qr r) 50
    simpa using this
  have hsz : (w.setCell ⟨t, 9, none⟩ (.bool false)).heap.size = w.heap.size := by simp
  have B2 := B1.below (by rw [hsz]; exact hb0)
  have h2 := h1.below (by rw [hsz]; exact hb0)
  have F0 := F1.trans (Fr.of_below (S := [t]) (by rw [hsz]; exact hb0))
  clear F1 B1 h1 hb0 hsz
  go_enter Try.func40, Try.ntmps40
  go_wp2_with fail
  clear c9 f9
  generalize (w.setCell ⟨t, 9, none⟩ (.bool false)).alloc (.cells (repA qr r) 50) = w2 at F0 B2 BQ2 h2 ⊢
  refine (cnone_g t hp s th x ver 4 st done false en _ h2 B2 rfl).mono ?_
  rintro e w3 ⟨rfl, rfl⟩
  have f5 := B2.free 5
  have f6 := B2.free 6
  have f7 := B2.free 7
  have f8 := B2.free 8
  have f9 := B2.free 9
  have f10 := B2.free 10
  have c5 := B2.at 5 rfl
  have c6 := B2.at 6 rfl
  have c7 := B2.at 7 rfl
  have c8 := B2.at 8 rfl
  have c9 := B2.at 9 rfl
  have c10 := B2.at 10 rfl
  have r0 := BQ2.at 0 rfl
  have r1 := BQ2.at 1 rfl
  have r2 := BQ2.at 2 rfl
  have r3 := BQ2.at 3 rfl
  go_wp2_with fail
  go_end0
  exact ⟨rfl, by simpa [carA] using ((B2.set 8 (.int .u64 r.ver)).set 6 (.int .i64 7)).set 6 (.int .i64 5), F0.trans ((((Fr.refl _ _).set _ _ (.inl (by simp))).set _ _ (.inl (by simp))).set _ _ (.inl (by simp)))⟩
set_option maxRecDepth 100000 in
set_option maxHeartbeats 3200000 in
theorem kTell_1 {o oc g gb gr A T : Nat} {L : List (Int × Int)} {bs rs : List (List Value)} (t : Nat) (hp s th x ver : Int) (st : Value) (done : Int) (tu en : Bool) (w : World) (h : MemAt w o oc g gb gr A T L bs rs) (hdis : ¬ o = t ∧ ¬ oc = t ∧ ¬ g = t ∧ ¬ gb = t ∧ ¬ gr = t) (B : Blk w t (carA (some ⟨o, 0, none⟩) hp s th x ver 1 st done tu en) 100) (qr : BlockH) (r : ReplyV) (hr : r.ver = ver) : Calls Try.prog 40 #[.pointer (some ⟨t, 0, none⟩), .agg (repA qr r)] w (KT w o t hp s th x ver 2 st done false en) := by
  have q1 : (r.ver == ver) = true := by simpa using hr
  clear hr
  have hlt := B.lt
  have hn1 : ¬ t = w.heap.size := by omega
  have hn3 : ¬ w.heap.size = t := by omega
  have c9 := B.at 9 rfl
  have f9 := B.free 9
  have F1 : Fr [t] w (w.setCell ⟨t, 9, none⟩ (.bool false)) := (Fr.refl _ _).set _ _ (.inl (by simp))
  have B1 : Blk (w.setCell ⟨t, 9, none⟩ (.bool false)) t (carA (some ⟨o, 0, none⟩) hp s th x ver 1 st done false en) 100 := by simpa [carA] using B.set 9 (.bool false)
  have h1 := h.off F1 (by simp; exact hdis)
  have hb0 : Below w.heap.size (w.setCell ⟨t, 9, none⟩ (.bool false)) ((w.setCell ⟨t, 9, none⟩ (.bool false)).alloc (.cells (repA qr r) 50)) := by
    have := (Below.refl _ (w.setCell ⟨t, 9, none⟩ (.bool false))).alloc (Nat.le_refl _) (.cells (repA qr r) 50)
    simpa using this
  have BQ2 : Blk ((w.setCell ⟨t, 9, none⟩ (.bool false)).alloc (.cells (repA qr r) 50)) w.heap.size (repA qr r) 50 := by
    have := Blk.new (w.setCell ⟨t, 9, none⟩ (.bool false)) (repA qr r) 50
    simpa using this
  have hsz : (w.setCell ⟨t, 9, none⟩ (.bool false)).heap.size = w.heap.size := by simp
  have B2 := B1.below (by rw [hsz]; exact hb0)
  have h2 := h1.below (by rw [hsz]; exact hb0)
  have F0 := F1.trans (Fr.of_below (S := [t]) (by rw [hsz]; exact hb0))
  clear F1 B1 h1 hb0 hsz
  go_enter Try.func40, Try.ntmps40
  go_wp2_with fail
  clear c9 f9
  generalize (w.setCell ⟨t, 9, none⟩ (.bool false)).alloc (.cells (repA qr r) 50) = w2 at F0 B2 BQ2 h2 ⊢
  refine (cnone_g t hp s th x ver 1 st done false en _ h2 B2 rfl).mono ?_
  rintro e w3 ⟨rfl, rfl⟩
  have f5 := B2.free 5
  have f6 := B2.free 6
  have f7 := B2.free 7
  have f8 := B2.free 8
  have f9 := B2.free 9
  have f10 := B2.free 10
  have c5 := B2.at 5 rfl
  have c6 := B2.at 6 rfl
  have c7 := B2.at 7 rfl
  have c8 := B2.at 8 rfl
  have c9 := B2.at 9 rfl
  have c10 := B2.at 10 rfl
  have r0 := BQ2.at 0 rfl
  have r1 := BQ2.at 1 rfl
  have r2 := BQ2.at 2 rfl
  have r3 := BQ2.at 3 rfl
  go_upto_region 11 with (fail)
  go_still_tail 8, (by kernel_rfl)
  go_wp2_with fail
  refine (cto_yes t 2 (carA (some ⟨o, 0, none⟩) hp s th x ver 1 st done false en) (show 6 < 11 by decide) _ B2.drew).mono ?_
  rintro e w2 ⟨rfl, rfl⟩
  go_wp2_with fail
  go_end0
  exact ⟨rfl, by simpa [carA] using ((B2.set 6 (.int .i64 8)).set 6 (.int .i64 2)).drew, (F0.trans (((Fr.refl _ _).set _ _ (.inl (by simp))).set _ _ (.inl (by simp)))).trans (Fr.of_below (Below.refl _ _).drew)⟩
set_option maxRecDepth 100000 in
set_option maxHeartbeats 3200000 in
theorem kTell_1no {o oc g gb gr A T : Nat} {L : List (Int × Int)} {bs rs : List (List Value)} (t : Nat) (hp s th x ver : Int) (st : Value) (done : Int) (tu en : Bool) (w : World) (h : MemAt w o oc g gb gr A T L bs rs) (hdis : ¬ o = t ∧ ¬ oc = t ∧ ¬ g = t ∧ ¬ gb = t ∧ ¬ gr = t) (B : Blk w t (carA (some ⟨o, 0, none⟩) hp s th x ver 1 st done tu en) 100) (qr : BlockH) (r : ReplyV) (hr : r.ver ≠ ver) : Calls Try.prog 40 #[.pointer (some ⟨t, 0, none⟩), .agg (repA qr r)] w (KT w o t hp s th x ver 8 st done false en) := by
  have q1 : (r.ver == ver) = false := by simpa using hr
  clear hr
  have hlt := B.lt
  have hn1 : ¬ t = w.heap.size := by omega
  have hn3 : ¬ w.heap.size = t := by omega
  have c9 := B.at 9 rfl
  have f9 := B.free 9
  have F1 : Fr [t] w (w.setCell ⟨t, 9, none⟩ (.bool false)) := (Fr.refl _ _).set _ _ (.inl (by simp))
  have B1 : Blk (w.setCell ⟨t, 9, none⟩ (.bool false)) t (carA (some ⟨o, 0, none⟩) hp s th x ver 1 st done false en) 100 := by simpa [carA] using B.set 9 (.bool false)
  have h1 := h.off F1 (by simp; exact hdis)
  have hb0 : Below w.heap.size (w.setCell ⟨t, 9, none⟩ (.bool false)) ((w.setCell ⟨t, 9, none⟩ (.bool false)).alloc (.cells (repA qr r) 50)) := by
    have := (Below.refl _ (w.setCell ⟨t, 9, none⟩ (.bool false))).alloc (Nat.le_refl _) (.cells (repA qr r) 50)
    simpa using this
  have BQ2 : Blk ((w.setCell ⟨t, 9, none⟩ (.bool false)).alloc (.cells (repA qr r) 50)) w.heap.size (repA qr r) 50 := by
    have := Blk.new (w.setCell ⟨t, 9, none⟩ (.bool false)) (repA qr r) 50
    simpa using this
  have hsz : (w.setCell ⟨t, 9, none⟩ (.bool false)).heap.size = w.heap.size := by simp
  have B2 := B1.below (by rw [hsz]; exact hb0)
  have h2 := h1.below (by rw [hsz]; exact hb0)
  have F0 := F1.trans (Fr.of_below (S := [t]) (by rw [hsz]; exact hb0))
  clear F1 B1 h1 hb0 hsz
  go_enter Try.func40, Try.ntmps40
  go_wp2_with fail
  clear c9 f9
  generalize (w.setCell ⟨t, 9, none⟩ (.bool false)).alloc (.cells (repA qr r) 50) = w2 at F0 B2 BQ2 h2 ⊢
  refine (cnone_g t hp s th x ver 1 st done false en _ h2 B2 rfl).mono ?_
  rintro e w3 ⟨rfl, rfl⟩
  have f5 := B2.free 5
  have f6 := B2.free 6
  have f7 := B2.free 7
  have f8 := B2.free 8
  have f9 := B2.free 9
  have f10 := B2.free 10
  have c5 := B2.at 5 rfl
  have c6 := B2.at 6 rfl
  have c7 := B2.at 7 rfl
  have c8 := B2.at 8 rfl
  have c9 := B2.at 9 rfl
  have c10 := B2.at 10 rfl
  have r0 := BQ2.at 0 rfl
  have r1 := BQ2.at 1 rfl
  have r2 := BQ2.at 2 rfl
  have r3 := BQ2.at 3 rfl
  go_upto_region 11 with (fail)
  go_still_tail 8, (by kernel_rfl)
  go_wp2_with fail
  refine (cto_no t 2 (carA (some ⟨o, 0, none⟩) hp s th x ver 1 st done false en) (show 6 < 11 by decide) _ B2.drew).mono ?_
  rintro e w2 ⟨rfl, rfl⟩
  go_wp2_with fail
  go_end0
  exact ⟨rfl, by simpa [carA] using (B2.set 6 (.int .i64 8)).drew, (F0.trans ((Fr.refl _ _).set _ _ (.inl (by simp)))).trans (Fr.of_below (Below.refl _ _).drew)⟩
set_option maxRecDepth 100000 in
set_option maxHeartbeats 3200000 in
theorem kTell_5 {o oc g gb gr A T : Nat} {L : List (Int × Int)} {bs rs : List (List Value)} (t : Nat) (hp s th x ver : Int) (st : Value) (done : Int) (tu en : Bool) (w : World) (h : MemAt w o oc g gb gr A T L bs rs) (hdis : ¬ o = t ∧ ¬ oc = t ∧ ¬ g = t ∧ ¬ gb = t ∧ ¬ gr = t) (B : Blk w t (carA (some ⟨o, 0, none⟩) hp s th x ver 5 st done tu en) 100) (qr : BlockH) (r : ReplyV) (hr : r.ver = ver) : Calls Try.prog 40 #[.pointer (some ⟨t, 0, none⟩), .agg (repA qr r)] w (KT w o t hp s th x ver 6 st done false en) := by
  have q1 : (r.ver == ver) = true := by simpa using hr
  clear hr
  have hlt := B.lt
  have hn1 : ¬ t = w.heap.size := by omega
  have hn3 : ¬ w.heap.size = t := by omega
  have c9 := B.at 9 rfl
  have f9 := B.free 9
  have F1 : Fr [t] w (w.setCell ⟨t, 9, none⟩ (.bool false)) := (Fr.refl _ _).set _ _ (.inl (by simp))
  have B1 : Blk (w.setCell ⟨t, 9, none⟩ (.bool false)) t (carA (some ⟨o, 0, none⟩) hp s th x ver 5 st done false en) 100 := by simpa [carA] using B.set 9 (.bool false)
  have h1 := h.off F1 (by simp; exact hdis)
  have hb0 : Below w.heap.size (w.setCell ⟨t, 9, none⟩ (.bool false)) ((w.setCell ⟨t, 9, none⟩ (.bool false)).alloc (.cells (repA qr r) 50)) := by
    have := (Below.refl _ (w.setCell ⟨t, 9, none⟩ (.bool false))).alloc (Nat.le_refl _) (.cells (repA qr r) 50)
    simpa using this
  have BQ2 : Blk ((w.setCell ⟨t, 9, none⟩ (.bool false)).alloc (.cells (repA qr r) 50)) w.heap.size (repA qr r) 50 := by
    have := Blk.new (w.setCell ⟨t, 9, none⟩ (.bool false)) (repA qr r) 50
    simpa using this
  have hsz : (w.setCell ⟨t, 9, none⟩ (.bool false)).heap.size = w.heap.size := by simp
  have B2 := B1.below (by rw [hsz]; exact hb0)
  have h2 := h1.below (by rw [hsz]; exact hb0)
  have F0 := F1.trans (Fr.of_below (S := [t]) (by rw [hsz]; exact hb0))
  clear F1 B1 h1 hb0 hsz
  go_enter Try.func40, Try.ntmps40
  go_wp2_with fail
  clear c9 f9
  generalize (w.setCell ⟨t, 9, none⟩ (.bool false)).alloc (.cells (repA qr r) 50) = w2 at F0 B2 BQ2 h2 ⊢
  refine (cnone_g t hp s th x ver 5 st done false en _ h2 B2 rfl).mono ?_
  rintro e w3 ⟨rfl, rfl⟩
  have f5 := B2.free 5
  have f6 := B2.free 6
  have f7 := B2.free 7
  have f8 := B2.free 8
  have f9 := B2.free 9
  have f10 := B2.free 10
  have c5 := B2.at 5 rfl
  have c6 := B2.at 6 rfl
  have c7 := B2.at 7 rfl
  have c8 := B2.at 8 rfl
  have c9 := B2.at 9 rfl
  have c10 := B2.at 10 rfl
  have r0 := BQ2.at 0 rfl
  have r1 := BQ2.at 1 rfl
  have r2 := BQ2.at 2 rfl
  have r3 := BQ2.at 3 rfl
  go_upto_region 24 with (fail)
  go_still_tail 8, (by kernel_rfl)
  go_wp2_with fail
  refine (cto_yes t 6 (carA (some ⟨o, 0, none⟩) hp s th x ver 5 st done false en) (show 6 < 11 by decide) _ B2.drew).mono ?_
  rintro e w2 ⟨rfl, rfl⟩
  go_wp2_with fail
  go_end0
  exact ⟨rfl, by simpa [carA] using ((B2.set 6 (.int .i64 8)).set 6 (.int .i64 6)).drew, (F0.trans (((Fr.refl _ _).set _ _ (.inl (by simp))).set _ _ (.inl (by simp)))).trans (Fr.of_below (Below.refl _ _).drew)⟩
set_option maxRecDepth 100000 in
set_option maxHeartbeats 3200000 in
theorem kTell_5no {o oc g gb gr A T : Nat} {L : List (Int × Int)} {bs rs : List (List Value)} (t : Nat) (hp s th x ver : Int) (st : Value) (done : Int) (tu en : Bool) (w : World) (h : MemAt w o oc g gb gr A T L bs rs) (hdis : ¬ o = t ∧ ¬ oc = t ∧ ¬ g = t ∧ ¬ gb = t ∧ ¬ gr = t) (B : Blk w t (carA (some ⟨o, 0, none⟩) hp s th x ver 5 st done tu en) 100) (qr : BlockH) (r : ReplyV) (hr : r.ver ≠ ver) : Calls Try.prog 40 #[.pointer (some ⟨t, 0, none⟩), .agg (repA qr r)] w (KT w o t hp s th x ver 8 st done false en) := by
  have q1 : (r.ver == ver) = false := by simpa using hr
  clear hr
  have hlt := B.lt
  have hn1 : ¬ t = w.heap.size := by omega
  have hn3 : ¬ w.heap.size = t := by omega
  have c9 := B.at 9 rfl
  have f9 := B.free 9
  have F1 : Fr [t] w (w.setCell ⟨t, 9, none⟩ (.bool false)) := (Fr.refl _ _).set _ _ (.inl (by simp))
  have B1 : Blk (w.setCell ⟨t, 9, none⟩ (.bool false)) t (carA (some ⟨o, 0, none⟩) hp s th x ver 5 st done false en) 100 := by simpa [carA] using B.set 9 (.bool false)
  have h1 := h.off F1 (by simp; exact hdis)
  have hb0 : Below w.heap.size (w.setCell ⟨t, 9, none⟩ (.bool false)) ((w.setCell ⟨t, 9, none⟩ (.bool false)).alloc (.cells (repA qr r) 50)) := by
    have := (Below.refl _ (w.setCell ⟨t, 9, none⟩ (.bool false))).alloc (Nat.le_refl _) (.cells (repA qr r) 50)
    simpa using this
  have BQ2 : Blk ((w.setCell ⟨t, 9, none⟩ (.bool false)).alloc (.cells (repA qr r) 50)) w.heap.size (repA qr r) 50 := by
    have := Blk.new (w.setCell ⟨t, 9, none⟩ (.bool false)) (repA qr r) 50
    simpa using this
  have hsz : (w.setCell ⟨t, 9, none⟩ (.bool false)).heap.size = w.heap.size := by simp
  have B2 := B1.below (by rw [hsz]; exact hb0)
  have h2 := h1.below (by rw [hsz]; exact hb0)
  have F0 := F1.trans (Fr.of_below (S := [t]) (by rw [hsz]; exact hb0))
  clear F1 B1 h1 hb0 hsz
  go_enter Try.func40, Try.ntmps40
  go_wp2_with fail
  clear c9 f9
  generalize (w.setCell ⟨t, 9, none⟩ (.bool false)).alloc (.cells (repA qr r) 50) = w2 at F0 B2 BQ2 h2 ⊢
  refine (cnone_g t hp s th x ver 5 st done false en _ h2 B2 rfl).mono ?_
  rintro e w3 ⟨rfl, rfl⟩
  have f5 := B2.free 5
  have f6 := B2.free 6
  have f7 := B2.free 7
  have f8 := B2.free 8
  have f9 := B2.free 9
  have f10 := B2.free 10
  have c5 := B2.at 5 rfl
  have c6 := B2.at 6 rfl
  have c7 := B2.at 7 rfl
  have c8 := B2.at 8 rfl
  have c9 := B2.at 9 rfl
  have c10 := B2.at 10 rfl
  have r0 := BQ2.at 0 rfl
  have r1 := BQ2.at 1 rfl
  have r2 := BQ2.at 2 rfl
  have r3 := BQ2.at 3 rfl
  go_upto_region 24 with (fail)
  go_still_tail 8, (by kernel_rfl)
  go_wp2_with fail
  refine (cto_no t 6 (carA (some ⟨o, 0, none⟩) hp s th x ver 5 st done false en) (show 6 < 11 by decide) _ B2.drew).mono ?_
  rintro e w2 ⟨rfl, rfl⟩
  go_wp2_with fail
  go_end0
  exact ⟨rfl, by simpa [carA] using (B2.set 6 (.int .i64 8)).drew, (F0.trans ((Fr.refl _ _).set _ _ (.inl (by simp)))).trans (Fr.of_below (Below.refl _ _).drew)⟩
set_option maxRecDepth 100000 in
set_option maxHeartbeats 3200000 in
theorem kTell_2no {o oc g gb gr A T : Nat} {L : List (Int × Int)} {bs rs : List (List Value)} (t : Nat) (hp s th x ver : Int) (st : Value) (done : Int) (tu en : Bool) (w : World) (h : MemAt w o oc g gb gr A T L bs rs) (hdis : ¬ o = t ∧ ¬ oc = t ∧ ¬ g = t ∧ ¬ gb = t ∧ ¬ gr = t) (B : Blk w t (carA (some ⟨o, 0, none⟩) hp s th x ver 2 st done tu en) 100) (qr : BlockH) (r : ReplyV) (hr : ¬ (r.ok = true ∧ r.block.kind = 2)) : Calls Try.prog 40 #[.pointer (some ⟨t, 0, none⟩), .agg (repA qr r)] w (KT w o t hp s th x ver 8 (.slice qr.plan.steps.a r.block.plan.steps.length qr.plan.steps.c) done false en) := by
  by_cases hok : r.ok = true
  · have q1 : (r.block.kind == 2) = false := by simpa using fun e => hr ⟨hok, e⟩
    clear hr
    have hlt := B.lt
    have hn1 : ¬ t = w.heap.size := by omega
    have hn3 : ¬ w.heap.size = t := by omega
    have c9 := B.at 9 rfl
    have f9 := B.free 9
    have F1 : Fr [t] w (w.setCell ⟨t, 9, none⟩ (.bool false)) := (Fr.refl _ _).set _ _ (.inl (by simp))
    have B1 : Blk (w.setCell ⟨t, 9, none⟩ (.bool false)) t (carA (some ⟨o, 0, none⟩) hp s th x ver 2 st done false en) 100 := by simpa [carA] using B.set 9 (.bool false)
    have h1 := h.off F1 (by simp; exact hdis)
    have hb0 : Below w.heap.size (w.setCell ⟨t, 9, none⟩ (.bool false)) ((w.setCell ⟨t, 9, none⟩ (.bool false)).alloc (.cells (repA qr r) 50)) := by
      have := (Below.refl _ (w.setCell ⟨t, 9, none⟩ (.bool false))).alloc (Nat.le_refl _) (.cells (repA qr r) 50)
      simpa using this
    have BQ2 : Blk ((w.setCell ⟨t, 9, none⟩ (.bool false)).alloc (.cells (repA qr r) 50)) w.heap.size (repA qr r) 50 := by
      have := Blk.new (w.setCell ⟨t, 9, none⟩ (.bool false)) (repA qr r) 50
      simpa using this
    have hsz : (w.setCell ⟨t, 9, none⟩ (.bool false)).heap.size = w.heap.size := by simp
    have B2 := B1.below (by rw [hsz]; exact hb0)
    have h2 := h1.below (by rw [hsz]; exact hb0)
    have F0 := F1.trans (Fr.of_below (S := [t]) (by rw [hsz]; exact hb0))
    clear F1 B1 h1 hb0 hsz
    go_enter Try.func40, Try.ntmps40
    go_wp2_with fail
    clear c9 f9
    generalize (w.setCell ⟨t, 9, none⟩ (.bool false)).alloc (.cells (repA qr r) 50) = w2 at F0 B2 BQ2 h2 ⊢
    refine (cnone_g t hp s th x ver 2 st done false en _ h2 B2 rfl).mono ?_
    rintro e w3 ⟨rfl, rfl⟩
    have f5 := B2.free 5
    have f6 := B2.free 6
    have f7 := B2.free 7
    have f8 := B2.free 8
    have f9 := B2.free 9
    have f10 := B2.free 10
    have c5 := B2.at 5 rfl
    have c6 := B2.at 6 rfl
    have c7 := B2.at 7 rfl
    have c8 := B2.at 8 rfl
    have c9 := B2.at 9 rfl
    have c10 := B2.at 10 rfl
    have r0 := BQ2.at 0 rfl
    have r1 := BQ2.at 1 rfl
    have r2 := BQ2.at 2 rfl
    have r3 := BQ2.at 3 rfl
    have c4r := BQ2.at 17 rfl
    go_wp2_with fail
    have B3 : Blk (w2.setCell ⟨t, 7, none⟩ (.slice qr.plan.steps.a r.block.plan.steps.length qr.plan.steps.c)) t (carA (some ⟨o, 0, none⟩) hp s th x ver 2 (.slice qr.plan.steps.a r.block.plan.steps.length qr.plan.steps.c) done false en) 100 := by simpa [carA] using B2.set 7 (.slice qr.plan.steps.a r.block.plan.steps.length qr.plan.steps.c)
    have F3 : Fr [t] w2 (w2.setCell ⟨t, 7, none⟩ (.slice qr.plan.steps.a r.block.plan.steps.length qr.plan.steps.c)) := (Fr.refl _ _).set _ _ (.inl (by simp))
    replace F0 := F0.trans F3
    generalize w2.setCell ⟨t, 7, none⟩ (.slice qr.plan.steps.a r.block.plan.steps.length qr.plan.steps.c) = w3 at B3 F0 ⊢
    clear F3 c5 c6 c7 c8 c9 c10 f5 f6 f7 f8 f9 f10 c4r
    refine (cto_no t 3 (carA (some ⟨o, 0, none⟩) hp s th x ver 2 (.slice qr.plan.steps.a r.block.plan.steps.length qr.plan.steps.c) done false en) (show 6 < 11 by decide) _ B3).mono ?_
    rintro e w4 ⟨rfl, rfl⟩
    have f6 := B3.free 6
    have c6 := B3.at 6 rfl
    have c7 := B3.at 7 rfl
    go_wp2_with fail
    go_end0
    exact ⟨rfl, by simpa [carA] using B3.set 6 (.int .i64 8), F0.trans ((Fr.refl _ _).set _ _ (.inl (by simp)))⟩
  · have q1 : r.ok = false := by simpa using hok
    clear hr hok
    have hlt := B.lt
    have hn1 : ¬ t = w.heap.size := by omega
    have hn3 : ¬ w.heap.size = t := by omega
    have c9 := B.at 9 rfl
    have f9 := B.free 9
    have F1 : Fr [t] w (w.setCell ⟨t, 9, none⟩ (.bool false)) := (Fr.refl _ _).set _ _ (.inl (by simp))
    have B1 : Blk (w.setCell ⟨t, 9, none⟩ (.bool false)) t (carA (some ⟨o, 0, none⟩) hp s th x ver 2 st done false en) 100 := by simpa [carA] using B.set 9 (.bool false)
    have h1 := h.off F1 (by simp; exact hdis)
    have hb0 : Below w.heap.size (w.setCell ⟨t, 9, none⟩ (.bool false)) ((w.setCell ⟨t, 9, none⟩ (.bool false)).alloc (.cells (repA qr r) 50)) := by
      have := (Below.refl _ (w.setCell ⟨t, 9, none⟩ (.bool false))).alloc (Nat.le_refl _) (.cells (repA qr r) 50)
      simpa using this
    have BQ2 : Blk ((w.setCell ⟨t, 9, none⟩ (.bool false)).alloc (.cells (repA qr r) 50)) w.heap.size (repA qr r) 50 := by
      have := Blk.new (w.setCell ⟨t, 9, none⟩ (.bool false)) (repA qr r) 50
      simpa using this
    have hsz : (w.setCell ⟨t, 9, none⟩ (.bool false)).heap.size = w.heap.size := by simp
    have B2 := B1.below (by rw [hsz]; exact hb0)
    have h2 := h1.below (by rw [hsz]; exact hb0)
    have F0 := F1.trans (Fr.of_below (S := [t]) (by rw [hsz]; exact hb0))
    clear F1 B1 h1 hb0 hsz
    go_enter Try.func40, Try.ntmps40
    go_wp2_with fail
    clear c9 f9
    generalize (w.setCell ⟨t, 9, none⟩ (.bool false)).alloc (.cells (repA qr r) 50) = w2 at F0 B2 BQ2 h2 ⊢
    refine (cnone_g t hp s th x ver 2 st done false en _ h2 B2 rfl).mono ?_
    rintro e w3 ⟨rfl, rfl⟩
    have f5 := B2.free 5
    have f6 := B2.free 6
    have f7 := B2.free 7
    have f8 := B2.free 8
    have f9 := B2.free 9
    have f10 := B2.free 10
    have c5 := B2.at 5 rfl
    have c6 := B2.at 6 rfl
    have c7 := B2.at 7 rfl
    have c8 := B2.at 8 rfl
    have c9 := B2.at 9 rfl
    have c10 := B2.at 10 rfl
    have r0 := BQ2.at 0 rfl
    have r1 := BQ2.at 1 rfl
    have r2 := BQ2.at 2 rfl
    have r3 := BQ2.at 3 rfl
    have c4r := BQ2.at 17 rfl
    go_wp2_with fail
    have B3 : Blk (w2.setCell ⟨t, 7, none⟩ (.slice qr.plan.steps.a r.block.plan.steps.length qr.plan.steps.c)) t (carA (some ⟨o, 0, none⟩) hp s th x ver 2 (.slice qr.plan.steps.a r.block.plan.steps.length qr.plan.steps.c) done false en) 100 := by simpa [carA] using B2.set 7 (.slice qr.plan.steps.a r.block.plan.steps.length qr.plan.steps.c)
    have F3 : Fr [t] w2 (w2.setCell ⟨t, 7, none⟩ (.slice qr.plan.steps.a r.block.plan.steps.length qr.plan.steps.c)) := (Fr.refl _ _).set _ _ (.inl (by simp))
    replace F0 := F0.trans F3
    generalize w2.setCell ⟨t, 7, none⟩ (.slice qr.plan.steps.a r.block.plan.steps.length qr.plan.steps.c) = w3 at B3 F0 ⊢
    clear F3 c5 c6 c7 c8 c9 c10 f5 f6 f7 f8 f9 f10 c4r
    refine (cto_no t 3 (carA (some ⟨o, 0, none⟩) hp s th x ver 2 (.slice qr.plan.steps.a r.block.plan.steps.length qr.plan.steps.c) done false en) (show 6 < 11 by decide) _ B3).mono ?_
    rintro e w4 ⟨rfl, rfl⟩
    have f6 := B3.free 6
    have c6 := B3.at 6 rfl
    have c7 := B3.at 7 rfl
    go_wp2_with fail
    go_end0
    exact ⟨rfl, by simpa [carA] using B3.set 6 (.int .i64 8), F0.trans ((Fr.refl _ _).set _ _ (.inl (by simp)))⟩
set_option maxRecDepth 100000 in
set_option maxHeartbeats 3200000 in
theorem kTell_2 {o oc g gb gr A T : Nat} {L : List (Int × Int)} {bs rs : List (List Value)} (t : Nat) (hp s th x ver : Int) (st : Value) (done : Int) (tu en : Bool) (w : World) (h : MemAt w o oc g gb gr A T L bs rs) (hdis : ¬ o = t ∧ ¬ oc = t ∧ ¬ g = t ∧ ¬ gb = t ∧ ¬ gr = t) (B : Blk w t (carA (some ⟨o, 0, none⟩) hp s th x ver 2 st done tu en) 100) (qr : BlockH) (r : ReplyV) (hok : r.ok = true) (hk : r.block.kind = 2) (hl : 0 < r.block.plan.steps.length) (hm : r.block.plan.steps.length ≤ maxLen) : Calls Try.prog 40 #[.pointer (some ⟨t, 0, none⟩), .agg (repA qr r)] w (KT w o t hp s th x ver 3 (.slice qr.plan.steps.a r.block.plan.steps.length qr.plan.steps.c) done false en) := by
  have q1 : (r.block.kind == 2) = true := by simpa using hk
  have q2 : ((r.block.plan.steps.length : Int) == 0) = false := by simp; intro e; rw [e] at hl; simp at hl
  clear hk hl
  have hlt := B.lt
  have hn1 : ¬ t = w.heap.size := by omega
  have hn3 : ¬ w.heap.size = t := by omega
  have c9 := B.at 9 rfl
  have f9 := B.free 9
  have F1 : Fr [t] w (w.setCell ⟨t, 9, none⟩ (.bool false)) := (Fr.refl _ _).set _ _ (.inl (by simp))
  have B1 : Blk (w.setCell ⟨t, 9, none⟩ (.bool false)) t (carA (some ⟨o, 0, none⟩) hp s th x ver 2 st done false en) 100 := by simpa [carA] using B.set 9 (.bool false)
  have h1 := h.off F1 (by simp; exact hdis)
  have hb0 : Below w.heap.size (w.setCell ⟨t, 9, none⟩ (.bool false)) ((w.setCell ⟨t, 9, none⟩ (.bool false)).alloc (.cells (repA qr r) 50)) := by
    have := (Below.refl _ (w.setCell ⟨t, 9, none⟩ (.bool false))).alloc (Nat.le_refl _) (.cells (repA qr r) 50)
    simpa using this
  have BQ2 : Blk ((w.setCell ⟨t, 9, none⟩ (.bool false)).alloc (.cells (repA qr r) 50)) w.heap.size (repA qr r) 50 := by
    have := Blk.new (w.setCell ⟨t, 9, none⟩ (.bool false)) (repA qr r) 50
    simpa using this
  have hsz : (w.setCell ⟨t, 9, none⟩ (.bool false)).heap.size = w.heap.size := by simp
  have B2 := B1.below (by rw [hsz]; exact hb0)
  have h2 := h1.below (by rw [hsz]; exact hb0)
  have F0 := F1.trans (Fr.of_below (S := [t]) (by rw [hsz]; exact hb0))
  clear F1 B1 h1 hb0 hsz
  go_enter Try.func40, Try.ntmps40
  go_wp2_with fail
  clear c9 f9
  generalize (w.setCell ⟨t, 9, none⟩ (.bool false)).alloc (.cells (repA qr r) 50) = w2 at F0 B2 BQ2 h2 ⊢
  refine (cnone_g t hp s th x ver 2 st done false en _ h2 B2 rfl).mono ?_
  rintro e w3 ⟨rfl, rfl⟩
  have f5 := B2.free 5
  have f6 := B2.free 6
  have f7 := B2.free 7
  have f8 := B2.free 8
  have f9 := B2.free 9
  have f10 := B2.free 10
  have c5 := B2.at 5 rfl
  have c6 := B2.at 6 rfl
  have c7 := B2.at 7 rfl
  have c8 := B2.at 8 rfl
  have c9 := B2.at 9 rfl
  have c10 := B2.at 10 rfl
  have r0 := BQ2.at 0 rfl
  have r1 := BQ2.at 1 rfl
  have r2 := BQ2.at 2 rfl
  have r3 := BQ2.at 3 rfl
  have c4r := BQ2.at 17 rfl
  go_wp2_with fail
  have B3 : Blk (w2.setCell ⟨t, 7, none⟩ (.slice qr.plan.steps.a r.block.plan.steps.length qr.plan.steps.c)) t (carA (some ⟨o, 0, none⟩) hp s th x ver 2 (.slice qr.plan.steps.a r.block.plan.steps.length qr.plan.steps.c) done false en) 100 := by simpa [carA] using B2.set 7 (.slice qr.plan.steps.a r.block.plan.steps.length qr.plan.steps.c)
  have F3 : Fr [t] w2 (w2.setCell ⟨t, 7, none⟩ (.slice qr.plan.steps.a r.block.plan.steps.length qr.plan.steps.c)) := (Fr.refl _ _).set _ _ (.inl (by simp))
  replace F0 := F0.trans F3
  generalize w2.setCell ⟨t, 7, none⟩ (.slice qr.plan.steps.a r.block.plan.steps.length qr.plan.steps.c) = w3 at B3 F0 ⊢
  clear F3 c5 c6 c7 c8 c9 c10 f5 f6 f7 f8 f9 f10 c4r
  refine (cto_yes t 3 (carA (some ⟨o, 0, none⟩) hp s th x ver 2 (.slice qr.plan.steps.a r.block.plan.steps.length qr.plan.steps.c) done false en) (show 6 < 11 by decide) _ B3).mono ?_
  rintro e w4 ⟨rfl, rfl⟩
  have f6 := B3.free 6
  have c6 := B3.at 6 rfl
  have c7 := B3.at 7 rfl
  go_wp2_with fail
  go_end0
  exact ⟨rfl, by simpa [carA] using (B3.set 6 (.int .i64 8)).set 6 (.int .i64 3), F0.trans (((Fr.refl _ _).set _ _ (.inl (by simp))).set _ _ (.inl (by simp)))⟩
set_option maxRecDepth 100000 in
set_option maxHeartbeats 3200000 in
theorem kTell_2nil {o oc g gb gr A T : Nat} {L : List (Int × Int)} {bs rs : List (List Value)} (t : Nat) (hp s th x ver : Int) (st : Value) (done : Int) (tu en : Bool) (w : World) (h : MemAt w o oc g gb gr A T L bs rs) (hdis : ¬ o = t ∧ ¬ oc = t ∧ ¬ g = t ∧ ¬ gb = t ∧ ¬ gr = t) (B : Blk w t (carA (some ⟨o, 0, none⟩) hp s th x ver 2 st done tu en) 100) (qr : BlockH) (r : ReplyV) (hok : r.ok = true) (hk : r.block.kind = 2) (hl : r.block.plan.steps = []) : Calls Try.prog 40 #[.pointer (some ⟨t, 0, none⟩), .agg (repA qr r)] w (KT w o t hp s th x ver 4 (.slice qr.plan.steps.a r.block.plan.steps.length qr.plan.steps.c) done false en) := by
  have q1 : (r.block.kind == 2) = true := by simpa using hk
  have q2 : ((r.block.plan.steps.length : Int) == 0) = true := by simp [hl]
  clear hk hl
  have hlt := B.lt
  have hn1 : ¬ t = w.heap.size := by omega
  have hn3 : ¬ w.heap.size = t := by omega
  have c9 := B.at 9 rfl
  have f9 := B.free 9
  have F1 : Fr [t] w (w.setCell ⟨t, 9, none⟩ (.bool false)) := (Fr.refl _ _).set _ _ (.inl (by simp))
  have B1 : Blk (w.setCell ⟨t, 9, none⟩ (.bool false)) t (carA (some ⟨o, 0, none⟩) hp s th x ver 2 st done false en) 100 := by simpa [carA] using B.set 9 (.bool false)
  have h1 := h.off F1 (by simp; exact hdis)
  have hb0 : Below w.heap.size (w.setCell ⟨t, 9, none⟩ (.bool false)) ((w.setCell ⟨t, 9, none⟩ (.bool false)).alloc (.cells (repA qr r) 50)) := by
    have := (Below.refl _ (w.setCell ⟨t, 9, none⟩ (.bool false))).alloc (Nat.le_refl _) (.cells (repA qr r) 50)
    simpa using this
  have BQ2 : Blk ((w.setCell ⟨t, 9, none⟩ (.bool false)).alloc (.cells (repA qr r) 50)) w.heap.size (repA qr r) 50 := by
    have := Blk.new (w.setCell ⟨t, 9, none⟩ (.bool false)) (repA qr r) 50
    simpa using this
  have hsz : (w.setCell ⟨t, 9, none⟩ (.bool false)).heap.size = w.heap.size := by simp
  have B2 := B1.below (by rw [hsz]; exact hb0)
  have h2 := h1.below (by rw [hsz]; exact hb0)
  have F0 := F1.trans (Fr.of_below (S := [t]) (by rw [hsz]; exact hb0))
  clear F1 B1 h1 hb0 hsz
  go_enter Try.func40, Try.ntmps40
  go_wp2_with fail
  clear c9 f9
  generalize (w.setCell ⟨t, 9, none⟩ (.bool false)).alloc (.cells (repA qr r) 50) = w2 at F0 B2 BQ2 h2 ⊢
  refine (cnone_g t hp s th x ver 2 st done false en _ h2 B2 rfl).mono ?_
  rintro e w3 ⟨rfl, rfl⟩
  have f5 := B2.free 5
  have f6 := B2.free 6
  have f7 := B2.free 7
  have f8 := B2.free 8
  have f9 := B2.free 9
  have f10 := B2.free 10
  have c5 := B2.at 5 rfl
  have c6 := B2.at 6 rfl
  have c7 := B2.at 7 rfl
  have c8 := B2.at 8 rfl
  have c9 := B2.at 9 rfl
  have c10 := B2.at 10 rfl
  have r0 := BQ2.at 0 rfl
  have r1 := BQ2.at 1 rfl
  have r2 := BQ2.at 2 rfl
  have r3 := BQ2.at 3 rfl
  have c4r := BQ2.at 17 rfl
  go_wp2_with fail
  have B3 : Blk (w2.setCell ⟨t, 7, none⟩ (.slice qr.plan.steps.a r.block.plan.steps.length qr.plan.steps.c)) t (carA (some ⟨o, 0, none⟩) hp s th x ver 2 (.slice qr.plan.steps.a r.block.plan.steps.length qr.plan.steps.c) done false en) 100 := by simpa [carA] using B2.set 7 (.slice qr.plan.steps.a r.block.plan.steps.length qr.plan.steps.c)
  have F3 : Fr [t] w2 (w2.setCell ⟨t, 7, none⟩ (.slice qr.plan.steps.a r.block.plan.steps.length qr.plan.steps.c)) := (Fr.refl _ _).set _ _ (.inl (by simp))
  replace F0 := F0.trans F3
  generalize w2.setCell ⟨t, 7, none⟩ (.slice qr.plan.steps.a r.block.plan.steps.length qr.plan.steps.c) = w3 at B3 F0 ⊢
  clear F3 c5 c6 c7 c8 c9 c10 f5 f6 f7 f8 f9 f10 c4r
  refine (cto_yes t 3 (carA (some ⟨o, 0, none⟩) hp s th x ver 2 (.slice qr.plan.steps.a r.block.plan.steps.length qr.plan.steps.c) done false en) (show 6 < 11 by decide) _ B3).mono ?_
  rintro e w4 ⟨rfl, rfl⟩
  have f6 := B3.free 6
  have c6 := B3.at 6 rfl
  have c7 := B3.at 7 rfl
  go_wp2_with fail
  go_end0
  exact ⟨rfl, by simpa [carA] using ((B3.set 6 (.int .i64 8)).set 6 (.int .i64 3)).set 6 (.int .i64 4), F0.trans ((((Fr.refl _ _).set _ _ (.inl (by simp))).set _ _ (.inl (by simp))).set _ _ (.inl (by simp)))⟩
/-- a step -/
def KT3 (w : World) (S : List Nat) (o t : Nat) (hp s th x ver at_ : Int) (l : List StepV) (done : Int) (tu en : Bool) (e : Ending) (w' : World) : Prop :=
  e = .returned (.tuple #[]) ∧ ∃ q : Hd, Blk w' t (carA (some ⟨o, 0, none⟩) hp s th x ver at_ (.slice q.a l.length q.c) done tu en) 100 ∧ HRow Dp.stepT w' S q l ∧ Fr [t] w w'
theorem Fr.set1 {t : Nat} {a w : World} (h : Fr [t] a w) (i : Nat) (v : Value) : Fr [t] a (w.setCell ⟨t, i, none⟩ v) := h.set _ _ (.inl (by simp))
set_option maxRecDepth 100000 in
set_option maxHeartbeats 3200000 in
theorem kTell_3 {S : List Nat} {q : Hd} {l : List StepV} {o oc g gb gr A T : Nat} {L : List (Int × Int)} {bs rs : List (List Value)} (t : Nat) (hp s th x ver : Int) (done : Int) (tu en : Bool) (w : World) (h : MemAt w o oc g gb gr A T L bs rs) (hdis : ¬ o = t ∧ ¬ oc = t ∧ ¬ g = t ∧ ¬ gb = t ∧ ¬ gr = t) (B : Blk w t (carA (some ⟨o, 0, none⟩) hp s th x ver 3 (.slice q.a l.length q.c) done tu en) 100) (qr : BlockH) (r : ReplyV) (H : HRow Dp.stepT w S q l) (h0 : 0 < l.length) (ht : t ∈ S) : Calls Try.prog 40 #[.pointer (some ⟨t, 0, none⟩), .agg (repA qr r)] w (KT3 w S o t hp s th x ver (if l.length ≤ 1 then 4 else 3) l.tail done ((l.headD stepZ).lin && r.ok) en) := by
  obtain ⟨b, off, ha, hb, hn, hok, hr⟩ := step_cell H h0
  have hcap := H.le
  have hcm := H.cap
  have hmx : (maxLen : Nat) = 9223372036854775807 := by unfold maxLen; rfl
  have hnb : ¬ b = t := fun e => hn (e ▸ ht)
  have hnb' : ¬ t = b := fun e => hnb e.symm
  obtain ⟨qa, qc⟩ := q
  simp only at ha hcap hcm B
  subst ha
  have hl4 := hr 4 _ (show (stepL (l.headD stepZ))[4]? = some (.bool (l.headD stepZ).lin) from rfl)
  have hH : ∀ w', Fr [t] w w' → (1 < qc → HRow Dp.stepT w' S ⟨some ⟨b, off + 5, none⟩, qc - 1⟩ l.tail) ∧ (qc = 1 → ∀ a, HRow Dp.stepT w' S ⟨a, 0⟩ l.tail) := fun w' F =>
    ⟨fun h1 => step_tail (H.keep (F.keeps.more (by simpa using ht))) h0 h1, fun h1 a => step_one (H.keep (F.keeps.more (by simpa using ht))) (by show qc ≤ 1; omega) a 0 (Nat.zero_le _)⟩
  clear hr hok H
  generalize (l.headD stepZ).lin = sl at hl4 ⊢
  obtain ⟨n, hn'⟩ : ∃ n, n = l.length := ⟨_, rfl⟩
  have htl : l.tail.length = n - 1 := by rw [List.length_tail, hn']
  rw [← hn'] at h0 hcap B ⊢
  replace htl := Lib.hid htl
  replace hH := Lib.hid hH
  clear hn'
  obtain ⟨st, hst⟩ : ∃ st, st = Value.slice (some ⟨b, off, none⟩) n qc := ⟨_, rfl⟩
  rw [← hst] at B
  by_cases hn1 : n ≤ 1
  · rw [if_pos hn1]
    obtain rfl : n = 1 := by omega
    clear hn1 h0
    by_cases hc1 : qc ≤ 1
    · obtain rfl : qc = 1 := by omega
      clear hc1 hcap
      cases sl
      · have hlt := B.lt
        have hn1 : ¬ t = w.heap.size := by omega
        have hn3 : ¬ w.heap.size = t := by omega
        have c9 := B.at 9 rfl
        have f9 := B.free 9
        have F1 : Fr [t] w (w.setCell ⟨t, 9, none⟩ (.bool false)) := (Fr.refl _ _).set _ _ (.inl (by simp))
        have B1 : Blk (w.setCell ⟨t, 9, none⟩ (.bool false)) t (carA (some ⟨o, 0, none⟩) hp s th x ver 3 st done false en) 100 := by simpa [carA] using B.set 9 (.bool false)
        have h1 := h.off F1 (by simp; exact hdis)
        have hb0 : Below w.heap.size (w.setCell ⟨t, 9, none⟩ (.bool false)) ((w.setCell ⟨t, 9, none⟩ (.bool false)).alloc (.cells (repA qr r) 50)) := by
          have := (Below.refl _ (w.setCell ⟨t, 9, none⟩ (.bool false))).alloc (Nat.le_refl _) (.cells (repA qr r) 50)
          simpa using this
        have BQ2 : Blk ((w.setCell ⟨t, 9, none⟩ (.bool false)).alloc (.cells (repA qr r) 50)) w.heap.size (repA qr r) 50 := by
          have := Blk.new (w.setCell ⟨t, 9, none⟩ (.bool false)) (repA qr r) 50
          simpa using this
        have hsz : (w.setCell ⟨t, 9, none⟩ (.bool false)).heap.size = w.heap.size := by simp
        have B2 := B1.below (by rw [hsz]; exact hb0)
        have h2 := h1.below (by rw [hsz]; exact hb0)
        have F0 := F1.trans (Fr.of_below (S := [t]) (by rw [hsz]; exact hb0))
        clear F1 B1 h1 hb0 hsz
        go_enter Try.func40, Try.ntmps40
        go_wp2_with fail
        clear c9 f9
        generalize (w.setCell ⟨t, 9, none⟩ (.bool false)).alloc (.cells (repA qr r) 50) = w2 at F0 B2 BQ2 h2 ⊢
        refine (cnone_g t hp s th x ver 3 st done false en _ h2 B2 rfl).mono ?_
        rintro e w3 ⟨rfl, rfl⟩
        have f5 := B2.free 5
        have f6 := B2.free 6
        have f7 := B2.free 7
        have f8 := B2.free 8
        have f9 := B2.free 9
        have f10 := B2.free 10
        have c5 := B2.at 5 rfl
        have c6 := B2.at 6 rfl
        have c7 := B2.at 7 rfl
        have c8 := B2.at 8 rfl
        have c9 := B2.at 9 rfl
        have c10 := B2.at 10 rfl
        have r0 := BQ2.at 0 rfl
        have r1 := BQ2.at 1 rfl
        have r2 := BQ2.at 2 rfl
        have r3 := BQ2.at 3 rfl
        subst hst
        have c4l := ((F0.keeps.cell (p := ⟨b, off + 4, none⟩) hb (by simpa using hnb))).trans hl4
        clear hl4
        go_wp2_with fail
        clear c4l c5 c6 c7 c8 c9 c10 f5 f6 f7 f8 f9 f10 r0 r1 r2 r3
        go_end0
        have F := (((F0.set1 9 (.bool false)).set1 7 (.slice (some ⟨b, off, none⟩) 0 0)).set1 6 (.int .i64 4))
        refine ⟨rfl, ⟨some ⟨b, off, none⟩, 0⟩, ?_, (hH.out _ F).2 (by simp) _, F⟩
        rw [htl.out]
        simpa [carA] using ((B2.set 9 (.bool false)).set 7 (.slice (some ⟨b, off, none⟩) 0 0)).set 6 (.int .i64 4)
      · have hlt := B.lt
        have hn1 : ¬ t = w.heap.size := by omega
        have hn3 : ¬ w.heap.size = t := by omega
        have c9 := B.at 9 rfl
        have f9 := B.free 9
        have F1 : Fr [t] w (w.setCell ⟨t, 9, none⟩ (.bool false)) := (Fr.refl _ _).set _ _ (.inl (by simp))
        have B1 : Blk (w.setCell ⟨t, 9, none⟩ (.bool false)) t (carA (some ⟨o, 0, none⟩) hp s th x ver 3 st done false en) 100 := by simpa [carA] using B.set 9 (.bool false)
        have h1 := h.off F1 (by simp; exact hdis)
        have hb0 : Below w.heap.size (w.setCell ⟨t, 9, none⟩ (.bool false)) ((w.setCell ⟨t, 9, none⟩ (.bool false)).alloc (.cells (repA qr r) 50)) := by
          have := (Below.refl _ (w.setCell ⟨t, 9, none⟩ (.bool false))).alloc (Nat.le_refl _) (.cells (repA qr r) 50)
          simpa using this
        have BQ2 : Blk ((w.setCell ⟨t, 9, none⟩ (.bool false)).alloc (.cells (repA qr r) 50)) w.heap.size (repA qr r) 50 := by
          have := Blk.new (w.setCell ⟨t, 9, none⟩ (.bool false)) (repA qr r) 50
          simpa using this
        have hsz : (w.setCell ⟨t, 9, none⟩ (.bool false)).heap.size = w.heap.size := by simp
        have B2 := B1.below (by rw [hsz]; exact hb0)
        have h2 := h1.below (by rw [hsz]; exact hb0)
        have F0 := F1.trans (Fr.of_below (S := [t]) (by rw [hsz]; exact hb0))
        clear F1 B1 h1 hb0 hsz
        go_enter Try.func40, Try.ntmps40
        go_wp2_with fail
        clear c9 f9
        generalize (w.setCell ⟨t, 9, none⟩ (.bool false)).alloc (.cells (repA qr r) 50) = w2 at F0 B2 BQ2 h2 ⊢
        refine (cnone_g t hp s th x ver 3 st done false en _ h2 B2 rfl).mono ?_
        rintro e w3 ⟨rfl, rfl⟩
        have f5 := B2.free 5
        have f6 := B2.free 6
        have f7 := B2.free 7
        have f8 := B2.free 8
        have f9 := B2.free 9
        have f10 := B2.free 10
        have c5 := B2.at 5 rfl
        have c6 := B2.at 6 rfl
        have c7 := B2.at 7 rfl
        have c8 := B2.at 8 rfl
        have c9 := B2.at 9 rfl
        have c10 := B2.at 10 rfl
        have r0 := BQ2.at 0 rfl
        have r1 := BQ2.at 1 rfl
        have r2 := BQ2.at 2 rfl
        have r3 := BQ2.at 3 rfl
        subst hst
        have c4l := ((F0.keeps.cell (p := ⟨b, off + 4, none⟩) hb (by simpa using hnb))).trans hl4
        clear hl4
        go_wp2_with fail
        clear c4l c5 c6 c7 c8 c9 c10 f5 f6 f7 f8 f9 f10 r0 r1 r2 r3
        go_end0
        have F := (((F0.set1 9 (.bool r.ok)).set1 7 (.slice (some ⟨b, off, none⟩) 0 0)).set1 6 (.int .i64 4))
        refine ⟨rfl, ⟨some ⟨b, off, none⟩, 0⟩, ?_, (hH.out _ F).2 (by simp) _, F⟩
        rw [htl.out]
        simpa [carA] using ((B2.set 9 (.bool r.ok)).set 7 (.slice (some ⟨b, off, none⟩) 0 0)).set 6 (.int .i64 4)
    · have hc2 : 1 < qc := by omega
      cases sl
      · have hlt := B.lt
        have hn1 : ¬ t = w.heap.size := by omega
        have hn3 : ¬ w.heap.size = t := by omega
        have c9 := B.at 9 rfl
        have f9 := B.free 9
        have F1 : Fr [t] w (w.setCell ⟨t, 9, none⟩ (.bool false)) := (Fr.refl _ _).set _ _ (.inl (by simp))
        have B1 : Blk (w.setCell ⟨t, 9, none⟩ (.bool false)) t (carA (some ⟨o, 0, none⟩) hp s th x ver 3 st done false en) 100 := by simpa [carA] using B.set 9 (.bool false)
        have h1 := h.off F1 (by simp; exact hdis)
        have hb0 : Below w.heap.size (w.setCell ⟨t, 9, none⟩ (.bool false)) ((w.setCell ⟨t, 9, none⟩ (.bool false)).alloc (.cells (repA qr r) 50)) := by
          have := (Below.refl _ (w.setCell ⟨t, 9, none⟩ (.bool false))).alloc (Nat.le_refl _) (.cells (repA qr r) 50)
          simpa using this
        have BQ2 : Blk ((w.setCell ⟨t, 9, none⟩ (.bool false)).alloc (.cells (repA qr r) 50)) w.heap.size (repA qr r) 50 := by
          have := Blk.new (w.setCell ⟨t, 9, none⟩ (.bool false)) (repA qr r) 50
          simpa using this
        have hsz : (w.setCell ⟨t, 9, none⟩ (.bool false)).heap.size = w.heap.size := by simp
        have B2 := B1.below (by rw [hsz]; exact hb0)
        have h2 := h1.below (by rw [hsz]; exact hb0)
        have F0 := F1.trans (Fr.of_below (S := [t]) (by rw [hsz]; exact hb0))
        clear F1 B1 h1 hb0 hsz
        go_enter Try.func40, Try.ntmps40
        go_wp2_with fail
        clear c9 f9
        generalize (w.setCell ⟨t, 9, none⟩ (.bool false)).alloc (.cells (repA qr r) 50) = w2 at F0 B2 BQ2 h2 ⊢
        refine (cnone_g t hp s th x ver 3 st done false en _ h2 B2 rfl).mono ?_
        rintro e w3 ⟨rfl, rfl⟩
        have f5 := B2.free 5
        have f6 := B2.free 6
        have f7 := B2.free 7
        have f8 := B2.free 8
        have f9 := B2.free 9
        have f10 := B2.free 10
        have c5 := B2.at 5 rfl
        have c6 := B2.at 6 rfl
        have c7 := B2.at 7 rfl
        have c8 := B2.at 8 rfl
        have c9 := B2.at 9 rfl
        have c10 := B2.at 10 rfl
        have r0 := BQ2.at 0 rfl
        have r1 := BQ2.at 1 rfl
        have r2 := BQ2.at 2 rfl
        have r3 := BQ2.at 3 rfl
        subst hst
        have c4l := ((F0.keeps.cell (p := ⟨b, off + 4, none⟩) hb (by simpa using hnb))).trans hl4
        clear hl4
        go_wp2_with fail
        clear c4l c5 c6 c7 c8 c9 c10 f5 f6 f7 f8 f9 f10 r0 r1 r2 r3
        go_end0
        have F := (((F0.set1 9 (.bool false)).set1 7 (.slice (some ⟨b, off + 5, none⟩) 0 (qc - 1))).set1 6 (.int .i64 4))
        refine ⟨rfl, ⟨some ⟨b, off + 5, none⟩, qc - 1⟩, ?_, (hH.out _ F).1 hc2, F⟩
        rw [htl.out]
        simpa [carA] using ((B2.set 9 (.bool false)).set 7 (.slice (some ⟨b, off + 5, none⟩) 0 (qc - 1))).set 6 (.int .i64 4)
      · have hlt := B.lt
        have hn1 : ¬ t = w.heap.size := by omega
        have hn3 : ¬ w.heap.size = t := by omega
        have c9 := B.at 9 rfl
        have f9 := B.free 9
        have F1 : Fr [t] w (w.setCell ⟨t, 9, none⟩ (.bool false)) := (Fr.refl _ _).set _ _ (.inl (by simp))
        have B1 : Blk (w.setCell ⟨t, 9, none⟩ (.bool false)) t (carA (some ⟨o, 0, none⟩) hp s th x ver 3 st done false en) 100 := by simpa [carA] using B.set 9 (.bool false)
        have h1 := h.off F1 (by simp; exact hdis)
        have hb0 : Below w.heap.size (w.setCell ⟨t, 9, none⟩ (.bool false)) ((w.setCell ⟨t, 9, none⟩ (.bool false)).alloc (.cells (repA qr r) 50)) := by
          have := (Below.refl _ (w.setCell ⟨t, 9, none⟩ (.bool false))).alloc (Nat.le_refl _) (.cells (repA qr r) 50)
          simpa using this
        have BQ2 : Blk ((w.setCell ⟨t, 9, none⟩ (.bool false)).alloc (.cells (repA qr r) 50)) w.heap.size (repA qr r) 50 := by
          have := Blk.new (w.setCell ⟨t, 9, none⟩ (.bool false)) (repA qr r) 50
          simpa using this
        have hsz : (w.setCell ⟨t, 9, none⟩ (.bool false)).heap.size = w.heap.size := by simp
        have B2 := B1.below (by rw [hsz]; exact hb0)
        have h2 := h1.below (by rw [hsz]; exact hb0)
        have F0 := F1.trans (Fr.of_below (S := [t]) (by rw [hsz]; exact hb0))
        clear F1 B1 h1 hb0 hsz
        go_enter Try.func40, Try.ntmps40
        go_wp2_with fail
        clear c9 f9
        generalize (w.setCell ⟨t, 9, none⟩ (.bool false)).alloc (.cells (repA qr r) 50) = w2 at F0 B2 BQ2 h2 ⊢
        refine (cnone_g t hp s th x ver 3 st done false en _ h2 B2 rfl).mono ?_
        rintro e w3 ⟨rfl, rfl⟩
        have f5 := B2.free 5
        have f6 := B2.free 6
        have f7 := B2.free 7
        have f8 := B2.free 8
        have f9 := B2.free 9
        have f10 := B2.free 10
        have c5 := B2.at 5 rfl
        have c6 := B2.at 6 rfl
        have c7 := B2.at 7 rfl
        have c8 := B2.at 8 rfl
        have c9 := B2.at 9 rfl
        have c10 := B2.at 10 rfl
        have r0 := BQ2.at 0 rfl
        have r1 := BQ2.at 1 rfl
        have r2 := BQ2.at 2 rfl
        have r3 := BQ2.at 3 rfl
        subst hst
        have c4l := ((F0.keeps.cell (p := ⟨b, off + 4, none⟩) hb (by simpa using hnb))).trans hl4
        clear hl4
        go_wp2_with fail
        clear c4l c5 c6 c7 c8 c9 c10 f5 f6 f7 f8 f9 f10 r0 r1 r2 r3
        go_end0
        have F := (((F0.set1 9 (.bool r.ok)).set1 7 (.slice (some ⟨b, off + 5, none⟩) 0 (qc - 1))).set1 6 (.int .i64 4))
        refine ⟨rfl, ⟨some ⟨b, off + 5, none⟩, qc - 1⟩, ?_, (hH.out _ F).1 hc2, F⟩
        rw [htl.out]
        simpa [carA] using ((B2.set 9 (.bool r.ok)).set 7 (.slice (some ⟨b, off + 5, none⟩) 0 (qc - 1))).set 6 (.int .i64 4)
  · rw [if_neg hn1]
    have hn2 : 1 < n := by omega
    have hc2 : 1 < qc := by omega
    have hn3 : (1 : Int) < (n : Int) := by omega
    have hn4 : ((n : Int) - 1 == 0) = false := by simp; omega
    cases sl
    · have hlt := B.lt
      have hn1 : ¬ t = w.heap.size := by omega
      have hn3 : ¬ w.heap.size = t := by omega
      have c9 := B.at 9 rfl
      have f9 := B.free 9
      have F1 : Fr [t] w (w.setCell ⟨t, 9, none⟩ (.bool false)) := (Fr.refl _ _).set _ _ (.inl (by simp))
      have B1 : Blk (w.setCell ⟨t, 9, none⟩ (.bool false)) t (carA (some ⟨o, 0, none⟩) hp s th x ver 3 st done false en) 100 := by simpa [carA] using B.set 9 (.bool false)
      have h1 := h.off F1 (by simp; exact hdis)
      have hb0 : Below w.heap.size (w.setCell ⟨t, 9, none⟩ (.bool false)) ((w.setCell ⟨t, 9, none⟩ (.bool false)).alloc (.cells (repA qr r) 50)) := by
        have := (Below.refl _ (w.setCell ⟨t, 9, none⟩ (.bool false))).alloc (Nat.le_refl _) (.cells (repA qr r) 50)
        simpa using this
      have BQ2 : Blk ((w.setCell ⟨t, 9, none⟩ (.bool false)).alloc (.cells (repA qr r) 50)) w.heap.size (repA qr r) 50 := by
        have := Blk.new (w.setCell ⟨t, 9, none⟩ (.bool false)) (repA qr r) 50
        simpa using this
      have hsz : (w.setCell ⟨t, 9, none⟩ (.bool false)).heap.size = w.heap.size := by simp
      have B2 := B1.below (by rw [hsz]; exact hb0)
      have h2 := h1.below (by rw [hsz]; exact hb0)
      have F0 := F1.trans (Fr.of_below (S := [t]) (by rw [hsz]; exact hb0))
      clear F1 B1 h1 hb0 hsz
      go_enter Try.func40, Try.ntmps40
      go_wp2_with fail
      clear c9 f9
      generalize (w.setCell ⟨t, 9, none⟩ (.bool false)).alloc (.cells (repA qr r) 50) = w2 at F0 B2 BQ2 h2 ⊢
      refine (cnone_g t hp s th x ver 3 st done false en _ h2 B2 rfl).mono ?_
      rintro e w3 ⟨rfl, rfl⟩
      have f5 := B2.free 5
      have f6 := B2.free 6
      have f7 := B2.free 7
      have f8 := B2.free 8
      have f9 := B2.free 9
      have f10 := B2.free 10
      have c5 := B2.at 5 rfl
      have c6 := B2.at 6 rfl
      have c7 := B2.at 7 rfl
      have c8 := B2.at 8 rfl
      have c9 := B2.at 9 rfl
      have c10 := B2.at 10 rfl
      have r0 := BQ2.at 0 rfl
      have r1 := BQ2.at 1 rfl
      have r2 := BQ2.at 2 rfl
      have r3 := BQ2.at 3 rfl
      subst hst
      have c4l := ((F0.keeps.cell (p := ⟨b, off + 4, none⟩) hb (by simpa using hnb))).trans hl4
      clear hl4
      go_wp2_with fail
      clear c4l c5 c6 c7 c8 c9 c10 f5 f6 f7 f8 f9 f10 r0 r1 r2 r3
      go_end0
      have F := ((F0.set1 9 (.bool false)).set1 7 (.slice (some ⟨b, off + 5, none⟩) (n - 1) (qc - 1)))
      refine ⟨rfl, ⟨some ⟨b, off + 5, none⟩, qc - 1⟩, ?_, (hH.out _ F).1 hc2, F⟩
      rw [htl.out]
      simpa [carA] using (B2.set 9 (.bool false)).set 7 (.slice (some ⟨b, off + 5, none⟩) (n - 1) (qc - 1))
    · have hlt := B.lt
      have hn1 : ¬ t = w.heap.size := by omega
      have hn3 : ¬ w.heap.size = t := by omega
      have c9 := B.at 9 rfl
      have f9 := B.free 9
      have F1 : Fr [t] w (w.setCell ⟨t, 9, none⟩ (.bool false)) := (Fr.refl _ _).set _ _ (.inl (by simp))
      have B1 : Blk (w.setCell ⟨t, 9, none⟩ (.bool false)) t (carA (some ⟨o, 0, none⟩) hp s th x ver 3 st done false en) 100 := by simpa [carA] using B.set 9 (.bool false)
      have h1 := h.off F1 (by simp; exact hdis)
      have hb0 : Below w.heap.size (w.setCell ⟨t, 9, none⟩ (.bool false)) ((w.setCell ⟨t, 9, none⟩ (.bool false)).alloc (.cells (repA qr r) 50)) := by
        have := (Below.refl _ (w.setCell ⟨t, 9, none⟩ (.bool false))).alloc (Nat.le_refl _) (.cells (repA qr r) 50)
        simpa using this
      have BQ2 : Blk ((w.setCell ⟨t, 9, none⟩ (.bool false)).alloc (.cells (repA qr r) 50)) w.heap.size (repA qr r) 50 := by
        have := Blk.new (w.setCell ⟨t, 9, none⟩ (.bool false)) (repA qr r) 50
        simpa using this
      have hsz : (w.setCell ⟨t, 9, none⟩ (.bool false)).heap.size = w.heap.size := by simp
      have B2 := B1.below (by rw [hsz]; exact hb0)
      have h2 := h1.below (by rw [hsz]; exact hb0)
      have F0 := F1.trans (Fr.of_below (S := [t]) (by rw [hsz]; exact hb0))
      clear F1 B1 h1 hb0 hsz
      go_enter Try.func40, Try.ntmps40
      go_wp2_with fail
      clear c9 f9
      generalize (w.setCell ⟨t, 9, none⟩ (.bool false)).alloc (.cells (repA qr r) 50) = w2 at F0 B2 BQ2 h2 ⊢
      refine (cnone_g t hp s th x ver 3 st done false en _ h2 B2 rfl).mono ?_
      rintro e w3 ⟨rfl, rfl⟩
      have f5 := B2.free 5
      have f6 := B2.free 6
      have f7 := B2.free 7
      have f8 := B2.free 8
      have f9 := B2.free 9
      have f10 := B2.free 10
      have c5 := B2.at 5 rfl
      have c6 := B2.at 6 rfl
      have c7 := B2.at 7 rfl
      have c8 := B2.at 8 rfl
      have c9 := B2.at 9 rfl
      have c10 := B2.at 10 rfl
      have r0 := BQ2.at 0 rfl
      have r1 := BQ2.at 1 rfl
      have r2 := BQ2.at 2 rfl
      have r3 := BQ2.at 3 rfl
      subst hst
      have c4l := ((F0.keeps.cell (p := ⟨b, off + 4, none⟩) hb (by simpa using hnb))).trans hl4
      clear hl4
      go_wp2_with fail
      clear c4l c5 c6 c7 c8 c9 c10 f5 f6 f7 f8 f9 f10 r0 r1 r2 r3
      go_end0
      have F := ((F0.set1 9 (.bool r.ok)).set1 7 (.slice (some ⟨b, off + 5, none⟩) (n - 1) (qc - 1)))
      refine ⟨rfl, ⟨some ⟨b, off + 5, none⟩, qc - 1⟩, ?_, (hH.out _ F).1 hc2, F⟩
      rw [htl.out]
      simpa [carA] using (B2.set 9 (.bool r.ok)).set 7 (.slice (some ⟨b, off + 5, none⟩) (n - 1) (qc - 1))
end Go.Proofs.Ytpempcefgfmniaa.MemP

/-
  carry: Next and Tell of any task: contracts, in one.
-/
namespace Go.Proofs.Ytpempcefgfmniaa.MemP
open Go.RowKit RefP CellP Dp
set_option linter.unusedVariables false
set_option linter.unusedSimpArgs false
theorem k_cases {k : KS} (h0 : 0 ≤ k.at_) (h1 : k.at_ ≤ 7) : k.at_ = 0 ∨ k.at_ = 1 ∨ k.at_ = 2 ∨ k.at_ = 3 ∨ k.at_ = 4 ∨ k.at_ = 5 ∨ k.at_ = 6 ∨ k.at_ = 7 := by omega
/-- Next -/
theorem k_next {S : List Nat} {o oc g gb gr A T : Nat} {L : List (Int × Int)} {bs rs : List (List Value)} (t : Nat) (p : KP) (k : KS) (q : Hd) (w : World) (h : MemAt w o oc g gb gr A T L bs rs) (B : Blk w t (carX o p k q) 100) (P : KPok p) (H : HRow Dp.stepT w S q k.steps) (h0 : 0 ≤ k.at_) (h1 : k.at_ ≤ 7) (h3 : k.at_ = 3 → 0 < k.steps.length) :
    Calls Try.prog 36 #[.pointer (some ⟨t, 0, none⟩)] w fun e w' => e = .returned (.tuple #[.agg (acc26 nilH (kAcc A T p k)).toArray, .bool true]) ∧ Below w.heap.size w w' := by
  obtain ⟨hp, s, th, x, ver⟩ := p
  obtain ⟨at_, steps, done, tu, en⟩ := k
  have hc := k_cases h0 h1
  have hth := P.th
  have hx := P.x
  simp only at hc B H h3 hth hx
  clear h0 h1 P
  rcases hc with rfl | rfl | rfl | rfl | rfl | rfl | rfl | rfl
  · exact kNext_0 t hp s th x ver _ done tu en w h B
  · exact kNext_1 t hp s th x ver _ done tu en w h B
  · exact kNext_2 t hp s th x ver _ done tu en w h B
  · exact kNext_3 t hp s th x ver done tu en w h B H (h3 rfl)
  · exact kNext_4 t hp s th x ver _ done tu en w h B hth
  · exact kNext_5 t hp s th x ver _ done tu en w h B
  · exact kNext_6 t hp s th x ver _ done tu en w h B hth hx
  · exact kNext_7 t hp s th x ver _ done tu en w h B
theorem k_over {o oc g gb gr A T : Nat} {L : List (Int × Int)} {bs rs : List (List Value)} (t : Nat) (p : KP) (k : KS) (q : Hd) (w : World) (h : MemAt w o oc g gb gr A T L bs rs) (B : Blk w t (carX o p k q) 100) (h8 : k.at_ = 8) :
    Calls Try.prog 36 #[.pointer (some ⟨t, 0, none⟩)] w fun e w' => e = .returned (.tuple #[.agg (accY 0 0 0 0), .bool false]) ∧ Below w.heap.size w w' := by
  obtain ⟨at_, steps, done, tu, en⟩ := k
  simp only at h8 B
  subst h8
  exact kNext_8 t p.hp p.s p.th p.x p.ver _ done tu en w h B
/-- Tell -/
def KTold (w : World) (S : List Nat) (o t : Nat) (p : KP) (k : KS) (e : Ending) (w' : World) : Prop :=
  e = .returned (.tuple #[]) ∧ ∃ q : Hd, Blk w' t (carX o p k q) 100 ∧ HRow Dp.stepT w' S q k.steps ∧ Fr [t] w w'
theorem k_tell {S : List Nat} {o oc g gb gr A T : Nat} {L : List (Int × Int)} {bs rs : List (List Value)} (t : Nat) (p : KP) (k : KS) (q : Hd) (qr : BlockH) (r : ReplyV) (w : World) (h : MemAt w o oc g gb gr A T L bs rs) (hdis : ¬ o = t ∧ ¬ oc = t ∧ ¬ g = t ∧ ¬ gb = t ∧ ¬ gr = t) (B : Blk w t (carX o p k q) 100) (H : HRow Dp.stepT w S q k.steps) (ht : t ∈ S) (hr : RepOk w S qr r) (h0 : 0 ≤ k.at_) (h1 : k.at_ ≤ 7) (h3 : k.at_ = 3 → 0 < k.steps.length) :
    Calls Try.prog 40 #[.pointer (some ⟨t, 0, none⟩), .agg (repA qr r)] w fun e w' => KTold w S o t p (kTell p k r) e w' := by
  obtain ⟨hp, s, th, x, ver⟩ := p
  obtain ⟨at_, steps, done, tu, en⟩ := k
  have hc := k_cases h0 h1
  have hst := hr.block.plan.steps
  simp only at hc B H h3
  clear h0 h1 hr
  have keepH : ∀ {w' : World}, Fr [t] w w' → HRow Dp.stepT w' S q steps := fun F => H.keep (F.keeps.more (by simpa using ht))
  have keepR : ∀ {w' : World}, Fr [t] w w' → HRow Dp.stepT w' S qr.plan.steps r.block.plan.steps := fun F => hst.keep (F.keeps.more (by simpa using ht))
  rcases hc with rfl | rfl | rfl | rfl | rfl | rfl | rfl | rfl
  · refine (kTell_0 t hp s th x ver _ done tu en w h hdis B qr r).mono ?_
    rintro e w' ⟨rfl, B', F⟩
    exact ⟨rfl, q, B', keepH F, F⟩
  · by_cases hv : r.ver = ver
    · refine (kTell_1 t hp s th x ver _ done tu en w h hdis B qr r hv).mono ?_
      rintro e w' ⟨rfl, B', F⟩
      have e : kTell ⟨hp, s, th, x, ver⟩ ⟨1, steps, done, tu, en⟩ r = ⟨2, steps, done, false, en⟩ := by simp [kTell, hv]
      rw [e]
      exact ⟨rfl, q, B', keepH F, F⟩
    · refine (kTell_1no t hp s th x ver _ done tu en w h hdis B qr r hv).mono ?_
      rintro e w' ⟨rfl, B', F⟩
      have e : kTell ⟨hp, s, th, x, ver⟩ ⟨1, steps, done, tu, en⟩ r = ⟨8, steps, done, false, en⟩ := by simp [kTell, hv]
      rw [e]
      exact ⟨rfl, q, B', keepH F, F⟩
  · by_cases hok : r.ok = true ∧ r.block.kind = 2
    · by_cases hl : r.block.plan.steps = []
      · refine (kTell_2nil t hp s th x ver _ done tu en w h hdis B qr r hok.1 hok.2 hl).mono ?_
        rintro e w' ⟨rfl, B', F⟩
        have e : kTell ⟨hp, s, th, x, ver⟩ ⟨2, steps, done, tu, en⟩ r = ⟨4, r.block.plan.steps, done, false, en⟩ := by simp [kTell, hok, hl]
        rw [e]
        exact ⟨rfl, qr.plan.steps, B', keepR F, F⟩
      · have hl' : 0 < r.block.plan.steps.length := List.length_pos_iff.2 hl
        refine (kTell_2 t hp s th x ver _ done tu en w h hdis B qr r hok.1 hok.2 hl' (Nat.le_trans hst.le hst.cap)).mono ?_
        rintro e w' ⟨rfl, B', F⟩
        have e : kTell ⟨hp, s, th, x, ver⟩ ⟨2, steps, done, tu, en⟩ r = ⟨3, r.block.plan.steps, done, false, en⟩ := by simp [kTell, hok, hl]
        rw [e]
        exact ⟨rfl, qr.plan.steps, B', keepR F, F⟩
    · refine (kTell_2no t hp s th x ver _ done tu en w h hdis B qr r hok).mono ?_
      rintro e w' ⟨rfl, B', F⟩
      have e : kTell ⟨hp, s, th, x, ver⟩ ⟨2, steps, done, tu, en⟩ r = ⟨8, r.block.plan.steps, done, false, en⟩ := by simp [kTell, hok]
      rw [e]
      exact ⟨rfl, qr.plan.steps, B', keepR F, F⟩
  · refine (kTell_3 t hp s th x ver done tu en w h hdis B qr r H (h3 rfl) ht).mono ?_
    rintro e w' ⟨rfl, q', B', H', F⟩
    exact ⟨rfl, q', B', H', F⟩
  · by_cases hv : r.word = 0
    · refine (kTell_4 t hp s th x ver _ done tu en w h hdis B qr r hv).mono ?_
      rintro e w' ⟨rfl, B', F⟩
      have e : kTell ⟨hp, s, th, x, ver⟩ ⟨4, steps, done, tu, en⟩ r = ⟨5, steps, r.ver, false, en⟩ := by simp [kTell, hv]
      rw [e]
      exact ⟨rfl, q, B', keepH F, F⟩
    · refine (kTell_4no t hp s th x ver _ done tu en w h hdis B qr r hv).mono ?_
      rintro e w' ⟨rfl, B', F⟩
      have e : kTell ⟨hp, s, th, x, ver⟩ ⟨4, steps, done, tu, en⟩ r = ⟨7, steps, r.ver, false, en⟩ := by simp [kTell, hv]
      rw [e]
      exact ⟨rfl, q, B', keepH F, F⟩
  · by_cases hv : r.ver = ver
    · refine (kTell_5 t hp s th x ver _ done tu en w h hdis B qr r hv).mono ?_
      rintro e w' ⟨rfl, B', F⟩
      have e : kTell ⟨hp, s, th, x, ver⟩ ⟨5, steps, done, tu, en⟩ r = ⟨6, steps, done, false, en⟩ := by simp [kTell, hv]
      rw [e]
      exact ⟨rfl, q, B', keepH F, F⟩
    · refine (kTell_5no t hp s th x ver _ done tu en w h hdis B qr r hv).mono ?_
      rintro e w' ⟨rfl, B', F⟩
      have e : kTell ⟨hp, s, th, x, ver⟩ ⟨5, steps, done, tu, en⟩ r = ⟨8, steps, done, false, en⟩ := by simp [kTell, hv]
      rw [e]
      exact ⟨rfl, q, B', keepH F, F⟩
  · refine (kTell_6 t hp s th x ver _ done tu en w h hdis B qr r).mono ?_
    rintro e w' ⟨rfl, B', F⟩
    exact ⟨rfl, q, B', keepH F, F⟩
  · refine (kTell_7 t hp s th x ver _ done tu en w h hdis B qr r).mono ?_
    rintro e w' ⟨rfl, B', F⟩
    exact ⟨rfl, q, B', keepH F, F⟩
end Go.Proofs.Ytpempcefgfmniaa.MemP
