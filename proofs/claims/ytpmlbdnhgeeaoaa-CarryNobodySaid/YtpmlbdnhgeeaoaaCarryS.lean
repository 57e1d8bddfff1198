/-
  carry: a task of a short gate, step by step: contracts.
-/
import Derived.Test.YtpmlbdnhgeeaoaaCarryN
import Derived.Test.YtpmlbdnhgeeaoaaMemAtX
import Derived.Test.YtpmlbdnhgeeaoaaMemDoW
import Derived.Deep.RegionHeld
import Derived.StillTailTactics
namespace Go.Proofs.Ytpmlbdnhgeeaoaa.MemP
open Go.RowKit RefP CellP
set_option linter.unusedVariables false
set_option linter.unusedSimpArgs false
/-- a task of a short gate of thread 0, by helper 0, of version 1 -/
abbrev carT (o : Nat) (at_ done : Int) (en : Bool) : Array Value := carA (some ⟨o, 0, none⟩) 0 3 0 0 1 at_ (.slice none 0 0) done false en
set_option maxHeartbeats 800000 in
theorem cnone_on {o oc g gb gr A T : Nat} {L : List (Int × Int)} {bs rs : List (List Value)} (t : Nat) (at_ done : Int) (en : Bool) (w : World) (h : MemAt w o oc g gb gr A T L bs rs) (B : Blk w t (carT o at_ done en) 152) (q : (at_ == 8) = false) :
    Calls Try.prog 134 #[.pointer (some ⟨t, 0, none⟩)] w fun e w' => e = .returned (.bool false) ∧ w = w' := by
  have c0 := B.at 0 rfl
  have c6 := B.at 6 rfl
  have hA := h.a1
  have qA : ((A : Int) == 0) = false := by simp; omega
  clear hA
  go_enter Try.func134, Try.ntmps134
  go_wp2_with fail
  refine (arena_any _ h).mono ?_
  rintro e w1 ⟨rfl, rfl⟩
  go_wp2_with fail
  go_ret
  exact ⟨rfl, rfl⟩
set_option maxHeartbeats 800000 in
theorem cto_yes (t : Nat) (a : Int) (cs : Array Value) (hs : 6 < cs.size) (w : World) (B : Blk w t cs 152) : Calls Try.prog 135 #[.pointer (some ⟨t, 0, none⟩), .int .i64 a, .bool true] w fun e w' => e = .returned (.tuple #[]) ∧ w' = (w.setCell ⟨t, 6, none⟩ (.int .i64 8)).setCell ⟨t, 6, none⟩ (.int .i64 a) := by
  have f6 := B.free 6
  have c6 := B.at 6 (Array.getElem?_eq_getElem hs)
  go_enter Try.func135, Try.ntmps135
  go_wp2_with fail
  go_end0
  exact ⟨rfl, rfl⟩
abbrev CTell (w : World) (o t : Nat) (at_ done : Int) (en : Bool) (e : Ending) (w' : World) : Prop := e = .returned (.tuple #[]) ∧ Blk w' t (carT o at_ done en) 152 ∧ Fr [t] w w'
set_option maxRecDepth 100000 in
set_option maxHeartbeats 3200000 in
theorem cTell_4 {o oc g gb gr A T : Nat} {L : List (Int × Int)} {bs rs : List (List Value)} (t : Nat) (w : World) (h : MemAt w o oc g gb gr A T L bs rs) (ok : Bool) (ver done : Int) (en : Bool) (B : Blk w t (carT o 4 done en) 152) :
    Calls Try.prog 83 #[.pointer (some ⟨t, 0, none⟩), .agg #[.bool ok, .int .u64 0, .int .u64 ver, .int .i64 0, .int .i64 0, .string ⟨#[]⟩, .string ⟨#[]⟩, .bool false, .int .i64 0, .slice none 0 0, .slice none 0 0, .slice none 0 0, .int .i64 0, .int .i64 0, .string ⟨#[]⟩, .int .u64 0, .slice none 0 0, .slice none 0 0, .slice none 0 0, .slice none 0 0, .int .i64 0, .string ⟨#[]⟩, .string ⟨#[]⟩, .int .u64 0, .int .i64 0]] w (CTell w o t 5 ver en) := by
  have hb0 : Below w.heap.size w (w.alloc (.cells #[.bool ok, .int .u64 0, .int .u64 ver, .int .i64 0, .int .i64 0, .string ⟨#[]⟩, .string ⟨#[]⟩, .bool false, .int .i64 0, .slice none 0 0, .slice none 0 0, .slice none 0 0, .int .i64 0, .int .i64 0, .string ⟨#[]⟩, .int .u64 0, .slice none 0 0, .slice none 0 0, .slice none 0 0, .slice none 0 0, .int .i64 0, .string ⟨#[]⟩, .string ⟨#[]⟩, .int .u64 0, .int .i64 0] 50)) := by (repeat (first | exact Below.refl _ _ | assumption | refine below_alloc2 ?_ (by first | exact Nat.le_refl _ | omega) _ | refine Below.drew ?_ | refine below_drewN ?_ _ | refine below_push2 ?_ ‹_› (by first | exact Nat.le_refl _ | omega) | refine Below.setCell ?_ (by first | (simp; done) | (simp; omega) | omega) _))
  have B1 := B.below hb0
  have h1 := h.below hb0
  have BR := Blk.new w #[.bool ok, .int .u64 0, .int .u64 ver, .int .i64 0, .int .i64 0, .string ⟨#[]⟩, .string ⟨#[]⟩, .bool false, .int .i64 0, .slice none 0 0, .slice none 0 0, .slice none 0 0, .int .i64 0, .int .i64 0, .string ⟨#[]⟩, .int .u64 0, .slice none 0 0, .slice none 0 0, .slice none 0 0, .slice none 0 0, .int .i64 0, .string ⟨#[]⟩, .string ⟨#[]⟩, .int .u64 0, .int .i64 0] 50
  have hself := setCell_self (i := 9) (v := .bool false) B1 rfl
  have f9 := B1.free 9
  have c9 := B1.at 9 rfl
  have hlt := B.lt
  go_enter Try.func83, Try.ntmps83
  go_wp2_with fail
  try rw [hself]
  clear hself f9 c9
  generalize w.alloc (.cells #[.bool ok, .int .u64 0, .int .u64 ver, .int .i64 0, .int .i64 0, .string ⟨#[]⟩, .string ⟨#[]⟩, .bool false, .int .i64 0, .slice none 0 0, .slice none 0 0, .slice none 0 0, .int .i64 0, .int .i64 0, .string ⟨#[]⟩, .int .u64 0, .slice none 0 0, .slice none 0 0, .slice none 0 0, .slice none 0 0, .int .i64 0, .string ⟨#[]⟩, .string ⟨#[]⟩, .int .u64 0, .int .i64 0] 50) = w1 at hb0 B1 h1 BR ⊢
  refine (cnone_on t 4 done en _ h1 B1 rfl).mono ?_
  rintro e w2 ⟨rfl, rfl⟩
  have f6 := B1.free 6
  have f8 := B1.free 8
  have f10 := B1.free 10
  have c3 := B1.at 3 rfl
  have c5 := B1.at 5 rfl
  have c6 := B1.at 6 rfl
  have c8 := B1.at 8 rfl
  have c10 := B1.at 10 rfl
  have r0 := BR.at 0 rfl
  have r1 := BR.at 1 rfl
  have r2 := BR.at 2 rfl
  clear BR
  go_wp2_with fail
  go_end0
  exact ⟨rfl, by simpa [carT, carA] using ((B1.set 8 (.int .u64 ver)).set 6 (.int .i64 7)).set 6 (.int .i64 5), (Fr.of_below hb0).trans ((((Fr.refl _ _).set _ _ (.inl (by simp))).set _ _ (.inl (by simp))).set _ _ (.inl (by simp)))⟩
set_option maxRecDepth 100000 in
set_option maxHeartbeats 3200000 in
theorem cTell_5 {o oc g gb gr A T : Nat} {L : List (Int × Int)} {bs rs : List (List Value)} (t : Nat) (w : World) (h : MemAt w o oc g gb gr A T L bs rs) (ok : Bool) (word done : Int) (en : Bool) (B : Blk w t (carT o 5 done en) 152) :
    Calls Try.prog 83 #[.pointer (some ⟨t, 0, none⟩), .agg #[.bool ok, .int .u64 word, .int .u64 1, .int .i64 0, .int .i64 0, .string ⟨#[]⟩, .string ⟨#[]⟩, .bool false, .int .i64 0, .slice none 0 0, .slice none 0 0, .slice none 0 0, .int .i64 0, .int .i64 0, .string ⟨#[]⟩, .int .u64 0, .slice none 0 0, .slice none 0 0, .slice none 0 0, .slice none 0 0, .int .i64 0, .string ⟨#[]⟩, .string ⟨#[]⟩, .int .u64 0, .int .i64 0]] w (CTell w o t 6 done en) := by
  have hb0 : Below w.heap.size w (w.alloc (.cells #[.bool ok, .int .u64 word, .int .u64 1, .int .i64 0, .int .i64 0, .string ⟨#[]⟩, .string ⟨#[]⟩, .bool false, .int .i64 0, .slice none 0 0, .slice none 0 0, .slice none 0 0, .int .i64 0, .int .i64 0, .string ⟨#[]⟩, .int .u64 0, .slice none 0 0, .slice none 0 0, .slice none 0 0, .slice none 0 0, .int .i64 0, .string ⟨#[]⟩, .string ⟨#[]⟩, .int .u64 0, .int .i64 0] 50)) := by (repeat (first | exact Below.refl _ _ | assumption | refine below_alloc2 ?_ (by first | exact Nat.le_refl _ | omega) _ | refine Below.drew ?_ | refine below_drewN ?_ _ | refine below_push2 ?_ ‹_› (by first | exact Nat.le_refl _ | omega) | refine Below.setCell ?_ (by first | (simp; done) | (simp; omega) | omega) _))
  have B1 := B.below hb0
  have h1 := h.below hb0
  have BR := Blk.new w #[.bool ok, .int .u64 word, .int .u64 1, .int .i64 0, .int .i64 0, .string ⟨#[]⟩, .string ⟨#[]⟩, .bool false, .int .i64 0, .slice none 0 0, .slice none 0 0, .slice none 0 0, .int .i64 0, .int .i64 0, .string ⟨#[]⟩, .int .u64 0, .slice none 0 0, .slice none 0 0, .slice none 0 0, .slice none 0 0, .int .i64 0, .string ⟨#[]⟩, .string ⟨#[]⟩, .int .u64 0, .int .i64 0] 50
  have hself := setCell_self (i := 9) (v := .bool false) B1 rfl
  have f9 := B1.free 9
  have c9 := B1.at 9 rfl
  have hlt := B.lt
  go_enter Try.func83, Try.ntmps83
  go_wp2_with fail
  try rw [hself]
  clear hself f9 c9
  generalize w.alloc (.cells #[.bool ok, .int .u64 word, .int .u64 1, .int .i64 0, .int .i64 0, .string ⟨#[]⟩, .string ⟨#[]⟩, .bool false, .int .i64 0, .slice none 0 0, .slice none 0 0, .slice none 0 0, .int .i64 0, .int .i64 0, .string ⟨#[]⟩, .int .u64 0, .slice none 0 0, .slice none 0 0, .slice none 0 0, .slice none 0 0, .int .i64 0, .string ⟨#[]⟩, .string ⟨#[]⟩, .int .u64 0, .int .i64 0] 50) = w1 at hb0 B1 h1 BR ⊢
  refine (cnone_on t 5 done en _ h1 B1 rfl).mono ?_
  rintro e w2 ⟨rfl, rfl⟩
  have f6 := B1.free 6
  have f8 := B1.free 8
  have f10 := B1.free 10
  have c3 := B1.at 3 rfl
  have c5 := B1.at 5 rfl
  have c6 := B1.at 6 rfl
  have c8 := B1.at 8 rfl
  have c10 := B1.at 10 rfl
  have r0 := BR.at 0 rfl
  have r1 := BR.at 1 rfl
  have r2 := BR.at 2 rfl
  clear BR
  go_upto_region 24 with (fail)
  go_still_tail 8, (by kernel_rfl)
  go_wp2_with fail
  refine (cto_yes t 6 (carT o 5 done en) (show 6 < 11 by decide) _ B1.drew).mono ?_
  rintro e w2 ⟨rfl, rfl⟩
  go_wp2_with fail
  go_end0
  exact ⟨rfl, by simpa [carT, carA] using ((B1.set 6 (.int .i64 8)).set 6 (.int .i64 6)).drew, ((Fr.of_below hb0).trans (((Fr.refl _ _).set _ _ (.inl (by simp))).set _ _ (.inl (by simp)))).trans (Fr.of_below (Below.refl _ _).drew)⟩
set_option maxRecDepth 100000 in
set_option maxHeartbeats 3200000 in
theorem cTell_6 {o oc g gb gr A T : Nat} {L : List (Int × Int)} {bs rs : List (List Value)} (t : Nat) (w : World) (h : MemAt w o oc g gb gr A T L bs rs) (ok : Bool) (word ver done : Int) (en : Bool) (B : Blk w t (carT o 6 done en) 152) :
    Calls Try.prog 83 #[.pointer (some ⟨t, 0, none⟩), .agg #[.bool ok, .int .u64 word, .int .u64 ver, .int .i64 0, .int .i64 0, .string ⟨#[]⟩, .string ⟨#[]⟩, .bool false, .int .i64 0, .slice none 0 0, .slice none 0 0, .slice none 0 0, .int .i64 0, .int .i64 0, .string ⟨#[]⟩, .int .u64 0, .slice none 0 0, .slice none 0 0, .slice none 0 0, .slice none 0 0, .int .i64 0, .string ⟨#[]⟩, .string ⟨#[]⟩, .int .u64 0, .int .i64 0]] w (CTell w o t 7 done en) := by
  have hb0 : Below w.heap.size w (w.alloc (.cells #[.bool ok, .int .u64 word, .int .u64 ver, .int .i64 0, .int .i64 0, .string ⟨#[]⟩, .string ⟨#[]⟩, .bool false, .int .i64 0, .slice none 0 0, .slice none 0 0, .slice none 0 0, .int .i64 0, .int .i64 0, .string ⟨#[]⟩, .int .u64 0, .slice none 0 0, .slice none 0 0, .slice none 0 0, .slice none 0 0, .int .i64 0, .string ⟨#[]⟩, .string ⟨#[]⟩, .int .u64 0, .int .i64 0] 50)) := by (repeat (first | exact Below.refl _ _ | assumption | refine below_alloc2 ?_ (by first | exact Nat.le_refl _ | omega) _ | refine Below.drew ?_ | refine below_drewN ?_ _ | refine below_push2 ?_ ‹_› (by first | exact Nat.le_refl _ | omega) | refine Below.setCell ?_ (by first | (simp; done) | (simp; omega) | omega) _))
  have B1 := B.below hb0
  have h1 := h.below hb0
  have BR := Blk.new w #[.bool ok, .int .u64 word, .int .u64 ver, .int .i64 0, .int .i64 0, .string ⟨#[]⟩, .string ⟨#[]⟩, .bool false, .int .i64 0, .slice none 0 0, .slice none 0 0, .slice none 0 0, .int .i64 0, .int .i64 0, .string ⟨#[]⟩, .int .u64 0, .slice none 0 0, .slice none 0 0, .slice none 0 0, .slice none 0 0, .int .i64 0, .string ⟨#[]⟩, .string ⟨#[]⟩, .int .u64 0, .int .i64 0] 50
  have hself := setCell_self (i := 9) (v := .bool false) B1 rfl
  have f9 := B1.free 9
  have c9 := B1.at 9 rfl
  have hlt := B.lt
  go_enter Try.func83, Try.ntmps83
  go_wp2_with fail
  try rw [hself]
  clear hself f9 c9
  generalize w.alloc (.cells #[.bool ok, .int .u64 word, .int .u64 ver, .int .i64 0, .int .i64 0, .string ⟨#[]⟩, .string ⟨#[]⟩, .bool false, .int .i64 0, .slice none 0 0, .slice none 0 0, .slice none 0 0, .int .i64 0, .int .i64 0, .string ⟨#[]⟩, .int .u64 0, .slice none 0 0, .slice none 0 0, .slice none 0 0, .slice none 0 0, .int .i64 0, .string ⟨#[]⟩, .string ⟨#[]⟩, .int .u64 0, .int .i64 0] 50) = w1 at hb0 B1 h1 BR ⊢
  refine (cnone_on t 6 done en _ h1 B1 rfl).mono ?_
  rintro e w2 ⟨rfl, rfl⟩
  have f6 := B1.free 6
  have f8 := B1.free 8
  have f10 := B1.free 10
  have c3 := B1.at 3 rfl
  have c5 := B1.at 5 rfl
  have c6 := B1.at 6 rfl
  have c8 := B1.at 8 rfl
  have c10 := B1.at 10 rfl
  have r0 := BR.at 0 rfl
  have r1 := BR.at 1 rfl
  have r2 := BR.at 2 rfl
  clear BR
  go_wp2_with fail
  go_end0
  exact ⟨rfl, by simpa [carT, carA] using B1.set 6 (.int .i64 7), (Fr.of_below hb0).trans ((Fr.refl _ _).set _ _ (.inl (by simp)))⟩
set_option maxRecDepth 100000 in
set_option maxHeartbeats 3200000 in
theorem cTell_7 {o oc g gb gr A T : Nat} {L : List (Int × Int)} {bs rs : List (List Value)} (t : Nat) (w : World) (h : MemAt w o oc g gb gr A T L bs rs) (ok : Bool) (word ver done : Int) (en : Bool) (B : Blk w t (carT o 7 done en) 152) :
    Calls Try.prog 83 #[.pointer (some ⟨t, 0, none⟩), .agg #[.bool ok, .int .u64 word, .int .u64 ver, .int .i64 0, .int .i64 0, .string ⟨#[]⟩, .string ⟨#[]⟩, .bool false, .int .i64 0, .slice none 0 0, .slice none 0 0, .slice none 0 0, .int .i64 0, .int .i64 0, .string ⟨#[]⟩, .int .u64 0, .slice none 0 0, .slice none 0 0, .slice none 0 0, .slice none 0 0, .int .i64 0, .string ⟨#[]⟩, .string ⟨#[]⟩, .int .u64 0, .int .i64 0]] w (CTell w o t 8 done ok) := by
  have hb0 : Below w.heap.size w (w.alloc (.cells #[.bool ok, .int .u64 word, .int .u64 ver, .int .i64 0, .int .i64 0, .string ⟨#[]⟩, .string ⟨#[]⟩, .bool false, .int .i64 0, .slice none 0 0, .slice none 0 0, .slice none 0 0, .int .i64 0, .int .i64 0, .string ⟨#[]⟩, .int .u64 0, .slice none 0 0, .slice none 0 0, .slice none 0 0, .slice none 0 0, .int .i64 0, .string ⟨#[]⟩, .string ⟨#[]⟩, .int .u64 0, .int .i64 0] 50)) := by (repeat (first | exact Below.refl _ _ | assumption | refine below_alloc2 ?_ (by first | exact Nat.le_refl _ | omega) _ | refine Below.drew ?_ | refine below_drewN ?_ _ | refine below_push2 ?_ ‹_› (by first | exact Nat.le_refl _ | omega) | refine Below.setCell ?_ (by first | (simp; done) | (simp; omega) | omega) _))
  have B1 := B.below hb0
  have h1 := h.below hb0
  have BR := Blk.new w #[.bool ok, .int .u64 word, .int .u64 ver, .int .i64 0, .int .i64 0, .string ⟨#[]⟩, .string ⟨#[]⟩, .bool false, .int .i64 0, .slice none 0 0, .slice none 0 0, .slice none 0 0, .int .i64 0, .int .i64 0, .string ⟨#[]⟩, .int .u64 0, .slice none 0 0, .slice none 0 0, .slice none 0 0, .slice none 0 0, .int .i64 0, .string ⟨#[]⟩, .string ⟨#[]⟩, .int .u64 0, .int .i64 0] 50
  have hself := setCell_self (i := 9) (v := .bool false) B1 rfl
  have f9 := B1.free 9
  have c9 := B1.at 9 rfl
  have hlt := B.lt
  go_enter Try.func83, Try.ntmps83
  go_wp2_with fail
  try rw [hself]
  clear hself f9 c9
  generalize w.alloc (.cells #[.bool ok, .int .u64 word, .int .u64 ver, .int .i64 0, .int .i64 0, .string ⟨#[]⟩, .string ⟨#[]⟩, .bool false, .int .i64 0, .slice none 0 0, .slice none 0 0, .slice none 0 0, .int .i64 0, .int .i64 0, .string ⟨#[]⟩, .int .u64 0, .slice none 0 0, .slice none 0 0, .slice none 0 0, .slice none 0 0, .int .i64 0, .string ⟨#[]⟩, .string ⟨#[]⟩, .int .u64 0, .int .i64 0] 50) = w1 at hb0 B1 h1 BR ⊢
  refine (cnone_on t 7 done en _ h1 B1 rfl).mono ?_
  rintro e w2 ⟨rfl, rfl⟩
  have f6 := B1.free 6
  have f8 := B1.free 8
  have f10 := B1.free 10
  have c3 := B1.at 3 rfl
  have c5 := B1.at 5 rfl
  have c6 := B1.at 6 rfl
  have c8 := B1.at 8 rfl
  have c10 := B1.at 10 rfl
  have r0 := BR.at 0 rfl
  have r1 := BR.at 1 rfl
  have r2 := BR.at 2 rfl
  clear BR
  go_wp2_with fail
  go_end0
  exact ⟨rfl, by simpa [carT, carA] using (B1.set 10 (.bool ok)).set 6 (.int .i64 8), (Fr.of_below hb0).trans (((Fr.refl _ _).set _ _ (.inl (by simp))).set _ _ (.inl (by simp)))⟩
set_option maxRecDepth 100000 in
set_option maxHeartbeats 3200000 in
theorem cNext_5 {o oc g gb gr A T : Nat} {L : List (Int × Int)} {bs rs : List (List Value)} (t : Nat) (w : World) (h : MemAt w o oc g gb gr A T L bs rs) (done : Int) (en : Bool) (B : Blk w t (carT o 5 done en) 152) :
    Calls Try.prog 79 #[.pointer (some ⟨t, 0, none⟩)] w fun e w' => e = .returned (.tuple #[.agg (accY 1 (gateI A T) 0 0), .bool true]) ∧ Below w.heap.size w w' := by
  have hB0 : Below w.heap.size w (w.alloc (.cells (accY 0 0 0 0) 39)) := by (repeat (first | exact Below.refl _ _ | assumption | refine below_alloc2 ?_ (by first | exact Nat.le_refl _ | omega) _ | refine Below.drew ?_ | refine below_drewN ?_ _ | refine below_push2 ?_ ‹_› (by first | exact Nat.le_refl _ | omega) | refine Below.setCell ?_ (by first | (simp; done) | (simp; omega) | omega) _))
  have h1 := h.below hB0
  have B1 := B.below hB0
  go_enter Try.func79, Try.ntmps79
  go_wp2_with fail
  refine (cnone_on t 5 done en _ h1 B1 rfl).mono ?_
  rintro e w1 ⟨rfl, rfl⟩
  have c0 := B1.at 0 rfl
  have c6 := B1.at 6 rfl
  go_wp2_with fail
  refine (gate_any _ h1).mono ?_
  rintro e w2 ⟨rfl, hb2⟩
  have BR := (Blk.new w (accY 0 0 0 0) 39).below hb2
  have hB := below_push2 hB0 hb2 (Nat.le_refl _)
  clear c0 c6 h1 B1 hB0 hb2
  go_wp2_with (refine wpList_store_row rfl 39 _ _ rfl w.heap.size _ rfl rfl 39 _ BR.h (by kernel_rfl) (by rfl) (by kernel_rfl) ?_)
  refine bodyPost_ret (v := .tuple #[.agg (accY 1 (gateI A T) 0 0), .bool true]) (results_cell_tmp rfl _ _ w.heap.size 39 (accY 1 (gateI A T) 0 0) (0, 0) _ (.bool true) rfl rfl (Blk.row BR (accY 1 (gateI A T) 0 0)).h Try.underlying39 rfl (by kernel_rfl)) rfl ⟨rfl, below_setRow hB (by omega) _⟩
set_option maxRecDepth 100000 in
set_option maxHeartbeats 3200000 in
theorem cNext_4 {o oc g gb gr A T : Nat} {L : List (Int × Int)} {bs rs : List (List Value)} (t : Nat) (w : World) (h : MemAt w o oc g gb gr A T L bs rs) (done : Int) (en : Bool) (B : Blk w t (carT o 4 done en) 152) :
    Calls Try.prog 79 #[.pointer (some ⟨t, 0, none⟩)] w fun e w' => e = .returned (.tuple #[.agg (accY 1 (atI A T 3 0) 0 0), .bool true]) ∧ Below w.heap.size w w' := by
  have hB : Below w.heap.size w (w.alloc (.cells (accY 0 0 0 0) 39)) := by (repeat (first | exact Below.refl _ _ | assumption | refine below_alloc2 ?_ (by first | exact Nat.le_refl _ | omega) _ | refine Below.drew ?_ | refine below_drewN ?_ _ | refine below_push2 ?_ ‹_› (by first | exact Nat.le_refl _ | omega) | refine Below.setCell ?_ (by first | (simp; done) | (simp; omega) | omega) _))
  have h1 := h.below hB
  have B1 := B.below hB
  have hlt := B.lt
  have hne : ¬ w.heap.size = t := by omega
  have hne' : ¬ t = w.heap.size := by omega
  go_enter Try.func79, Try.ntmps79
  go_wp2_with fail
  refine (cnone_on t 4 done en _ h1 B1 rfl).mono ?_
  rintro e w1 ⟨rfl, rfl⟩
  have c0 := B1.at 0 rfl
  have c3 := B1.at 3 rfl
  have c6 := B1.at 6 rfl
  have hM := h1.below (Below.refl _ _).drew
  go_upto_region 12 with (fail)
  refine wp_region_held_drew (S := fun w' => w'.cell? ⟨t, 0, none⟩ = some (.pointer (some ⟨o, 0, none⟩)) ∧ w'.cell? ⟨t, 3, none⟩ = some (.int .i64 0)) (by kernel_rfl) ?_ (fun hHeld => ?_)
  · exact ⟨c0, c3⟩
  refine wpAnyH_take (i := 0) (oi := ⟨_, _, _, _, _, _⟩) (v := ?_) rfl (by kernel_rfl) (by kernel_rfl) (by kernel_rfl) (fun _ _ _ h => h) (Or.inl ⟨by rfl, ?_⟩) (by assumption) ?_
  rotate_left
  · intro wS hSw
    try dsimp only at hSw
    go_simp
    try with_reducible rfl
  try simp only [Act.put, List.setIfInBounds_toArray, List.set_cons_zero, List.set_cons_succ]
  refine wpAnyH_take (i := 1) (oi := ⟨_, _, _, _, _, _⟩) (v := ?_) rfl (by kernel_rfl) (by kernel_rfl) (by kernel_rfl) (fun _ _ _ h => h) (Or.inl ⟨by rfl, ?_⟩) (by assumption) ?_
  rotate_left
  · intro wS hSw
    try dsimp only at hSw
    go_simp
    try with_reducible rfl
  try simp only [Act.put, List.setIfInBounds_toArray, List.set_cons_zero, List.set_cons_succ]
  refine wpAnyH_take (i := 2) (oi := ⟨_, _, _, _, _, _⟩) (v := ?_) rfl (by kernel_rfl) (by kernel_rfl) (by kernel_rfl) (fun _ _ _ h => h) (Or.inl ⟨by rfl, ?_⟩) (by assumption) ?_
  rotate_left
  · intro wS hSw
    try dsimp only at hSw
    go_simp
    try with_reducible rfl
  try simp only [Act.put, List.setIfInBounds_toArray, List.set_cons_zero, List.set_cons_succ]
  refine wpAnyH_take (i := 3) (oi := ⟨_, _, _, _, _, _⟩) (v := ?_) rfl (by kernel_rfl) (by kernel_rfl) (by kernel_rfl) (fun _ _ _ h => h) (Or.inl ⟨by rfl, ?_⟩) (by assumption) ?_
  rotate_left
  · intro wS hSw
    try dsimp only at hSw
    go_simp
    try with_reducible rfl
  try simp only [Act.put, List.setIfInBounds_toArray, List.set_cons_zero, List.set_cons_succ]
  refine wpAnyH_take (i := 4) (oi := ⟨_, _, _, _, _, _⟩) (v := ?_) rfl (by kernel_rfl) (by kernel_rfl) (by kernel_rfl) (fun _ _ _ h => h) (Or.inl ⟨by rfl, ?_⟩) (by assumption) ?_
  rotate_left
  · intro wS hSw
    try dsimp only at hSw
    go_simp
    try with_reducible rfl
  try simp only [Act.put, List.setIfInBounds_toArray, List.set_cons_zero, List.set_cons_succ]
  refine wpAnyH_take (i := 5) (oi := ⟨_, _, _, _, _, _⟩) (v := ?_) rfl (by kernel_rfl) (by kernel_rfl) (by kernel_rfl) (fun _ _ _ h => h) (Or.inl ⟨by rfl, ?_⟩) (by assumption) ?_
  rotate_left
  · intro wS hSw
    try dsimp only at hSw
    go_simp
    try with_reducible rfl
  try simp only [Act.put, List.setIfInBounds_toArray, List.set_cons_zero, List.set_cons_succ]
  refine wpAnyH_take (i := 6) (oi := ⟨_, _, _, _, _, _⟩) (v := ?_) rfl (by kernel_rfl) (by kernel_rfl) (by kernel_rfl) (fun _ _ _ h => h) (Or.inl ⟨by rfl, ?_⟩) (by assumption) ?_
  rotate_left
  · intro wS hSw
    try dsimp only at hSw
    go_simp
    try with_reducible rfl
  try simp only [Act.put, List.setIfInBounds_toArray, List.set_cons_zero, List.set_cons_succ]
  refine wpAnyH_take (i := 7) (oi := ⟨_, _, _, _, _, _⟩) (v := ?_) rfl (by kernel_rfl) (by kernel_rfl) (by kernel_rfl) (fun _ _ _ h => h) (Or.inl ⟨by rfl, ?_⟩) (by assumption) ?_
  rotate_left
  · intro wS hSw
    try dsimp only at hSw
    go_simp
    try with_reducible rfl
  try simp only [Act.put, List.setIfInBounds_toArray, List.set_cons_zero, List.set_cons_succ]
  refine wpAnyH_take (i := 8) (oi := ⟨_, _, _, _, _, _⟩) (v := ?_) rfl (by kernel_rfl) (by kernel_rfl) (by kernel_rfl) (fun _ _ _ h => h) (Or.inl ⟨by rfl, ?_⟩) (by assumption) ?_
  rotate_left
  · intro wS hSw
    try dsimp only at hSw
    go_simp
    try with_reducible rfl
  try simp only [Act.put, List.setIfInBounds_toArray, List.set_cons_zero, List.set_cons_succ]
  refine wpAnyH_ready (rs := [9]) (by kernel_rfl) (by simp) ?_
  refine AllReadyH.cons rfl (fun K hK => ?_) AllReadyH.nil
  go_simp
  refine (done_any 0 _ hM (by omega) (by omega)).mono ?_
  rintro e w2 ⟨rfl, hb2⟩
  have hB2 := below_push2 hB.drew hb2 (Nat.le_refl _)
  have B2 := (B1.drew).below hb2
  have BR := ((Blk.new w (accY 0 0 0 0) 39).drew).below hb2
  refine hK.out _ _ ⟨B2.at 0 rfl, B2.at 3 rfl⟩ (fun hHeld => ?_)
  clear hK K hb2
  refine wpAnyH_take (i := 10) (oi := ⟨_, _, _, _, _, _⟩) (v := ?_) rfl (by kernel_rfl) (by kernel_rfl) (by kernel_rfl) (fun _ _ _ h => h) (Or.inl ⟨by rfl, ?_⟩) (by assumption) ?_
  rotate_left
  · intro wS hSw
    try dsimp only at hSw
    go_simp
    try with_reducible rfl
  try simp only [Act.put, List.setIfInBounds_toArray, List.set_cons_zero, List.set_cons_succ]
  have B3 := (Fr.row (S := [w.heap.size]) (w := w2) w.heap.size (accY 1 (atI A T 3 0) 0 0) (by simp)).blk B2 (by simpa using hne')
  refine wpAnyH_ready (rs := [11]) (by kernel_rfl) (by simp) ?_
  refine AllReadyH.cons rfl (fun K hK => ?_) AllReadyH.nil
  rw [if_pos (by rfl)]
  refine wp_store_row 39 _ _ rfl w.heap.size _ rfl rfl 39 _ BR.h (by kernel_rfl) (by rfl) (by kernel_rfl) ?_
  refine hK.out _ _ ?_ (fun hHeld => ?_)
  · exact ⟨B3.at 0 rfl, B3.at 3 rfl⟩
  clear hK K
  refine wpAnyH_take (i := 12) (oi := ⟨_, _, _, _, _, _⟩) (v := ?_) rfl (by kernel_rfl) (by kernel_rfl) (by kernel_rfl) (fun _ _ _ h => h) (Or.inl ⟨by rfl, ?_⟩) (by assumption) ?_
  rotate_left
  · intro wS hSw
    try dsimp only at hSw
    go_simp
    try with_reducible rfl
  try simp only [Act.put, List.setIfInBounds_toArray, List.set_cons_zero, List.set_cons_succ]
  refine wpAnyH_done (by kernel_rfl) ?_ _
  go_wp2_with fail
  refine bodyPost_ret (v := .tuple #[.agg (accY 1 (atI A T 3 0) 0 0), .bool true]) (results_cell_tmp rfl _ _ w.heap.size 39 (accY 1 (atI A T 3 0) 0 0) (0, 0) _ (.bool true) rfl rfl (Blk.row BR (accY 1 (atI A T 3 0) 0 0)).h Try.underlying39 rfl (by kernel_rfl)) rfl ⟨rfl, below_setRow hB2 (by omega) _⟩
set_option maxRecDepth 100000 in
set_option maxHeartbeats 3200000 in
theorem cNext_6 {o oc g gb gr A T : Nat} {L : List (Int × Int)} {bs rs : List (List Value)} (t : Nat) (w : World) (h : MemAt w o oc g gb gr A T L bs rs) (done : Int) (en : Bool) (B : Blk w t (carT o 6 done en) 152) :
    Calls Try.prog 79 #[.pointer (some ⟨t, 0, none⟩)] w fun e w' => e = .returned (.tuple #[.agg (accY 3 (atI A T 3 0) done 1), .bool true]) ∧ Below w.heap.size w w' := by
  have hB : Below w.heap.size w (w.alloc (.cells (accY 0 0 0 0) 39)) := by (repeat (first | exact Below.refl _ _ | assumption | refine below_alloc2 ?_ (by first | exact Nat.le_refl _ | omega) _ | refine Below.drew ?_ | refine below_drewN ?_ _ | refine below_push2 ?_ ‹_› (by first | exact Nat.le_refl _ | omega) | refine Below.setCell ?_ (by first | (simp; done) | (simp; omega) | omega) _))
  have h1 := h.below hB
  have B1 := B.below hB
  have hlt := B.lt
  have hne : ¬ w.heap.size = t := by omega
  have hne' : ¬ t = w.heap.size := by omega
  go_enter Try.func79, Try.ntmps79
  go_wp2_with fail
  refine (cnone_on t 6 done en _ h1 B1 rfl).mono ?_
  rintro e w1 ⟨rfl, rfl⟩
  have c0 := B1.at 0 rfl
  have c3 := B1.at 3 rfl
  have c4 := B1.at 4 rfl
  have c5 := B1.at 5 rfl
  have c6 := B1.at 6 rfl
  have c8 := B1.at 8 rfl
  have hM := h1.below (Below.refl _ _).drew
  go_upto_region 14 with (fail)
  refine wp_region_held_drew (S := fun w' => w'.cell? ⟨t, 0, none⟩ = some (.pointer (some ⟨o, 0, none⟩)) ∧ w'.cell? ⟨t, 3, none⟩ = some (.int .i64 0) ∧ w'.cell? ⟨t, 8, none⟩ = some (.int .u64 done) ∧ w'.cell? ⟨t, 4, none⟩ = some (.int .u64 0)) (by kernel_rfl) ?_ (fun hHeld => ?_)
  · exact ⟨c0, c3, c8, c4⟩
  refine wpAnyH_take (i := 0) (oi := ⟨_, _, _, _, _, _⟩) (v := ?_) rfl (by kernel_rfl) (by kernel_rfl) (by kernel_rfl) (fun _ _ _ h => h) (Or.inl ⟨by rfl, ?_⟩) (by assumption) ?_
  rotate_left
  · intro wS hSw
    try dsimp only at hSw
    go_simp
    try with_reducible rfl
  try simp only [Act.put, List.setIfInBounds_toArray, List.set_cons_zero, List.set_cons_succ]
  refine wpAnyH_take (i := 1) (oi := ⟨_, _, _, _, _, _⟩) (v := ?_) rfl (by kernel_rfl) (by kernel_rfl) (by kernel_rfl) (fun _ _ _ h => h) (Or.inl ⟨by rfl, ?_⟩) (by assumption) ?_
  rotate_left
  · intro wS hSw
    try dsimp only at hSw
    go_simp
    try with_reducible rfl
  try simp only [Act.put, List.setIfInBounds_toArray, List.set_cons_zero, List.set_cons_succ]
  refine wpAnyH_take (i := 2) (oi := ⟨_, _, _, _, _, _⟩) (v := ?_) rfl (by kernel_rfl) (by kernel_rfl) (by kernel_rfl) (fun _ _ _ h => h) (Or.inl ⟨by rfl, ?_⟩) (by assumption) ?_
  rotate_left
  · intro wS hSw
    try dsimp only at hSw
    go_simp
    try with_reducible rfl
  try simp only [Act.put, List.setIfInBounds_toArray, List.set_cons_zero, List.set_cons_succ]
  refine wpAnyH_take (i := 3) (oi := ⟨_, _, _, _, _, _⟩) (v := ?_) rfl (by kernel_rfl) (by kernel_rfl) (by kernel_rfl) (fun _ _ _ h => h) (Or.inl ⟨by rfl, ?_⟩) (by assumption) ?_
  rotate_left
  · intro wS hSw
    try dsimp only at hSw
    go_simp
    try with_reducible rfl
  try simp only [Act.put, List.setIfInBounds_toArray, List.set_cons_zero, List.set_cons_succ]
  refine wpAnyH_take (i := 4) (oi := ⟨_, _, _, _, _, _⟩) (v := ?_) rfl (by kernel_rfl) (by kernel_rfl) (by kernel_rfl) (fun _ _ _ h => h) (Or.inl ⟨by rfl, ?_⟩) (by assumption) ?_
  rotate_left
  · intro wS hSw
    try dsimp only at hSw
    go_simp
    try with_reducible rfl
  try simp only [Act.put, List.setIfInBounds_toArray, List.set_cons_zero, List.set_cons_succ]
  refine wpAnyH_take (i := 5) (oi := ⟨_, _, _, _, _, _⟩) (v := ?_) rfl (by kernel_rfl) (by kernel_rfl) (by kernel_rfl) (fun _ _ _ h => h) (Or.inl ⟨by rfl, ?_⟩) (by assumption) ?_
  rotate_left
  · intro wS hSw
    try dsimp only at hSw
    go_simp
    try with_reducible rfl
  try simp only [Act.put, List.setIfInBounds_toArray, List.set_cons_zero, List.set_cons_succ]
  refine wpAnyH_take (i := 6) (oi := ⟨_, _, _, _, _, _⟩) (v := ?_) rfl (by kernel_rfl) (by kernel_rfl) (by kernel_rfl) (fun _ _ _ h => h) (Or.inl ⟨by rfl, ?_⟩) (by assumption) ?_
  rotate_left
  · intro wS hSw
    try dsimp only at hSw
    go_simp
    try with_reducible rfl
  try simp only [Act.put, List.setIfInBounds_toArray, List.set_cons_zero, List.set_cons_succ]
  refine wpAnyH_take (i := 7) (oi := ⟨_, _, _, _, _, _⟩) (v := ?_) rfl (by kernel_rfl) (by kernel_rfl) (by kernel_rfl) (fun _ _ _ h => h) (Or.inl ⟨by rfl, ?_⟩) (by assumption) ?_
  rotate_left
  · intro wS hSw
    try dsimp only at hSw
    go_simp
    try with_reducible rfl
  try simp only [Act.put, List.setIfInBounds_toArray, List.set_cons_zero, List.set_cons_succ]
  refine wpAnyH_take (i := 8) (oi := ⟨_, _, _, _, _, _⟩) (v := ?_) rfl (by kernel_rfl) (by kernel_rfl) (by kernel_rfl) (fun _ _ _ h => h) (Or.inl ⟨by rfl, ?_⟩) (by assumption) ?_
  rotate_left
  · intro wS hSw
    try dsimp only at hSw
    go_simp
    try with_reducible rfl
  try simp only [Act.put, List.setIfInBounds_toArray, List.set_cons_zero, List.set_cons_succ]
  refine wpAnyH_take (i := 10) (oi := ⟨_, _, _, _, _, _⟩) (v := ?_) rfl (by kernel_rfl) (by kernel_rfl) (by kernel_rfl) (fun _ _ _ h => h) (Or.inl ⟨by rfl, ?_⟩) (by assumption) ?_
  rotate_left
  · intro wS hSw
    try dsimp only at hSw
    go_simp
    try with_reducible rfl
  try simp only [Act.put, List.setIfInBounds_toArray, List.set_cons_zero, List.set_cons_succ]
  refine wpAnyH_take (i := 11) (oi := ⟨_, _, _, _, _, _⟩) (v := ?_) rfl (by kernel_rfl) (by kernel_rfl) (by kernel_rfl) (fun _ _ _ h => h) (Or.inl ⟨by rfl, ?_⟩) (by assumption) ?_
  rotate_left
  · intro wS hSw
    try dsimp only at hSw
    go_simp
    try with_reducible rfl
  try simp only [Act.put, List.setIfInBounds_toArray, List.set_cons_zero, List.set_cons_succ]
  refine wpAnyH_take (i := 12) (oi := ⟨_, _, _, _, _, _⟩) (v := ?_) rfl (by kernel_rfl) (by kernel_rfl) (by kernel_rfl) (fun _ _ _ h => h) (Or.inl ⟨by rfl, ?_⟩) (by assumption) ?_
  rotate_left
  · intro wS hSw
    try dsimp only at hSw
    go_simp
    try with_reducible rfl
  try simp only [Act.put, List.setIfInBounds_toArray, List.set_cons_zero, List.set_cons_succ]
  refine wpAnyH_take (i := 13) (oi := ⟨_, _, _, _, _, _⟩) (v := ?_) rfl (by kernel_rfl) (by kernel_rfl) (by kernel_rfl) (fun _ _ _ h => h) (Or.inl ⟨by rfl, ?_⟩) (by assumption) ?_
  rotate_left
  · intro wS hSw
    try dsimp only at hSw
    go_simp
    try with_reducible rfl
  try simp only [Act.put, List.setIfInBounds_toArray, List.set_cons_zero, List.set_cons_succ]
  refine wpAnyH_take (i := 14) (oi := ⟨_, _, _, _, _, _⟩) (v := ?_) rfl (by kernel_rfl) (by kernel_rfl) (by kernel_rfl) (fun _ _ _ h => h) (Or.inl ⟨by rfl, ?_⟩) (by assumption) ?_
  rotate_left
  · intro wS hSw
    try dsimp only at hSw
    go_simp
    try with_reducible rfl
  try simp only [Act.put, List.setIfInBounds_toArray, List.set_cons_zero, List.set_cons_succ]
  refine wpAnyH_take (i := 15) (oi := ⟨_, _, _, _, _, _⟩) (v := ?_) rfl (by kernel_rfl) (by kernel_rfl) (by kernel_rfl) (fun _ _ _ h => h) (Or.inl ⟨by rfl, ?_⟩) (by assumption) ?_
  rotate_left
  · intro wS hSw
    try dsimp only at hSw
    go_simp
    try with_reducible rfl
  try simp only [Act.put, List.setIfInBounds_toArray, List.set_cons_zero, List.set_cons_succ]
  refine wpAnyH_take (i := 16) (oi := ⟨_, _, _, _, _, _⟩) (v := ?_) rfl (by kernel_rfl) (by kernel_rfl) (by kernel_rfl) (fun _ _ _ h => h) (Or.inl ⟨by rfl, ?_⟩) (by assumption) ?_
  rotate_left
  · intro wS hSw
    try dsimp only at hSw
    go_simp
    try with_reducible rfl
  try simp only [Act.put, List.setIfInBounds_toArray, List.set_cons_zero, List.set_cons_succ]
  refine wpAnyH_take (i := 17) (oi := ⟨_, _, _, _, _, _⟩) (v := ?_) rfl (by kernel_rfl) (by kernel_rfl) (by kernel_rfl) (fun _ _ _ h => h) (Or.inl ⟨by rfl, ?_⟩) (by assumption) ?_
  rotate_left
  · intro wS hSw
    try dsimp only at hSw
    go_simp
    try with_reducible rfl
  try simp only [Act.put, List.setIfInBounds_toArray, List.set_cons_zero, List.set_cons_succ]
  refine wpAnyH_take (i := 18) (oi := ⟨_, _, _, _, _, _⟩) (v := ?_) rfl (by kernel_rfl) (by kernel_rfl) (by kernel_rfl) (fun _ _ _ h => h) (Or.inl ⟨by rfl, ?_⟩) (by assumption) ?_
  rotate_left
  · intro wS hSw
    try dsimp only at hSw
    go_simp
    try with_reducible rfl
  try simp only [Act.put, List.setIfInBounds_toArray, List.set_cons_zero, List.set_cons_succ]
  refine wpAnyH_take (i := 19) (oi := ⟨_, _, _, _, _, _⟩) (v := ?_) rfl (by kernel_rfl) (by kernel_rfl) (by kernel_rfl) (fun _ _ _ h => h) (Or.inl ⟨by rfl, ?_⟩) (by assumption) ?_
  rotate_left
  · intro wS hSw
    try dsimp only at hSw
    go_simp
    try with_reducible rfl
  try simp only [Act.put, List.setIfInBounds_toArray, List.set_cons_zero, List.set_cons_succ]
  refine wpAnyH_ready (rs := [9]) (by kernel_rfl) (by simp) ?_
  refine AllReadyH.cons rfl (fun K hK => ?_) AllReadyH.nil
  go_simp
  refine (done_any 0 _ hM (by omega) (by omega)).mono ?_
  rintro e w2 ⟨rfl, hb2⟩
  have hB2 := below_push2 hB.drew hb2 (Nat.le_refl _)
  have B2 := (B1.drew).below hb2
  have BR := ((Blk.new w (accY 0 0 0 0) 39).drew).below hb2
  refine hK.out _ _ ⟨B2.at 0 rfl, B2.at 3 rfl, B2.at 8 rfl, B2.at 4 rfl⟩ (fun hHeld => ?_)
  clear hK K hb2
  refine wpAnyH_take (i := 20) (oi := ⟨_, _, _, _, _, _⟩) (v := ?_) rfl (by kernel_rfl) (by kernel_rfl) (by kernel_rfl) (fun _ _ _ h => h) (Or.inl ⟨by rfl, ?_⟩) (by assumption) ?_
  rotate_left
  · intro wS hSw
    try dsimp only at hSw
    go_simp
    try with_reducible rfl
  try simp only [Act.put, List.setIfInBounds_toArray, List.set_cons_zero, List.set_cons_succ]
  have B3 := (Fr.row (S := [w.heap.size]) (w := w2) w.heap.size (accY 3 (atI A T 3 0) done 1) (by simp)).blk B2 (by simpa using hne')
  refine wpAnyH_ready (rs := [21]) (by kernel_rfl) (by simp) ?_
  refine AllReadyH.cons rfl (fun K hK => ?_) AllReadyH.nil
  rw [if_pos (by rfl)]
  refine wp_store_row 39 _ _ rfl w.heap.size _ rfl rfl 39 _ BR.h (by kernel_rfl) (by rfl) (by kernel_rfl) ?_
  refine hK.out _ _ ?_ (fun hHeld => ?_)
  · exact ⟨B3.at 0 rfl, B3.at 3 rfl, B3.at 8 rfl, B3.at 4 rfl⟩
  clear hK K
  refine wpAnyH_take (i := 22) (oi := ⟨_, _, _, _, _, _⟩) (v := ?_) rfl (by kernel_rfl) (by kernel_rfl) (by kernel_rfl) (fun _ _ _ h => h) (Or.inl ⟨by rfl, ?_⟩) (by assumption) ?_
  rotate_left
  · intro wS hSw
    try dsimp only at hSw
    go_simp
    try with_reducible rfl
  try simp only [Act.put, List.setIfInBounds_toArray, List.set_cons_zero, List.set_cons_succ]
  refine wpAnyH_done (by kernel_rfl) ?_ _
  go_wp2_with fail
  refine bodyPost_ret (v := .tuple #[.agg (accY 3 (atI A T 3 0) done 1), .bool true]) (results_cell_tmp rfl _ _ w.heap.size 39 (accY 3 (atI A T 3 0) done 1) (0, 0) _ (.bool true) rfl rfl (Blk.row BR (accY 3 (atI A T 3 0) done 1)).h Try.underlying39 rfl (by kernel_rfl)) rfl ⟨rfl, below_setRow hB2 (by omega) _⟩
set_option maxRecDepth 100000 in
set_option maxHeartbeats 3200000 in
theorem cNext_7 {o oc g gb gr A T : Nat} {L : List (Int × Int)} {bs rs : List (List Value)} (t : Nat) (w : World) (h : MemAt w o oc g gb gr A T L bs rs) (done : Int) (en : Bool) (B : Blk w t (carT o 7 done en) 152) :
    Calls Try.prog 79 #[.pointer (some ⟨t, 0, none⟩)] w fun e w' => e = .returned (.tuple #[.agg (accY 3 (gateI A T) 1 0), .bool true]) ∧ Below w.heap.size w w' := by
  have hB : Below w.heap.size w (w.alloc (.cells (accY 0 0 0 0) 39)) := by (repeat (first | exact Below.refl _ _ | assumption | refine below_alloc2 ?_ (by first | exact Nat.le_refl _ | omega) _ | refine Below.drew ?_ | refine below_drewN ?_ _ | refine below_push2 ?_ ‹_› (by first | exact Nat.le_refl _ | omega) | refine Below.setCell ?_ (by first | (simp; done) | (simp; omega) | omega) _))
  have h1 := h.below hB
  have B1 := B.below hB
  have hlt := B.lt
  have hne : ¬ w.heap.size = t := by omega
  have hne' : ¬ t = w.heap.size := by omega
  go_enter Try.func79, Try.ntmps79
  go_wp2_with fail
  refine (cnone_on t 7 done en _ h1 B1 rfl).mono ?_
  rintro e w1 ⟨rfl, rfl⟩
  have c0 := B1.at 0 rfl
  have c3 := B1.at 3 rfl
  have c4 := B1.at 4 rfl
  have c5 := B1.at 5 rfl
  have c6 := B1.at 6 rfl
  have c8 := B1.at 8 rfl
  have hM := h1.below (Below.refl _ _).drew
  go_upto_region 16 with (fail)
  refine wp_region_held_drew (S := fun w' => w'.cell? ⟨t, 0, none⟩ = some (.pointer (some ⟨o, 0, none⟩)) ∧ w'.cell? ⟨t, 5, none⟩ = some (.int .u64 1)) (by kernel_rfl) ?_ (fun hHeld => ?_)
  · exact ⟨c0, c5⟩
  refine wpAnyH_take (i := 0) (oi := ⟨_, _, _, _, _, _⟩) (v := ?_) rfl (by kernel_rfl) (by kernel_rfl) (by kernel_rfl) (fun _ _ _ h => h) (Or.inl ⟨by rfl, ?_⟩) (by assumption) ?_
  rotate_left
  · intro wS hSw
    try dsimp only at hSw
    go_simp
    try with_reducible rfl
  try simp only [Act.put, List.setIfInBounds_toArray, List.set_cons_zero, List.set_cons_succ]
  refine wpAnyH_take (i := 1) (oi := ⟨_, _, _, _, _, _⟩) (v := ?_) rfl (by kernel_rfl) (by kernel_rfl) (by kernel_rfl) (fun _ _ _ h => h) (Or.inl ⟨by rfl, ?_⟩) (by assumption) ?_
  rotate_left
  · intro wS hSw
    try dsimp only at hSw
    go_simp
    try with_reducible rfl
  try simp only [Act.put, List.setIfInBounds_toArray, List.set_cons_zero, List.set_cons_succ]
  refine wpAnyH_take (i := 2) (oi := ⟨_, _, _, _, _, _⟩) (v := ?_) rfl (by kernel_rfl) (by kernel_rfl) (by kernel_rfl) (fun _ _ _ h => h) (Or.inl ⟨by rfl, ?_⟩) (by assumption) ?_
  rotate_left
  · intro wS hSw
    try dsimp only at hSw
    go_simp
    try with_reducible rfl
  try simp only [Act.put, List.setIfInBounds_toArray, List.set_cons_zero, List.set_cons_succ]
  refine wpAnyH_take (i := 3) (oi := ⟨_, _, _, _, _, _⟩) (v := ?_) rfl (by kernel_rfl) (by kernel_rfl) (by kernel_rfl) (fun _ _ _ h => h) (Or.inl ⟨by rfl, ?_⟩) (by assumption) ?_
  rotate_left
  · intro wS hSw
    try dsimp only at hSw
    go_simp
    try with_reducible rfl
  try simp only [Act.put, List.setIfInBounds_toArray, List.set_cons_zero, List.set_cons_succ]
  refine wpAnyH_take (i := 5) (oi := ⟨_, _, _, _, _, _⟩) (v := ?_) rfl (by kernel_rfl) (by kernel_rfl) (by kernel_rfl) (fun _ _ _ h => h) (Or.inl ⟨by rfl, ?_⟩) (by assumption) ?_
  rotate_left
  · intro wS hSw
    try dsimp only at hSw
    go_simp
    try with_reducible rfl
  try simp only [Act.put, List.setIfInBounds_toArray, List.set_cons_zero, List.set_cons_succ]
  refine wpAnyH_take (i := 6) (oi := ⟨_, _, _, _, _, _⟩) (v := ?_) rfl (by kernel_rfl) (by kernel_rfl) (by kernel_rfl) (fun _ _ _ h => h) (Or.inl ⟨by rfl, ?_⟩) (by assumption) ?_
  rotate_left
  · intro wS hSw
    try dsimp only at hSw
    go_simp
    try with_reducible rfl
  try simp only [Act.put, List.setIfInBounds_toArray, List.set_cons_zero, List.set_cons_succ]
  refine wpAnyH_take (i := 7) (oi := ⟨_, _, _, _, _, _⟩) (v := ?_) rfl (by kernel_rfl) (by kernel_rfl) (by kernel_rfl) (fun _ _ _ h => h) (Or.inl ⟨by rfl, ?_⟩) (by assumption) ?_
  rotate_left
  · intro wS hSw
    try dsimp only at hSw
    go_simp
    try with_reducible rfl
  try simp only [Act.put, List.setIfInBounds_toArray, List.set_cons_zero, List.set_cons_succ]
  refine wpAnyH_take (i := 8) (oi := ⟨_, _, _, _, _, _⟩) (v := ?_) rfl (by kernel_rfl) (by kernel_rfl) (by kernel_rfl) (fun _ _ _ h => h) (Or.inl ⟨by rfl, ?_⟩) (by assumption) ?_
  rotate_left
  · intro wS hSw
    try dsimp only at hSw
    go_simp
    try with_reducible rfl
  try simp only [Act.put, List.setIfInBounds_toArray, List.set_cons_zero, List.set_cons_succ]
  refine wpAnyH_ready (rs := [4]) (by kernel_rfl) (by simp) ?_
  refine AllReadyH.cons rfl (fun K hK => ?_) AllReadyH.nil
  go_simp
  refine (gate_any _ hM).mono ?_
  rintro e w2 ⟨rfl, hb2⟩
  have hB2 := below_push2 hB.drew hb2 (Nat.le_refl _)
  have B2 := (B1.drew).below hb2
  have BR := ((Blk.new w (accY 0 0 0 0) 39).drew).below hb2
  refine hK.out _ _ ⟨B2.at 0 rfl, B2.at 5 rfl⟩ (fun hHeld => ?_)
  clear hK K hb2
  refine wpAnyH_take (i := 9) (oi := ⟨_, _, _, _, _, _⟩) (v := ?_) rfl (by kernel_rfl) (by kernel_rfl) (by kernel_rfl) (fun _ _ _ h => h) (Or.inl ⟨by rfl, ?_⟩) (by assumption) ?_
  rotate_left
  · intro wS hSw
    try dsimp only at hSw
    go_simp
    try with_reducible rfl
  try simp only [Act.put, List.setIfInBounds_toArray, List.set_cons_zero, List.set_cons_succ]
  have B3 := (Fr.row (S := [w.heap.size]) (w := w2) w.heap.size (accY 3 (gateI A T) 1 0) (by simp)).blk B2 (by simpa using hne')
  refine wpAnyH_ready (rs := [10]) (by kernel_rfl) (by simp) ?_
  refine AllReadyH.cons rfl (fun K hK => ?_) AllReadyH.nil
  rw [if_pos (by rfl)]
  refine wp_store_row 39 _ _ rfl w.heap.size _ rfl rfl 39 _ BR.h (by kernel_rfl) (by rfl) (by kernel_rfl) ?_
  refine hK.out _ _ ?_ (fun hHeld => ?_)
  · exact ⟨B3.at 0 rfl, B3.at 5 rfl⟩
  clear hK K
  refine wpAnyH_take (i := 11) (oi := ⟨_, _, _, _, _, _⟩) (v := ?_) rfl (by kernel_rfl) (by kernel_rfl) (by kernel_rfl) (fun _ _ _ h => h) (Or.inl ⟨by rfl, ?_⟩) (by assumption) ?_
  rotate_left
  · intro wS hSw
    try dsimp only at hSw
    go_simp
    try with_reducible rfl
  try simp only [Act.put, List.setIfInBounds_toArray, List.set_cons_zero, List.set_cons_succ]
  refine wpAnyH_done (by kernel_rfl) ?_ _
  go_wp2_with fail
  refine bodyPost_ret (v := .tuple #[.agg (accY 3 (gateI A T) 1 0), .bool true]) (results_cell_tmp rfl _ _ w.heap.size 39 (accY 3 (gateI A T) 1 0) (0, 0) _ (.bool true) rfl rfl (Blk.row BR (accY 3 (gateI A T) 1 0)).h Try.underlying39 rfl (by kernel_rfl)) rfl ⟨rfl, below_setRow hB2 (by omega) _⟩
end Go.Proofs.Ytpmlbdnhgeeaoaa.MemP
