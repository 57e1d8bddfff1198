/-
  choose: Thread and Tell: contracts.
-/
import Derived.Test.YtpimifnibdjhfaaChooseW
namespace Go.Proofs.Ytpimifnibdjhfaa.MemP
open Go.RowKit RefP CellP GateP
set_option linter.unusedVariables false
set_option linter.unusedSimpArgs false
set_option maxHeartbeats 1600000 in
theorem chThread_none (p : Option Addr) (w : World) (h : NoTask w p) : Calls Try.prog 13 #[.pointer p] w fun e w' => e = .returned (.tuple #[.int .i64 0, .bool false]) ∧ Below w.heap.size w w' := by
  have hfn := first_any none 0 [] 
  rcases h with rfl | ⟨t, rfl, B⟩
  · go_enter Try.func13, Try.ntmps13
    go_wp2_with fail
    go_ret2
    exact ⟨rfl, Below.refl _ _⟩
  · go_enter Try.func13, Try.ntmps13
    go_wp2_with fail
    refine (over_none _ _ (.inr ⟨t, rfl, B⟩)).mono ?_
    rintro e w1 ⟨rfl, hb1⟩
    have c6 := (B.below hb1).at 6 rfl
    go_wp2_with fail
    refine (hfn _ ⟨Holds.nil _ _ _, by simp, by simp⟩).mono ?_
    rintro e w2 ⟨rfl, hb2⟩
    go_wp2_with fail
    go_ret2
    exact ⟨rfl, below_push2 hb1 hb2 (Nat.le_refl _)⟩
set_option maxHeartbeats 1600000 in
theorem chThread_over {o oc g gb gr A T : Nat} {L : List (Int × Int)} {bs rs : List (List Value)} {base t : Nat} {s : CS} {a : Option Addr} {c : Nat} (w : World) (h : MemAt w o oc g gb gr A T L bs rs) (hC : ChAt w base o t s a c) (hT : T ≤ s.th) :
    Calls Try.prog 13 #[.pointer (some ⟨t, 0, none⟩)] w fun e w' => e = .returned (.tuple #[.int .i64 (firstT s.L), .bool (firstB s.L)]) ∧ Below w.heap.size w w' := by
  have hlen := hC.ok.len
  have hth := hC.ok.th
  go_enter Try.func13, Try.ntmps13
  go_wp2_with fail
  refine (over_any _ h hC true (by simpa using hT)).mono ?_
  rintro e w1 ⟨rfl, hb1⟩
  have hC1 := hC.under hb1
  have c6 := hC1.head.at 6 rfl
  go_wp2_with fail
  refine (first_any a c s.L _ (cands_of hC1.own hC1.ok.L (by omega))).mono ?_
  rintro e w2 ⟨rfl, hb2⟩
  go_wp2_with fail
  go_ret2
  exact ⟨rfl, below_push2 hb1 hb2 (Nat.le_refl _)⟩
set_option maxHeartbeats 1600000 in
theorem chThread_not {o oc g gb gr A T : Nat} {L : List (Int × Int)} {bs rs : List (List Value)} {base t : Nat} {s : CS} {a : Option Addr} {c : Nat} (w : World) (h : MemAt w o oc g gb gr A T L bs rs) (hC : ChAt w base o t s a c) (hT : s.th < T) :
    Calls Try.prog 13 #[.pointer (some ⟨t, 0, none⟩)] w fun e w' => e = .returned (.tuple #[.int .i64 0, .bool false]) ∧ Below w.heap.size w w' := by
  go_enter Try.func13, Try.ntmps13
  go_wp2_with fail
  refine (over_any _ h hC false (by simpa using hT)).mono ?_
  rintro e w1 ⟨rfl, hb1⟩
  go_wp2_with fail
  go_ret2
  exact ⟨rfl, hb1⟩
set_option maxRecDepth 100000 in
set_option maxHeartbeats 1600000 in
theorem chTell_none (p : Option Addr) (ok : Bool) (word ver : Int) (w : World) (h : NoTask w p) : Calls Try.prog 16 #[.pointer p, .agg #[.bool ok, .int .u64 word, .int .u64 ver, .int .i64 0, .int .i64 0, .string ⟨#[]⟩, .string ⟨#[]⟩, .bool false, .int .i64 0, .slice none 0 0, .slice none 0 0, .slice none 0 0, .int .i64 0, .int .i64 0, .string ⟨#[]⟩, .int .u64 0, .slice none 0 0, .slice none 0 0, .slice none 0 0, .slice none 0 0, .int .i64 0, .string ⟨#[]⟩, .string ⟨#[]⟩, .int .u64 0, .int .i64 0]] w fun e w' => e = .returned (.tuple #[]) ∧ Below w.heap.size w w' := by
  have hb0 : Below w.heap.size w (w.alloc (.cells #[.bool ok, .int .u64 word, .int .u64 ver, .int .i64 0, .int .i64 0, .string ⟨#[]⟩, .string ⟨#[]⟩, .bool false, .int .i64 0, .slice none 0 0, .slice none 0 0, .slice none 0 0, .int .i64 0, .int .i64 0, .string ⟨#[]⟩, .int .u64 0, .slice none 0 0, .slice none 0 0, .slice none 0 0, .slice none 0 0, .int .i64 0, .string ⟨#[]⟩, .string ⟨#[]⟩, .int .u64 0, .int .i64 0] 66)) := by (repeat (first | exact Below.refl _ _ | assumption | refine below_alloc2 ?_ (by first | exact Nat.le_refl _ | omega) _ | refine Below.drew ?_ | refine below_drewN ?_ _ | refine below_push2 ?_ ‹_› (by first | exact Nat.le_refl _ | omega) | refine Below.setCell ?_ (by first | (simp; done) | (simp; omega) | omega) _))
  go_enter Try.func16, Try.ntmps16
  go_wp2_with fail
  refine (over_none _ _ (h.below hb0)).mono ?_
  rintro e w1 ⟨rfl, hb1⟩
  go_wp2_with fail
  refine bodyPost_ret (results_none rfl _ _ _) rfl ?_
  exact ⟨rfl, below_push2 hb0 hb1 (Nat.le_refl _)⟩
set_option maxRecDepth 100000 in
set_option maxHeartbeats 1600000 in
theorem chTell_over {o oc g gb gr A T : Nat} {L : List (Int × Int)} {bs rs : List (List Value)} {base t : Nat} {s : CS} {a : Option Addr} {c : Nat} (ok : Bool) (word ver : Int) (w : World) (h : MemAt w o oc g gb gr A T L bs rs) (hC : ChAt w base o t s a c) (hT : T ≤ s.th) :
    Calls Try.prog 16 #[.pointer (some ⟨t, 0, none⟩), .agg #[.bool ok, .int .u64 word, .int .u64 ver, .int .i64 0, .int .i64 0, .string ⟨#[]⟩, .string ⟨#[]⟩, .bool false, .int .i64 0, .slice none 0 0, .slice none 0 0, .slice none 0 0, .int .i64 0, .int .i64 0, .string ⟨#[]⟩, .int .u64 0, .slice none 0 0, .slice none 0 0, .slice none 0 0, .slice none 0 0, .int .i64 0, .string ⟨#[]⟩, .string ⟨#[]⟩, .int .u64 0, .int .i64 0]] w fun e w' => e = .returned (.tuple #[]) ∧ Below w.heap.size w w' := by
  have hb0 : Below w.heap.size w (w.alloc (.cells #[.bool ok, .int .u64 word, .int .u64 ver, .int .i64 0, .int .i64 0, .string ⟨#[]⟩, .string ⟨#[]⟩, .bool false, .int .i64 0, .slice none 0 0, .slice none 0 0, .slice none 0 0, .int .i64 0, .int .i64 0, .string ⟨#[]⟩, .int .u64 0, .slice none 0 0, .slice none 0 0, .slice none 0 0, .slice none 0 0, .int .i64 0, .string ⟨#[]⟩, .string ⟨#[]⟩, .int .u64 0, .int .i64 0] 66)) := by (repeat (first | exact Below.refl _ _ | assumption | refine below_alloc2 ?_ (by first | exact Nat.le_refl _ | omega) _ | refine Below.drew ?_ | refine below_drewN ?_ _ | refine below_push2 ?_ ‹_› (by first | exact Nat.le_refl _ | omega) | refine Below.setCell ?_ (by first | (simp; done) | (simp; omega) | omega) _))
  go_enter Try.func16, Try.ntmps16
  go_wp2_with fail
  refine (over_any _ (h.below hb0) (hC.under hb0) true (by simpa using hT)).mono ?_
  rintro e w1 ⟨rfl, hb1⟩
  go_wp2_with fail
  refine bodyPost_ret (results_none rfl _ _ _) rfl ?_
  exact ⟨rfl, below_push2 hb0 hb1 (Nat.le_refl _)⟩
theorem tell_0z {s : CS} {x v : Int} (e : s.at_ = 0) (h : x = 0) : s.tell x v = { s with ver := v, th := s.th + 1 } := by unfold CS.tell; rw [e]; simp [h]
theorem tell_0n {s : CS} {x v : Int} (e : s.at_ = 0) (h : ¬ x = 0) : s.tell x v = { s with ver := v, at_ := 1 } := by unfold CS.tell; rw [e]; simp [h]
theorem tell_1 {s : CS} {x v : Int} (e : s.at_ = 1) : s.tell x v = { s with done := x, at_ := 2 } := by unfold CS.tell; rw [e]; rfl
theorem tell_2 {s : CS} {x v : Int} (e : s.at_ = 2) : s.tell x v = { s with ph := x, at_ := 3 } := by unfold CS.tell; rw [e]; rfl
theorem tell_3y {s : CS} {x v : Int} (e : s.at_ = 3) (h : v = s.ver ∧ s.done = 0) : s.tell x v = { s with L := s.L ++ [((s.th : Int), s.ph)], th := s.th + 1, at_ := 0 } := by unfold CS.tell; rw [e]; simp [h]
theorem tell_3n {s : CS} {x v : Int} (e : s.at_ = 3) (h : ¬ (v = s.ver ∧ s.done = 0)) : s.tell x v = { s with th := s.th + 1, at_ := 0 } := by unfold CS.tell; rw [e]; simp only [h, if_false]
abbrev TellAt (w : World) (base o t : Nat) (s : CS) (e : Ending) (w' : World) : Prop := (∃ a' c', e = .returned (.tuple #[]) ∧ ChAt w' base o t s a' c') ∧ Below base w w'
set_option maxRecDepth 100000 in
set_option maxHeartbeats 1600000 in
theorem tell_at0z {o oc g gb gr A T : Nat} {L : List (Int × Int)} {bs rs : List (List Value)} {base t : Nat} {s : CS} {a : Option Addr} {c : Nat} (ok : Bool) (word ver : Int) (w : World) (h : MemAt w o oc g gb gr A T L bs rs) (hC : ChAt w base o t s a c) (hT : s.th < T) (hT' : T ≤ 16) (x0 : 0 ≤ word) (x1 : word ≤ 18446744073709551615) (v0 : 0 ≤ ver) (v1 : ver ≤ 18446744073709551615) (hbase : base ≤ w.heap.size) (he : s.at_ = 0) (hx : word = 0) :
    Calls Try.prog 16 #[.pointer (some ⟨t, 0, none⟩), .agg #[.bool ok, .int .u64 word, .int .u64 ver, .int .i64 0, .int .i64 0, .string ⟨#[]⟩, .string ⟨#[]⟩, .bool false, .int .i64 0, .slice none 0 0, .slice none 0 0, .slice none 0 0, .int .i64 0, .int .i64 0, .string ⟨#[]⟩, .int .u64 0, .slice none 0 0, .slice none 0 0, .slice none 0 0, .slice none 0 0, .int .i64 0, .string ⟨#[]⟩, .string ⟨#[]⟩, .int .u64 0, .int .i64 0]] w (TellAt w base o t (s.tell word ver)) := by
  have htl := Lib.hid (tell_0z (v := ver) he hx)
  have hq : (word == 0) = true := by simpa using hx
  clear hx
  rw [htl.out]
  have hb0 : Below w.heap.size w (w.alloc (.cells #[.bool ok, .int .u64 word, .int .u64 ver, .int .i64 0, .int .i64 0, .string ⟨#[]⟩, .string ⟨#[]⟩, .bool false, .int .i64 0, .slice none 0 0, .slice none 0 0, .slice none 0 0, .int .i64 0, .int .i64 0, .string ⟨#[]⟩, .int .u64 0, .slice none 0 0, .slice none 0 0, .slice none 0 0, .slice none 0 0, .int .i64 0, .string ⟨#[]⟩, .string ⟨#[]⟩, .int .u64 0, .int .i64 0] 66)) := by (repeat (first | exact Below.refl _ _ | assumption | refine below_alloc2 ?_ (by first | exact Nat.le_refl _ | omega) _ | refine Below.drew ?_ | refine below_drewN ?_ _ | refine below_push2 ?_ ‹_› (by first | exact Nat.le_refl _ | omega) | refine Below.setCell ?_ (by first | (simp; done) | (simp; omega) | omega) _))
  have hth := hC.ok.th
  have hok := hC.ok.tell word ver (by omega) ⟨x0, x1⟩ ⟨v0, v1⟩
  go_enter Try.func16, Try.ntmps16
  go_wp2_with fail
  refine (over_any _ (h.below hb0) (hC.under hb0) false (by simpa using hT)).mono ?_
  rintro e w1 ⟨rfl, hb1⟩
  have BR := (Blk.new w #[.bool ok, .int .u64 word, .int .u64 ver, .int .i64 0, .int .i64 0, .string ⟨#[]⟩, .string ⟨#[]⟩, .bool false, .int .i64 0, .slice none 0 0, .slice none 0 0, .slice none 0 0, .int .i64 0, .int .i64 0, .string ⟨#[]⟩, .int .u64 0, .slice none 0 0, .slice none 0 0, .slice none 0 0, .slice none 0 0, .int .i64 0, .string ⟨#[]⟩, .string ⟨#[]⟩, .int .u64 0, .int .i64 0] 66).below hb1
  have hB2 := below_push2 hb0 hb1 (Nat.le_refl _)
  have hC2 := (hC.under hb0).under hb1
  clear h hC hb0 hb1
  have hs1 := hB2.size
  have r1 : w1.cell? ⟨w.heap.size, 1, none⟩ = some (.int .u64 word) := BR.at 1 rfl
  have r2 : w1.cell? ⟨w.heap.size, 2, none⟩ = some (.int .u64 ver) := BR.at 2 rfl
  have c1 : w1.cell? ⟨t, 1, none⟩ = some (.int .i64 s.th) := hC2.head.at 1 rfl
  have c2 : w1.cell? ⟨t, 2, none⟩ = some (.int .i64 s.at_) := hC2.head.at 2 rfl
  have c3 : w1.cell? ⟨t, 3, none⟩ = some (.int .u64 s.ver) := hC2.head.at 3 rfl
  have c4 : w1.cell? ⟨t, 4, none⟩ = some (.int .u64 s.done) := hC2.head.at 4 rfl
  have c5 : w1.cell? ⟨t, 5, none⟩ = some (.int .u64 s.ph) := hC2.head.at 5 rfl
  have f1 := hC2.head.free 1
  have f2 := hC2.head.free 2
  have f3 := hC2.head.free 3
  have f4 := hC2.head.free 4
  have f5 := hC2.head.free 5
  have hge := hC2.ge
  rw [he] at c2
  rw [htl.out] at hok
  have hw : IntKind.i64.wrap ((s.th : Int) + 1) = (s.th : Int) + 1 := by rw [IntKind.wrap_i64]; omega
  go_wp2_with fail
  refine bodyPost_ret (results_none rfl _ _ _) rfl ?_
  refine ⟨⟨a, c, rfl, hC2.sets (by simp) ?_ ?_ rfl hok⟩, ?_⟩
  · simpa [taskA] using (hC2.head.set 3 (.int .u64 ver)).set 1 (.int .i64 ((s.th : Int) + 1))
  · exact ((Fr.refl _ _).set _ _ (.inl (by simp))).set _ _ (.inl (by simp))
  · exact ((hB2.mono hbase).setCell hge _).setCell hge _
set_option maxRecDepth 100000 in
set_option maxHeartbeats 1600000 in
theorem tell_at0n {o oc g gb gr A T : Nat} {L : List (Int × Int)} {bs rs : List (List Value)} {base t : Nat} {s : CS} {a : Option Addr} {c : Nat} (ok : Bool) (word ver : Int) (w : World) (h : MemAt w o oc g gb gr A T L bs rs) (hC : ChAt w base o t s a c) (hT : s.th < T) (hT' : T ≤ 16) (x0 : 0 ≤ word) (x1 : word ≤ 18446744073709551615) (v0 : 0 ≤ ver) (v1 : ver ≤ 18446744073709551615) (hbase : base ≤ w.heap.size) (he : s.at_ = 0) (hx : ¬ word = 0) :
    Calls Try.prog 16 #[.pointer (some ⟨t, 0, none⟩), .agg #[.bool ok, .int .u64 word, .int .u64 ver, .int .i64 0, .int .i64 0, .string ⟨#[]⟩, .string ⟨#[]⟩, .bool false, .int .i64 0, .slice none 0 0, .slice none 0 0, .slice none 0 0, .int .i64 0, .int .i64 0, .string ⟨#[]⟩, .int .u64 0, .slice none 0 0, .slice none 0 0, .slice none 0 0, .slice none 0 0, .int .i64 0, .string ⟨#[]⟩, .string ⟨#[]⟩, .int .u64 0, .int .i64 0]] w (TellAt w base o t (s.tell word ver)) := by
  have htl := Lib.hid (tell_0n (v := ver) he hx)
  have hq : (word == 0) = false := not_eq hx
  clear hx
  rw [htl.out]
  have hb0 : Below w.heap.size w (w.alloc (.cells #[.bool ok, .int .u64 word, .int .u64 ver, .int .i64 0, .int .i64 0, .string ⟨#[]⟩, .string ⟨#[]⟩, .bool false, .int .i64 0, .slice none 0 0, .slice none 0 0, .slice none 0 0, .int .i64 0, .int .i64 0, .string ⟨#[]⟩, .int .u64 0, .slice none 0 0, .slice none 0 0, .slice none 0 0, .slice none 0 0, .int .i64 0, .string ⟨#[]⟩, .string ⟨#[]⟩, .int .u64 0, .int .i64 0] 66)) := by (repeat (first | exact Below.refl _ _ | assumption | refine below_alloc2 ?_ (by first | exact Nat.le_refl _ | omega) _ | refine Below.drew ?_ | refine below_drewN ?_ _ | refine below_push2 ?_ ‹_› (by first | exact Nat.le_refl _ | omega) | refine Below.setCell ?_ (by first | (simp; done) | (simp; omega) | omega) _))
  have hth := hC.ok.th
  have hok := hC.ok.tell word ver (by omega) ⟨x0, x1⟩ ⟨v0, v1⟩
  go_enter Try.func16, Try.ntmps16
  go_wp2_with fail
  refine (over_any _ (h.below hb0) (hC.under hb0) false (by simpa using hT)).mono ?_
  rintro e w1 ⟨rfl, hb1⟩
  have BR := (Blk.new w #[.bool ok, .int .u64 word, .int .u64 ver, .int .i64 0, .int .i64 0, .string ⟨#[]⟩, .string ⟨#[]⟩, .bool false, .int .i64 0, .slice none 0 0, .slice none 0 0, .slice none 0 0, .int .i64 0, .int .i64 0, .string ⟨#[]⟩, .int .u64 0, .slice none 0 0, .slice none 0 0, .slice none 0 0, .slice none 0 0, .int .i64 0, .string ⟨#[]⟩, .string ⟨#[]⟩, .int .u64 0, .int .i64 0] 66).below hb1
  have hB2 := below_push2 hb0 hb1 (Nat.le_refl _)
  have hC2 := (hC.under hb0).under hb1
  clear h hC hb0 hb1
  have hs1 := hB2.size
  have r1 : w1.cell? ⟨w.heap.size, 1, none⟩ = some (.int .u64 word) := BR.at 1 rfl
  have r2 : w1.cell? ⟨w.heap.size, 2, none⟩ = some (.int .u64 ver) := BR.at 2 rfl
  have c1 : w1.cell? ⟨t, 1, none⟩ = some (.int .i64 s.th) := hC2.head.at 1 rfl
  have c2 : w1.cell? ⟨t, 2, none⟩ = some (.int .i64 s.at_) := hC2.head.at 2 rfl
  have c3 : w1.cell? ⟨t, 3, none⟩ = some (.int .u64 s.ver) := hC2.head.at 3 rfl
  have c4 : w1.cell? ⟨t, 4, none⟩ = some (.int .u64 s.done) := hC2.head.at 4 rfl
  have c5 : w1.cell? ⟨t, 5, none⟩ = some (.int .u64 s.ph) := hC2.head.at 5 rfl
  have f1 := hC2.head.free 1
  have f2 := hC2.head.free 2
  have f3 := hC2.head.free 3
  have f4 := hC2.head.free 4
  have f5 := hC2.head.free 5
  have hge := hC2.ge
  rw [he] at c2
  rw [htl.out] at hok
  go_wp2_with fail
  go_end0
  refine ⟨⟨a, c, rfl, hC2.sets (by simp) ?_ ?_ rfl hok⟩, ?_⟩
  · simpa [taskA] using (hC2.head.set 3 (.int .u64 ver)).set 2 (.int .i64 1)
  · exact ((Fr.refl _ _).set _ _ (.inl (by simp))).set _ _ (.inl (by simp))
  · exact ((hB2.mono hbase).setCell hge _).setCell hge _
set_option maxRecDepth 100000 in
set_option maxHeartbeats 1600000 in
theorem tell_at1 {o oc g gb gr A T : Nat} {L : List (Int × Int)} {bs rs : List (List Value)} {base t : Nat} {s : CS} {a : Option Addr} {c : Nat} (ok : Bool) (word ver : Int) (w : World) (h : MemAt w o oc g gb gr A T L bs rs) (hC : ChAt w base o t s a c) (hT : s.th < T) (hT' : T ≤ 16) (x0 : 0 ≤ word) (x1 : word ≤ 18446744073709551615) (v0 : 0 ≤ ver) (v1 : ver ≤ 18446744073709551615) (hbase : base ≤ w.heap.size) (he : s.at_ = 1) :
    Calls Try.prog 16 #[.pointer (some ⟨t, 0, none⟩), .agg #[.bool ok, .int .u64 word, .int .u64 ver, .int .i64 0, .int .i64 0, .string ⟨#[]⟩, .string ⟨#[]⟩, .bool false, .int .i64 0, .slice none 0 0, .slice none 0 0, .slice none 0 0, .int .i64 0, .int .i64 0, .string ⟨#[]⟩, .int .u64 0, .slice none 0 0, .slice none 0 0, .slice none 0 0, .slice none 0 0, .int .i64 0, .string ⟨#[]⟩, .string ⟨#[]⟩, .int .u64 0, .int .i64 0]] w (TellAt w base o t (s.tell word ver)) := by
  rw [tell_1 he]
  have hb0 : Below w.heap.size w (w.alloc (.cells #[.bool ok, .int .u64 word, .int .u64 ver, .int .i64 0, .int .i64 0, .string ⟨#[]⟩, .string ⟨#[]⟩, .bool false, .int .i64 0, .slice none 0 0, .slice none 0 0, .slice none 0 0, .int .i64 0, .int .i64 0, .string ⟨#[]⟩, .int .u64 0, .slice none 0 0, .slice none 0 0, .slice none 0 0, .slice none 0 0, .int .i64 0, .string ⟨#[]⟩, .string ⟨#[]⟩, .int .u64 0, .int .i64 0] 66)) := by (repeat (first | exact Below.refl _ _ | assumption | refine below_alloc2 ?_ (by first | exact Nat.le_refl _ | omega) _ | refine Below.drew ?_ | refine below_drewN ?_ _ | refine below_push2 ?_ ‹_› (by first | exact Nat.le_refl _ | omega) | refine Below.setCell ?_ (by first | (simp; done) | (simp; omega) | omega) _))
  have hth := hC.ok.th
  have hok := hC.ok.tell word ver (by omega) ⟨x0, x1⟩ ⟨v0, v1⟩
  go_enter Try.func16, Try.ntmps16
  go_wp2_with fail
  refine (over_any _ (h.below hb0) (hC.under hb0) false (by simpa using hT)).mono ?_
  rintro e w1 ⟨rfl, hb1⟩
  have BR := (Blk.new w #[.bool ok, .int .u64 word, .int .u64 ver, .int .i64 0, .int .i64 0, .string ⟨#[]⟩, .string ⟨#[]⟩, .bool false, .int .i64 0, .slice none 0 0, .slice none 0 0, .slice none 0 0, .int .i64 0, .int .i64 0, .string ⟨#[]⟩, .int .u64 0, .slice none 0 0, .slice none 0 0, .slice none 0 0, .slice none 0 0, .int .i64 0, .string ⟨#[]⟩, .string ⟨#[]⟩, .int .u64 0, .int .i64 0] 66).below hb1
  have hB2 := below_push2 hb0 hb1 (Nat.le_refl _)
  have hC2 := (hC.under hb0).under hb1
  clear h hC hb0 hb1
  have hs1 := hB2.size
  have r1 : w1.cell? ⟨w.heap.size, 1, none⟩ = some (.int .u64 word) := BR.at 1 rfl
  have r2 : w1.cell? ⟨w.heap.size, 2, none⟩ = some (.int .u64 ver) := BR.at 2 rfl
  have c1 : w1.cell? ⟨t, 1, none⟩ = some (.int .i64 s.th) := hC2.head.at 1 rfl
  have c2 : w1.cell? ⟨t, 2, none⟩ = some (.int .i64 s.at_) := hC2.head.at 2 rfl
  have c3 : w1.cell? ⟨t, 3, none⟩ = some (.int .u64 s.ver) := hC2.head.at 3 rfl
  have c4 : w1.cell? ⟨t, 4, none⟩ = some (.int .u64 s.done) := hC2.head.at 4 rfl
  have c5 : w1.cell? ⟨t, 5, none⟩ = some (.int .u64 s.ph) := hC2.head.at 5 rfl
  have f1 := hC2.head.free 1
  have f2 := hC2.head.free 2
  have f3 := hC2.head.free 3
  have f4 := hC2.head.free 4
  have f5 := hC2.head.free 5
  have hge := hC2.ge
  rw [he] at c2
  rw [tell_1 he] at hok
  go_wp2_with fail
  go_end0
  refine ⟨⟨a, c, rfl, hC2.sets (by simp) ?_ ?_ rfl hok⟩, ?_⟩
  · simpa [taskA] using (hC2.head.set 4 (.int .u64 word)).set 2 (.int .i64 2)
  · exact ((Fr.refl _ _).set _ _ (.inl (by simp))).set _ _ (.inl (by simp))
  · exact ((hB2.mono hbase).setCell hge _).setCell hge _
set_option maxRecDepth 100000 in
set_option maxHeartbeats 1600000 in
theorem tell_at2 {o oc g gb gr A T : Nat} {L : List (Int × Int)} {bs rs : List (List Value)} {base t : Nat} {s : CS} {a : Option Addr} {c : Nat} (ok : Bool) (word ver : Int) (w : World) (h : MemAt w o oc g gb gr A T L bs rs) (hC : ChAt w base o t s a c) (hT : s.th < T) (hT' : T ≤ 16) (x0 : 0 ≤ word) (x1 : word ≤ 18446744073709551615) (v0 : 0 ≤ ver) (v1 : ver ≤ 18446744073709551615) (hbase : base ≤ w.heap.size) (he : s.at_ = 2) :
    Calls Try.prog 16 #[.pointer (some ⟨t, 0, none⟩), .agg #[.bool ok, .int .u64 word, .int .u64 ver, .int .i64 0, .int .i64 0, .string ⟨#[]⟩, .string ⟨#[]⟩, .bool false, .int .i64 0, .slice none 0 0, .slice none 0 0, .slice none 0 0, .int .i64 0, .int .i64 0, .string ⟨#[]⟩, .int .u64 0, .slice none 0 0, .slice none 0 0, .slice none 0 0, .slice none 0 0, .int .i64 0, .string ⟨#[]⟩, .string ⟨#[]⟩, .int .u64 0, .int .i64 0]] w (TellAt w base o t (s.tell word ver)) := by
  rw [tell_2 he]
  have hb0 : Below w.heap.size w (w.alloc (.cells #[.bool ok, .int .u64 word, .int .u64 ver, .int .i64 0, .int .i64 0, .string ⟨#[]⟩, .string ⟨#[]⟩, .bool false, .int .i64 0, .slice none 0 0, .slice none 0 0, .slice none 0 0, .int .i64 0, .int .i64 0, .string ⟨#[]⟩, .int .u64 0, .slice none 0 0, .slice none 0 0, .slice none 0 0, .slice none 0 0, .int .i64 0, .string ⟨#[]⟩, .string ⟨#[]⟩, .int .u64 0, .int .i64 0] 66)) := by (repeat (first | exact Below.refl _ _ | assumption | refine below_alloc2 ?_ (by first | exact Nat.le_refl _ | omega) _ | refine Below.drew ?_ | refine below_drewN ?_ _ | refine below_push2 ?_ ‹_› (by first | exact Nat.le_refl _ | omega) | refine Below.setCell ?_ (by first | (simp; done) | (simp; omega) | omega) _))
  have hth := hC.ok.th
  have hok := hC.ok.tell word ver (by omega) ⟨x0, x1⟩ ⟨v0, v1⟩
  go_enter Try.func16, Try.ntmps16
  go_wp2_with fail
  refine (over_any _ (h.below hb0) (hC.under hb0) false (by simpa using hT)).mono ?_
  rintro e w1 ⟨rfl, hb1⟩
  have BR := (Blk.new w #[.bool ok, .int .u64 word, .int .u64 ver, .int .i64 0, .int .i64 0, .string ⟨#[]⟩, .string ⟨#[]⟩, .bool false, .int .i64 0, .slice none 0 0, .slice none 0 0, .slice none 0 0, .int .i64 0, .int .i64 0, .string ⟨#[]⟩, .int .u64 0, .slice none 0 0, .slice none 0 0, .slice none 0 0, .slice none 0 0, .int .i64 0, .string ⟨#[]⟩, .string ⟨#[]⟩, .int .u64 0, .int .i64 0] 66).below hb1
  have hB2 := below_push2 hb0 hb1 (Nat.le_refl _)
  have hC2 := (hC.under hb0).under hb1
  clear h hC hb0 hb1
  have hs1 := hB2.size
  have r1 : w1.cell? ⟨w.heap.size, 1, none⟩ = some (.int .u64 word) := BR.at 1 rfl
  have r2 : w1.cell? ⟨w.heap.size, 2, none⟩ = some (.int .u64 ver) := BR.at 2 rfl
  have c1 : w1.cell? ⟨t, 1, none⟩ = some (.int .i64 s.th) := hC2.head.at 1 rfl
  have c2 : w1.cell? ⟨t, 2, none⟩ = some (.int .i64 s.at_) := hC2.head.at 2 rfl
  have c3 : w1.cell? ⟨t, 3, none⟩ = some (.int .u64 s.ver) := hC2.head.at 3 rfl
  have c4 : w1.cell? ⟨t, 4, none⟩ = some (.int .u64 s.done) := hC2.head.at 4 rfl
  have c5 : w1.cell? ⟨t, 5, none⟩ = some (.int .u64 s.ph) := hC2.head.at 5 rfl
  have f1 := hC2.head.free 1
  have f2 := hC2.head.free 2
  have f3 := hC2.head.free 3
  have f4 := hC2.head.free 4
  have f5 := hC2.head.free 5
  have hge := hC2.ge
  rw [he] at c2
  rw [tell_2 he] at hok
  go_wp2_with fail
  go_end0
  refine ⟨⟨a, c, rfl, hC2.sets (by simp) ?_ ?_ rfl hok⟩, ?_⟩
  · simpa [taskA] using (hC2.head.set 5 (.int .u64 word)).set 2 (.int .i64 3)
  · exact ((Fr.refl _ _).set _ _ (.inl (by simp))).set _ _ (.inl (by simp))
  · exact ((hB2.mono hbase).setCell hge _).setCell hge _
set_option maxRecDepth 100000 in
set_option maxHeartbeats 3200000 in
theorem tell_at3n {o oc g gb gr A T : Nat} {L : List (Int × Int)} {bs rs : List (List Value)} {base t : Nat} {s : CS} {a : Option Addr} {c : Nat} (ok : Bool) (word ver : Int) (w : World) (h : MemAt w o oc g gb gr A T L bs rs) (hC : ChAt w base o t s a c) (hT : s.th < T) (hT' : T ≤ 16) (x0 : 0 ≤ word) (x1 : word ≤ 18446744073709551615) (v0 : 0 ≤ ver) (v1 : ver ≤ 18446744073709551615) (hbase : base ≤ w.heap.size) (he : s.at_ = 3) (hx : ¬ (ver = s.ver ∧ s.done = 0)) :
    Calls Try.prog 16 #[.pointer (some ⟨t, 0, none⟩), .agg #[.bool ok, .int .u64 word, .int .u64 ver, .int .i64 0, .int .i64 0, .string ⟨#[]⟩, .string ⟨#[]⟩, .bool false, .int .i64 0, .slice none 0 0, .slice none 0 0, .slice none 0 0, .int .i64 0, .int .i64 0, .string ⟨#[]⟩, .int .u64 0, .slice none 0 0, .slice none 0 0, .slice none 0 0, .slice none 0 0, .int .i64 0, .string ⟨#[]⟩, .string ⟨#[]⟩, .int .u64 0, .int .i64 0]] w (TellAt w base o t (s.tell word ver)) := by
  have htl := Lib.hid (tell_3n (x := word) he hx)
  rw [htl.out]
  have hb0 : Below w.heap.size w (w.alloc (.cells #[.bool ok, .int .u64 word, .int .u64 ver, .int .i64 0, .int .i64 0, .string ⟨#[]⟩, .string ⟨#[]⟩, .bool false, .int .i64 0, .slice none 0 0, .slice none 0 0, .slice none 0 0, .int .i64 0, .int .i64 0, .string ⟨#[]⟩, .int .u64 0, .slice none 0 0, .slice none 0 0, .slice none 0 0, .slice none 0 0, .int .i64 0, .string ⟨#[]⟩, .string ⟨#[]⟩, .int .u64 0, .int .i64 0] 66)) := by (repeat (first | exact Below.refl _ _ | assumption | refine below_alloc2 ?_ (by first | exact Nat.le_refl _ | omega) _ | refine Below.drew ?_ | refine below_drewN ?_ _ | refine below_push2 ?_ ‹_› (by first | exact Nat.le_refl _ | omega) | refine Below.setCell ?_ (by first | (simp; done) | (simp; omega) | omega) _))
  have hth := hC.ok.th
  have hok := hC.ok.tell word ver (by omega) ⟨x0, x1⟩ ⟨v0, v1⟩
  go_enter Try.func16, Try.ntmps16
  go_wp2_with fail
  refine (over_any _ (h.below hb0) (hC.under hb0) false (by simpa using hT)).mono ?_
  rintro e w1 ⟨rfl, hb1⟩
  have BR := (Blk.new w #[.bool ok, .int .u64 word, .int .u64 ver, .int .i64 0, .int .i64 0, .string ⟨#[]⟩, .string ⟨#[]⟩, .bool false, .int .i64 0, .slice none 0 0, .slice none 0 0, .slice none 0 0, .int .i64 0, .int .i64 0, .string ⟨#[]⟩, .int .u64 0, .slice none 0 0, .slice none 0 0, .slice none 0 0, .slice none 0 0, .int .i64 0, .string ⟨#[]⟩, .string ⟨#[]⟩, .int .u64 0, .int .i64 0] 66).below hb1
  have hB2 := below_push2 hb0 hb1 (Nat.le_refl _)
  have hC2 := (hC.under hb0).under hb1
  clear h hC hb0 hb1
  have hs1 := hB2.size
  have r1 : w1.cell? ⟨w.heap.size, 1, none⟩ = some (.int .u64 word) := BR.at 1 rfl
  have r2 : w1.cell? ⟨w.heap.size, 2, none⟩ = some (.int .u64 ver) := BR.at 2 rfl
  have c1 : w1.cell? ⟨t, 1, none⟩ = some (.int .i64 s.th) := hC2.head.at 1 rfl
  have c2 : w1.cell? ⟨t, 2, none⟩ = some (.int .i64 s.at_) := hC2.head.at 2 rfl
  have c3 : w1.cell? ⟨t, 3, none⟩ = some (.int .u64 s.ver) := hC2.head.at 3 rfl
  have c4 : w1.cell? ⟨t, 4, none⟩ = some (.int .u64 s.done) := hC2.head.at 4 rfl
  have c5 : w1.cell? ⟨t, 5, none⟩ = some (.int .u64 s.ph) := hC2.head.at 5 rfl
  have f1 := hC2.head.free 1
  have f2 := hC2.head.free 2
  have f3 := hC2.head.free 3
  have f4 := hC2.head.free 4
  have f5 := hC2.head.free 5
  have hge := hC2.ge
  rw [he] at c2
  rw [htl.out] at hok
  have hw : IntKind.i64.wrap ((s.th : Int) + 1) = (s.th : Int) + 1 := by rw [IntKind.wrap_i64]; omega
  by_cases hv : ver = s.ver
  · have hd : ¬ s.done = 0 := fun e => hx ⟨hv, e⟩
    have q1 : (ver == s.ver) = true := by simpa using hv
    have q2 : (s.done == 0) = false := not_eq hd
    clear hx hv hd
    go_upto_region 12 with (fail)
    go_quiet (fail)
    have hC3 := hC2.under (below_drewN (Below.refl _ _) nq)
    go_wp2_with fail
    go_end0
    refine ⟨⟨a, c, rfl, hC3.sets (by simp) ?_ ?_ rfl hok⟩, ?_⟩
    · simpa [taskA] using (hC3.head.set 1 (.int .i64 ((s.th : Int) + 1))).set 2 (.int .i64 0)
    · exact ((Fr.refl _ _).set _ _ (.inl (by simp))).set _ _ (.inl (by simp))
    · exact (((below_drewN hB2 nq).mono hbase).setCell hge _).setCell hge _
  · have q1 : (ver == s.ver) = false := not_eq hv
    clear hx hv
    go_upto_region 12 with (fail)
    go_quiet (fail)
    have hC3 := hC2.under (below_drewN (Below.refl _ _) nq)
    go_wp2_with fail
    go_end0
    refine ⟨⟨a, c, rfl, hC3.sets (by simp) ?_ ?_ rfl hok⟩, ?_⟩
    · simpa [taskA] using (hC3.head.set 1 (.int .i64 ((s.th : Int) + 1))).set 2 (.int .i64 0)
    · exact ((Fr.refl _ _).set _ _ (.inl (by simp))).set _ _ (.inl (by simp))
    · exact (((below_drewN hB2 nq).mono hbase).setCell hge _).setCell hge _
set_option maxRecDepth 100000 in
set_option maxHeartbeats 3200000 in
theorem tell_at3y {o oc g gb gr A T : Nat} {L : List (Int × Int)} {bs rs : List (List Value)} {base t : Nat} {s : CS} {a : Option Addr} {c : Nat} (ok : Bool) (word ver : Int) (w : World) (h : MemAt w o oc g gb gr A T L bs rs) (hC : ChAt w base o t s a c) (hT : s.th < T) (hT' : T ≤ 16) (x0 : 0 ≤ word) (x1 : word ≤ 18446744073709551615) (v0 : 0 ≤ ver) (v1 : ver ≤ 18446744073709551615) (hbase : base ≤ w.heap.size) (he : s.at_ = 3) (hx : ver = s.ver ∧ s.done = 0) :
    Calls Try.prog 16 #[.pointer (some ⟨t, 0, none⟩), .agg #[.bool ok, .int .u64 word, .int .u64 ver, .int .i64 0, .int .i64 0, .string ⟨#[]⟩, .string ⟨#[]⟩, .bool false, .int .i64 0, .slice none 0 0, .slice none 0 0, .slice none 0 0, .int .i64 0, .int .i64 0, .string ⟨#[]⟩, .int .u64 0, .slice none 0 0, .slice none 0 0, .slice none 0 0, .slice none 0 0, .int .i64 0, .string ⟨#[]⟩, .string ⟨#[]⟩, .int .u64 0, .int .i64 0]] w (TellAt w base o t (s.tell word ver)) := by
  have htl := Lib.hid (tell_3y (x := word) he hx)
  have q1 : (ver == s.ver) = true := by simpa using hx.1
  have q2 : (s.done == 0) = true := by simpa using hx.2
  clear hx
  rw [htl.out]
  have hb0 : Below w.heap.size w (w.alloc (.cells #[.bool ok, .int .u64 word, .int .u64 ver, .int .i64 0, .int .i64 0, .string ⟨#[]⟩, .string ⟨#[]⟩, .bool false, .int .i64 0, .slice none 0 0, .slice none 0 0, .slice none 0 0, .int .i64 0, .int .i64 0, .string ⟨#[]⟩, .int .u64 0, .slice none 0 0, .slice none 0 0, .slice none 0 0, .slice none 0 0, .int .i64 0, .string ⟨#[]⟩, .string ⟨#[]⟩, .int .u64 0, .int .i64 0] 66)) := by (repeat (first | exact Below.refl _ _ | assumption | refine below_alloc2 ?_ (by first | exact Nat.le_refl _ | omega) _ | refine Below.drew ?_ | refine below_drewN ?_ _ | refine below_push2 ?_ ‹_› (by first | exact Nat.le_refl _ | omega) | refine Below.setCell ?_ (by first | (simp; done) | (simp; omega) | omega) _))
  have hth := hC.ok.th
  have hok := hC.ok.tell word ver (by omega) ⟨x0, x1⟩ ⟨v0, v1⟩
  go_enter Try.func16, Try.ntmps16
  go_wp2_with fail
  refine (over_any _ (h.below hb0) (hC.under hb0) false (by simpa using hT)).mono ?_
  rintro e w1 ⟨rfl, hb1⟩
  have BR := (Blk.new w #[.bool ok, .int .u64 word, .int .u64 ver, .int .i64 0, .int .i64 0, .string ⟨#[]⟩, .string ⟨#[]⟩, .bool false, .int .i64 0, .slice none 0 0, .slice none 0 0, .slice none 0 0, .int .i64 0, .int .i64 0, .string ⟨#[]⟩, .int .u64 0, .slice none 0 0, .slice none 0 0, .slice none 0 0, .slice none 0 0, .int .i64 0, .string ⟨#[]⟩, .string ⟨#[]⟩, .int .u64 0, .int .i64 0] 66).below hb1
  have hB2 := below_push2 hb0 hb1 (Nat.le_refl _)
  have hC2 := (hC.under hb0).under hb1
  clear h hC hb0 hb1
  have hs1 := hB2.size
  have r1 : w1.cell? ⟨w.heap.size, 1, none⟩ = some (.int .u64 word) := BR.at 1 rfl
  have r2 : w1.cell? ⟨w.heap.size, 2, none⟩ = some (.int .u64 ver) := BR.at 2 rfl
  have c1 : w1.cell? ⟨t, 1, none⟩ = some (.int .i64 s.th) := hC2.head.at 1 rfl
  have c2 : w1.cell? ⟨t, 2, none⟩ = some (.int .i64 s.at_) := hC2.head.at 2 rfl
  have c3 : w1.cell? ⟨t, 3, none⟩ = some (.int .u64 s.ver) := hC2.head.at 3 rfl
  have c4 : w1.cell? ⟨t, 4, none⟩ = some (.int .u64 s.done) := hC2.head.at 4 rfl
  have c5 : w1.cell? ⟨t, 5, none⟩ = some (.int .u64 s.ph) := hC2.head.at 5 rfl
  have f1 := hC2.head.free 1
  have f2 := hC2.head.free 2
  have f3 := hC2.head.free 3
  have f4 := hC2.head.free 4
  have f5 := hC2.head.free 5
  have hge := hC2.ge
  rw [he] at c2
  rw [htl.out] at hok
  have hw : IntKind.i64.wrap ((s.th : Int) + 1) = (s.th : Int) + 1 := by rw [IntKind.wrap_i64]; omega
  go_upto_region 12 with (fail)
  go_quiet (fail)
  have hC3 := hC2.under (below_drewN (Below.refl _ _) nq)
  have hB3 := below_drewN hB2 nq
  have hs3 := hB3.size
  clear hC2 hB2 BR r1 r2 c1 c2 c3 c4 c5 f1 f2 f3 f4 f5 hs1
  generalize w1.drewN nq = wn at hC3 hB3 hs3 ⊢
  have hK1 : Below wn.heap.size wn ((wn.alloc (.cells #[.int .i64 s.th, .int .u64 s.ph] 96)).drew) := ((Below.refl _ wn).alloc (Nat.le_refl _) _).drew
  have CB := (Blk.new wn #[.int .i64 s.th, .int .u64 s.ph] 96).drew
  have hCd := hC3.under hK1
  have hBd : Below base w ((wn.alloc (.cells #[.int .i64 s.th, .int .u64 s.ph] 96)).drew) := ((hB3.mono hbase).alloc (by omega) _).drew
  have hln := hC3.ok.len
  obtain ⟨g', cap', w', K⟩ := addCand base hCd.own ((s.th : Int), s.ph) CB (by omega) (by simp; omega)
  have hrun := Lib.hid K.run
  have hgr := K.grown
  have hat' := K.at'
  have H' : Blk w' t (taskA o s a c) 75 := hCd.head.grown hgr (fun e => hCd.ne t e.symm rfl)
  have hgt : g' ≠ t := by
    rcases hat' with q | q
    · exact hCd.ne _ q
    · have := hCd.head.lt
      omega
  have hBw : Below base w w' := K.keeps (fun q e => (OwnR.lt hCd.own q e).1) w base (Nat.le_refl _) hBd (by simp; omega)
  have hown := K.own
  clear hgr hat' hBd K
  have c1 : wn.cell? ⟨t, 1, none⟩ = some (.int .i64 s.th) := hC3.head.at 1 rfl
  have c5 : wn.cell? ⟨t, 5, none⟩ = some (.int .u64 s.ph) := hC3.head.at 5 rfl
  have c6 : wn.cell? ⟨t, 6, none⟩ = some (.slice a s.L.length c) := hC3.head.at 6 rfl
  have hlt3 : t < wn.heap.size := hC3.head.lt
  have d6 : w'.cell? ⟨t, 6, none⟩ = some (.slice a s.L.length c) := H'.at 6 rfl
  have d1 : w'.cell? ⟨t, 1, none⟩ = some (.int .i64 s.th) := H'.at 1 rfl
  have d2 : w'.cell? ⟨t, 2, none⟩ = some (.int .i64 s.at_) := H'.at 2 rfl
  have f1 := H'.free 1
  have f2 := H'.free 2
  have f6 := H'.free 6
  rw [he] at d2
  have hend : TellAt w base o t { s with L := s.L ++ [((s.th : Int), s.ph)], th := s.th + 1, at_ := 0 } (.returned (.tuple #[])) (((w'.setCell ⟨t, 6, none⟩ (.slice (some ⟨g', 0, none⟩) (s.L.length + 1) cap')).setCell ⟨t, 1, none⟩ (.int .i64 ((s.th : Int) + 1))).setCell ⟨t, 2, none⟩ (.int .i64 0)) := by
    have hF : Fr [t] w' (((w'.setCell ⟨t, 6, none⟩ (.slice (some ⟨g', 0, none⟩) (s.L.length + 1) cap')).setCell ⟨t, 1, none⟩ (.int .i64 ((s.th : Int) + 1))).setCell ⟨t, 2, none⟩ (.int .i64 0)) :=
      (((Fr.refl _ _).set _ _ (.inl (by simp))).set _ _ (.inl (by simp))).set _ _ (.inl (by simp))
    refine ⟨⟨some ⟨g', 0, none⟩, cap', rfl, ⟨?_, ?_, hge, fun q hq => ?_, hok⟩⟩, ((hBw.setCell hge _).setCell hge _).setCell hge _⟩
    · have := ((H'.set 6 (.slice (some ⟨g', 0, none⟩) (s.L.length + 1) cap')).set 1 (.int .i64 ((s.th : Int) + 1))).set 2 (.int .i64 0)
      simpa [taskA] using this
    · refine OwnR.heap hown fun q hq => hF.block q (OwnR.lt hown q hq).2 ?_
      simp only [Value.ownBlock, Option.some.injEq] at hq
      subst hq
      simpa using hgt
    · simp only [Value.ownBlock, Option.some.injEq] at hq
      subst hq
      exact hgt
  clear hown H' hBw hok
  go_upto_region 13 with (fail)
  go_region_law ((refine step_append_run hrun.out rfl (by rfl) (by rfl) (by rfl) ?_))
  all_goals
    go_wp2_with fail
    go_end0
    exact hend
theorem tell_any {o oc g gb gr A T : Nat} {L : List (Int × Int)} {bs rs : List (List Value)} {base t : Nat} {s : CS} {a : Option Addr} {c : Nat} (ok : Bool) (word ver : Int) (w : World) (h : MemAt w o oc g gb gr A T L bs rs) (hC : ChAt w base o t s a c) (hT : s.th < T) (hT' : T ≤ 16) (x0 : 0 ≤ word) (x1 : word ≤ 18446744073709551615) (v0 : 0 ≤ ver) (v1 : ver ≤ 18446744073709551615) (hbase : base ≤ w.heap.size) : Calls Try.prog 16 #[.pointer (some ⟨t, 0, none⟩), .agg #[.bool ok, .int .u64 word, .int .u64 ver, .int .i64 0, .int .i64 0, .string ⟨#[]⟩, .string ⟨#[]⟩, .bool false, .int .i64 0, .slice none 0 0, .slice none 0 0, .slice none 0 0, .int .i64 0, .int .i64 0, .string ⟨#[]⟩, .int .u64 0, .slice none 0 0, .slice none 0 0, .slice none 0 0, .slice none 0 0, .int .i64 0, .string ⟨#[]⟩, .string ⟨#[]⟩, .int .u64 0, .int .i64 0]] w (TellAt w base o t (s.tell word ver)) := by
  have ha := hC.ok.at_
  have hc : s.at_ = 0 ∨ s.at_ = 1 ∨ s.at_ = 2 ∨ s.at_ = 3 := by omega
  rcases hc with e | e | e | e
  · by_cases hz : word = 0
    · exact tell_at0z ok word ver w h hC hT hT' x0 x1 v0 v1 hbase e hz
    · exact tell_at0n ok word ver w h hC hT hT' x0 x1 v0 v1 hbase e hz
  · exact tell_at1 ok word ver w h hC hT hT' x0 x1 v0 v1 hbase e
  · exact tell_at2 ok word ver w h hC hT hT' x0 x1 v0 v1 hbase e
  · by_cases hx : ver = s.ver ∧ s.done = 0
    · exact tell_at3y ok word ver w h hC hT hT' x0 x1 v0 v1 hbase e hx
    · exact tell_at3n ok word ver w h hC hT hT' x0 x1 v0 v1 hbase e hx
end Go.Proofs.Ytpimifnibdjhfaa.MemP
