/-
  claim: Tell: contracts.
-/
import Derived.Test.YtppclnnkleebkaaClaimS
namespace Go.Proofs.Ytppclnnkleebkaa.MemP
open Go.RowKit RefP CellP
set_option linter.unusedVariables false
set_option linter.unusedSimpArgs false
def mayI (x : Int) : Bool := statesB x && (stateS x == 0 && decide (stateG x < 4294967295))
set_option maxHeartbeats 1600000 in
theorem clMay_any (b : Nat) (x : Int) (w : World) (c1 : w.cell? ⟨b, 1, none⟩ = some (.int .u64 x)) (x0 : 0 ≤ x) (x1 : x ≤ 18446744073709551615) : Calls Try.prog 29 #[.pointer (some ⟨b, 0, none⟩)] w fun e w' => e = .returned (.bool (mayI x)) ∧ Below w.heap.size w w' := by
  cases q1 : statesB x
  · have hR : Hid (mayI x = false) := by show mayI x = false; unfold mayI; rw [q1]; rfl
    go_enter Try.func29, Try.ntmps29
    go_wp2_with fail
    refine (state_any x _ x0 x1).mono ?_
    rintro e w1 ⟨rfl, hb1⟩
    go_wp2_with fail
    go_ret
    exact ⟨ret_bool hR.out.symm, hb1⟩
  cases q2 : (stateS x == 0)
  · have hR : Hid (mayI x = false) := by show mayI x = false; unfold mayI; rw [q1, q2]; rfl
    go_enter Try.func29, Try.ntmps29
    go_wp2_with fail
    refine (state_any x _ x0 x1).mono ?_
    rintro e w1 ⟨rfl, hb1⟩
    go_wp2_with fail
    go_ret
    exact ⟨ret_bool hR.out.symm, hb1⟩
  cases q3 : decide (stateG x < 4294967295)
  · have hR : Hid (mayI x = false) := by show mayI x = false; unfold mayI; rw [q1, q2, q3]; rfl
    go_enter Try.func29, Try.ntmps29
    go_wp2_with fail
    refine (state_any x _ x0 x1).mono ?_
    rintro e w1 ⟨rfl, hb1⟩
    go_wp2_with fail
    go_ret
    exact ⟨ret_bool hR.out.symm, hb1⟩
  · have hR : Hid (mayI x = true) := by show mayI x = true; unfold mayI; rw [q1, q2, q3]; rfl
    go_enter Try.func29, Try.ntmps29
    go_wp2_with fail
    refine (state_any x _ x0 x1).mono ?_
    rintro e w1 ⟨rfl, hb1⟩
    go_wp2_with fail
    go_ret
    exact ⟨ret_bool hR.out.symm, hb1⟩
set_option maxRecDepth 100000 in
set_option maxHeartbeats 3200000 in
theorem clTell_used {o oc g gb gr A T : Nat} {L : List (Int × Int)} {bs rs : List (List Value)} {base t : Nat} {a : Option Addr} {c : Nat} {l : List Int} {many : Int} {place seen : Nat} {ld : Bool} {word ver : Int} (w : World) (h : MemAt w o oc g gb gr A T L bs rs) (hC : ClAt w base o t a c l many place seen ld word ver) (hl : ld = true) (hm : l.length < many) (hs : seen < A) (hp : place < A) (ok : Bool) (rw_ rv : Int) (x0 : 0 ≤ rw_) (x1 : rw_ ≤ 18446744073709551615) (hmay : mayI rw_ = false) :
    Calls Try.prog 9 #[.pointer (some ⟨t, 0, none⟩), .agg #[.bool ok, .int .u64 rw_, .int .u64 rv, .int .i64 0, .int .i64 0, .string ⟨#[]⟩, .string ⟨#[]⟩, .bool false, .int .i64 0, .slice none 0 0, .slice none 0 0, .slice none 0 0, .int .i64 0, .int .i64 0, .string ⟨#[]⟩, .int .u64 0, .slice none 0 0, .slice none 0 0, .slice none 0 0, .slice none 0 0, .int .i64 0, .string ⟨#[]⟩, .string ⟨#[]⟩, .int .u64 0, .int .i64 0]] w fun e w' => e = .returned (.tuple #[]) ∧ ClAt w' base o t a c l many ((place + 1) % A) (seen + 1) true word ver ∧ Fr [t] w w' := by
  subst hl
  have hb0 : Below w.heap.size w (w.alloc (.cells #[.bool ok, .int .u64 rw_, .int .u64 rv, .int .i64 0, .int .i64 0, .string ⟨#[]⟩, .string ⟨#[]⟩, .bool false, .int .i64 0, .slice none 0 0, .slice none 0 0, .slice none 0 0, .int .i64 0, .int .i64 0, .string ⟨#[]⟩, .int .u64 0, .slice none 0 0, .slice none 0 0, .slice none 0 0, .slice none 0 0, .int .i64 0, .string ⟨#[]⟩, .string ⟨#[]⟩, .int .u64 0, .int .i64 0] 53)) := by (repeat (first | exact Below.refl _ _ | assumption | refine below_alloc2 ?_ (by first | exact Nat.le_refl _ | omega) _ | refine Below.drew ?_ | refine below_drewN ?_ _ | refine below_push2 ?_ ‹_› (by first | exact Nat.le_refl _ | omega) | refine Below.setCell ?_ (by first | (simp; done) | (simp; omega) | omega) _))
  have BR := Blk.new w #[.bool ok, .int .u64 rw_, .int .u64 rv, .int .i64 0, .int .i64 0, .string ⟨#[]⟩, .string ⟨#[]⟩, .bool false, .int .i64 0, .slice none 0 0, .slice none 0 0, .slice none 0 0, .int .i64 0, .int .i64 0, .string ⟨#[]⟩, .int .u64 0, .slice none 0 0, .slice none 0 0, .slice none 0 0, .slice none 0 0, .int .i64 0, .string ⟨#[]⟩, .string ⟨#[]⟩, .int .u64 0, .int .i64 0] 53
  have hlt := hC.head.lt
  have h1 := h.below hb0
  have hC1 := hC.under hb0
  go_enter Try.func9, Try.ntmps9
  go_wp2_with fail
  generalize w.alloc (.cells #[.bool ok, .int .u64 rw_, .int .u64 rv, .int .i64 0, .int .i64 0, .string ⟨#[]⟩, .string ⟨#[]⟩, .bool false, .int .i64 0, .slice none 0 0, .slice none 0 0, .slice none 0 0, .int .i64 0, .int .i64 0, .string ⟨#[]⟩, .int .u64 0, .slice none 0 0, .slice none 0 0, .slice none 0 0, .slice none 0 0, .int .i64 0, .string ⟨#[]⟩, .string ⟨#[]⟩, .int .u64 0, .int .i64 0] 53) = wz at hb0 BR h1 hC1 ⊢
  refine (clNext_load _ h1 hC1 rfl hm hs hp).mono ?_
  rintro e w1 ⟨rfl, hb1⟩
  have hb2 := (below_push2 (Below.refl _ wz) hb1 (Nat.le_refl _)).alloc hb1.size (.cells (accY 1 (atI A T 1 place) 0 0) 48)
  replace hb0 := below_push2 hb0 hb2 (Nat.le_refl _)
  replace BR := BR.below hb2
  replace h1 := h1.below hb2
  replace hC1 := hC1.under hb2
  clear hb1 hb2
  generalize hW : w1.alloc (.cells (accY 1 (atI A T 1 place) 0 0) 48) = w2 at hb0 BR h1 hC1
  replace hW := Lib.hid hW
  have c5 := hC1.head.at 5 rfl
  have f5 := hC1.head.free 5
  have r0 := BR.at 0 rfl
  have r1 := BR.at 1 rfl
  have r2 := BR.at 2 rfl
  have c3 := hC1.head.at 3 rfl
  go_wp2_with (refine wpList_store_row rfl 48 _ _ rfl _ _ rfl rfl 48 _ (Blk.new w1 _ _).h (by kernel_rfl) (by rfl) (by kernel_rfl) ?_; rw [World.setRow_alloc_new, hW.out])
  clear hW
  refine (clMay_any _ rw_ _ r1 x0 x1).mono ?_
  rw [hmay]
  rintro e w3 ⟨rfl, hb3⟩
  replace h1 := h1.below hb3
  replace hC1 := hC1.under hb3
  replace hb0 := below_push2 hb0 hb3 (Nat.le_refl _)
  clear c3 c5 f5 r0 r1 r2 BR hb3
  have c5 := hC1.head.at 5 rfl
  go_wp2_with fail
  refine (clOn_any _ h1 hC1 hs hp).mono ?_
  rintro e w4 ⟨rfl, hC4, hF4⟩
  go_wp2_with fail
  go_end0
  exact ⟨rfl, hC4, (Fr.of_below hb0).trans hF4⟩
set_option maxRecDepth 100000 in
set_option maxHeartbeats 3200000 in
theorem clTell_free {o oc g gb gr A T : Nat} {L : List (Int × Int)} {bs rs : List (List Value)} {base t : Nat} {a : Option Addr} {c : Nat} {l : List Int} {many : Int} {place seen : Nat} {ld : Bool} {word ver : Int} (w : World) (h : MemAt w o oc g gb gr A T L bs rs) (hC : ClAt w base o t a c l many place seen ld word ver) (hl : ld = true) (hm : l.length < many) (hs : seen < A) (hp : place < A) (ok : Bool) (rw_ rv : Int) (x0 : 0 ≤ rw_) (x1 : rw_ ≤ 18446744073709551615) (hmay : mayI rw_ = true) :
    Calls Try.prog 9 #[.pointer (some ⟨t, 0, none⟩), .agg #[.bool ok, .int .u64 rw_, .int .u64 rv, .int .i64 0, .int .i64 0, .string ⟨#[]⟩, .string ⟨#[]⟩, .bool false, .int .i64 0, .slice none 0 0, .slice none 0 0, .slice none 0 0, .int .i64 0, .int .i64 0, .string ⟨#[]⟩, .int .u64 0, .slice none 0 0, .slice none 0 0, .slice none 0 0, .slice none 0 0, .int .i64 0, .string ⟨#[]⟩, .string ⟨#[]⟩, .int .u64 0, .int .i64 0]] w fun e w' => e = .returned (.tuple #[]) ∧ ClAt w' base o t a c l many place seen false rw_ rv ∧ Fr [t] w w' := by
  subst hl
  have hb0 : Below w.heap.size w (w.alloc (.cells #[.bool ok, .int .u64 rw_, .int .u64 rv, .int .i64 0, .int .i64 0, .string ⟨#[]⟩, .string ⟨#[]⟩, .bool false, .int .i64 0, .slice none 0 0, .slice none 0 0, .slice none 0 0, .int .i64 0, .int .i64 0, .string ⟨#[]⟩, .int .u64 0, .slice none 0 0, .slice none 0 0, .slice none 0 0, .slice none 0 0, .int .i64 0, .string ⟨#[]⟩, .string ⟨#[]⟩, .int .u64 0, .int .i64 0] 53)) := by (repeat (first | exact Below.refl _ _ | assumption | refine below_alloc2 ?_ (by first | exact Nat.le_refl _ | omega) _ | refine Below.drew ?_ | refine below_drewN ?_ _ | refine below_push2 ?_ ‹_› (by first | exact Nat.le_refl _ | omega) | refine Below.setCell ?_ (by first | (simp; done) | (simp; omega) | omega) _))
  have BR := Blk.new w #[.bool ok, .int .u64 rw_, .int .u64 rv, .int .i64 0, .int .i64 0, .string ⟨#[]⟩, .string ⟨#[]⟩, .bool false, .int .i64 0, .slice none 0 0, .slice none 0 0, .slice none 0 0, .int .i64 0, .int .i64 0, .string ⟨#[]⟩, .int .u64 0, .slice none 0 0, .slice none 0 0, .slice none 0 0, .slice none 0 0, .int .i64 0, .string ⟨#[]⟩, .string ⟨#[]⟩, .int .u64 0, .int .i64 0] 53
  have hlt := hC.head.lt
  have h1 := h.below hb0
  have hC1 := hC.under hb0
  go_enter Try.func9, Try.ntmps9
  go_wp2_with fail
  generalize w.alloc (.cells #[.bool ok, .int .u64 rw_, .int .u64 rv, .int .i64 0, .int .i64 0, .string ⟨#[]⟩, .string ⟨#[]⟩, .bool false, .int .i64 0, .slice none 0 0, .slice none 0 0, .slice none 0 0, .int .i64 0, .int .i64 0, .string ⟨#[]⟩, .int .u64 0, .slice none 0 0, .slice none 0 0, .slice none 0 0, .slice none 0 0, .int .i64 0, .string ⟨#[]⟩, .string ⟨#[]⟩, .int .u64 0, .int .i64 0] 53) = wz at hb0 BR h1 hC1 ⊢
  refine (clNext_load _ h1 hC1 rfl hm hs hp).mono ?_
  rintro e w1 ⟨rfl, hb1⟩
  have hb2 := (below_push2 (Below.refl _ wz) hb1 (Nat.le_refl _)).alloc hb1.size (.cells (accY 1 (atI A T 1 place) 0 0) 48)
  replace hb0 := below_push2 hb0 hb2 (Nat.le_refl _)
  replace BR := BR.below hb2
  replace h1 := h1.below hb2
  replace hC1 := hC1.under hb2
  clear hb1 hb2
  generalize hW : w1.alloc (.cells (accY 1 (atI A T 1 place) 0 0) 48) = w2 at hb0 BR h1 hC1
  replace hW := Lib.hid hW
  have c5 := hC1.head.at 5 rfl
  have f5 := hC1.head.free 5
  have r0 := BR.at 0 rfl
  have r1 := BR.at 1 rfl
  have r2 := BR.at 2 rfl
  have c3 := hC1.head.at 3 rfl
  go_wp2_with (refine wpList_store_row rfl 48 _ _ rfl _ _ rfl rfl 48 _ (Blk.new w1 _ _).h (by kernel_rfl) (by rfl) (by kernel_rfl) ?_; rw [World.setRow_alloc_new, hW.out])
  clear hW
  refine (clMay_any _ rw_ _ r1 x0 x1).mono ?_
  rw [hmay]
  rintro e w3 ⟨rfl, hb3⟩
  replace hC1 := hC1.under hb3
  replace BR := BR.below hb3
  replace hb0 := below_push2 hb0 hb3 (Nat.le_refl _)
  clear c3 c5 f5 r0 r1 r2 hb3
  have c5 := hC1.head.at 5 rfl
  have c6 := hC1.head.at 6 rfl
  have c7 := hC1.head.at 7 rfl
  have f5 := hC1.head.free 5
  have f6 := hC1.head.free 6
  have f7 := hC1.head.free 7
  have r1 := BR.at 1 rfl
  have r2 := BR.at 2 rfl
  have hne : ¬ w.heap.size = t := by omega
  have hne' : ¬ t = w.heap.size := by omega
  go_upto_region 10 with (fail)
  go_region
  all_goals
    go_wp2_with fail
    go_end0
    have hF : Fr [t] w3 (((w3.setCell ⟨t, 6, none⟩ (.int .u64 rw_)).setCell ⟨t, 7, none⟩ (.int .u64 rv)).setCell ⟨t, 5, none⟩ (.bool false)) := (((Fr.refl _ _).set _ _ (.inl (by simp))).set _ _ (.inl (by simp))).set _ _ (.inl (by simp))
    have hBF : Blk (((w3.setCell ⟨t, 6, none⟩ (.int .u64 rw_)).setCell ⟨t, 7, none⟩ (.int .u64 rv)).setCell ⟨t, 5, none⟩ (.bool false)) t (clA (some ⟨o, 0, none⟩) (.slice a l.length c) many place seen false rw_ rv) 67 := by
      simpa [clA] using ((hC1.head.set 6 (.int .u64 rw_)).set 7 (.int .u64 rv)).set 5 (.bool false)
    exact ⟨rfl, (hC1.sets hF hBF).under (Below.refl _ _).drew, ((Fr.of_below hb0).trans hF).trans (Fr.of_below (Below.refl _ _).drew)⟩
/-- a row's own block -/
def ownS (v : Value) : List Nat := match v.ownBlock with | some q => [q] | none => []
theorem ownS_mem {v : Value} {q : Nat} (h : v.ownBlock = some q) : q ∈ ownS v := by unfold ownS; rw [h]; simp
theorem ownS_of {v : Value} {q : Nat} (h : q ∈ ownS v) : v.ownBlock = some q := by
  unfold ownS at h
  split at h
  · rename_i e
    rw [List.mem_singleton.1 h]; exact e
  · cases h
abbrev ClTold (w : World) (base o t : Nat) (a : Option Addr) (c n : Nat) (l : List Int) (many : Int) (place seen : Nat) (ld : Bool) (word ver : Int) (e : Ending) (w' : World) : Prop := (∃ g' c', e = .returned (.tuple #[]) ∧ ClAt w' base o t (some ⟨g', 0, none⟩) c' l many place seen ld word ver ∧ ((Value.slice a n c).ownBlock = some g' ∨ w.heap.size ≤ g')) ∧ Fr (t :: ownS (.slice a n c)) w w'
theorem packI_rng (p g : Int) (h : 0 ≤ g) : 0 ≤ packI p g ∧ packI p g ≤ 18446744073709551615 := by
  unfold packI
  split <;> omega
set_option maxRecDepth 100000 in
set_option maxHeartbeats 6400000 in
theorem clTell_cas {o oc g gb gr A T : Nat} {L : List (Int × Int)} {bs rs : List (List Value)} {base t : Nat} {a : Option Addr} {c : Nat} {l : List Int} {many : Int} {place seen : Nat} {ld : Bool} {word ver : Int} (w : World) (h : MemAt w o oc g gb gr A T L bs rs) (hC : ClAt w base o t a c l many place seen ld word ver) (hl : ld = false) (hm : l.length < many) (hs : seen < A) (hp : place < A) (hlen : l.length ≤ 60000) (hbase : base ≤ w.heap.size) (x0 : 0 ≤ word) (x1 : word ≤ 18446744073709551615) (rw_ rv : Int) :
    Calls Try.prog 9 #[.pointer (some ⟨t, 0, none⟩), .agg #[.bool true, .int .u64 rw_, .int .u64 rv, .int .i64 0, .int .i64 0, .string ⟨#[]⟩, .string ⟨#[]⟩, .bool false, .int .i64 0, .slice none 0 0, .slice none 0 0, .slice none 0 0, .int .i64 0, .int .i64 0, .string ⟨#[]⟩, .int .u64 0, .slice none 0 0, .slice none 0 0, .slice none 0 0, .slice none 0 0, .int .i64 0, .string ⟨#[]⟩, .string ⟨#[]⟩, .int .u64 0, .int .i64 0]] w (ClTold w base o t a c l.length (l ++ [packI place (stateG word + 1)]) many ((place + 1) % A) 0 true word ver) := by
  subst hl
  have hst := fun W => state_any word W x0 x1
  have hg := stateG_rng word x0
  obtain ⟨sg, hsg⟩ : ∃ sg, sg = stateG word := ⟨_, rfl⟩
  rw [← hsg] at hg ⊢
  replace hsg := Lib.hid hsg
  have hb0 : Below w.heap.size w (w.alloc (.cells #[.bool true, .int .u64 rw_, .int .u64 rv, .int .i64 0, .int .i64 0, .string ⟨#[]⟩, .string ⟨#[]⟩, .bool false, .int .i64 0, .slice none 0 0, .slice none 0 0, .slice none 0 0, .int .i64 0, .int .i64 0, .string ⟨#[]⟩, .int .u64 0, .slice none 0 0, .slice none 0 0, .slice none 0 0, .slice none 0 0, .int .i64 0, .string ⟨#[]⟩, .string ⟨#[]⟩, .int .u64 0, .int .i64 0] 53)) := by (repeat (first | exact Below.refl _ _ | assumption | refine below_alloc2 ?_ (by first | exact Nat.le_refl _ | omega) _ | refine Below.drew ?_ | refine below_drewN ?_ _ | refine below_push2 ?_ ‹_› (by first | exact Nat.le_refl _ | omega) | refine Below.setCell ?_ (by first | (simp; done) | (simp; omega) | omega) _))
  have BR := Blk.new w #[.bool true, .int .u64 rw_, .int .u64 rv, .int .i64 0, .int .i64 0, .string ⟨#[]⟩, .string ⟨#[]⟩, .bool false, .int .i64 0, .slice none 0 0, .slice none 0 0, .slice none 0 0, .int .i64 0, .int .i64 0, .string ⟨#[]⟩, .int .u64 0, .slice none 0 0, .slice none 0 0, .slice none 0 0, .slice none 0 0, .int .i64 0, .string ⟨#[]⟩, .string ⟨#[]⟩, .int .u64 0, .int .i64 0] 53
  have hlt := hC.head.lt
  have h1 := h.below hb0
  have hC1 := hC.under hb0
  go_enter Try.func9, Try.ntmps9
  go_wp2_with fail
  generalize w.alloc (.cells #[.bool true, .int .u64 rw_, .int .u64 rv, .int .i64 0, .int .i64 0, .string ⟨#[]⟩, .string ⟨#[]⟩, .bool false, .int .i64 0, .slice none 0 0, .slice none 0 0, .slice none 0 0, .int .i64 0, .int .i64 0, .string ⟨#[]⟩, .int .u64 0, .slice none 0 0, .slice none 0 0, .slice none 0 0, .slice none 0 0, .int .i64 0, .string ⟨#[]⟩, .string ⟨#[]⟩, .int .u64 0, .int .i64 0] 53) = wz at hb0 BR h1 hC1 ⊢
  refine (clNext_cas _ h1 hC1 rfl hm hs hp x0 x1).mono ?_
  rintro e w1 ⟨rfl, hb1⟩
  have hb2 := (below_push2 (Below.refl _ wz) hb1 (Nat.le_refl _)).alloc hb1.size (.cells (accY 3 (atI A T 1 place) ver (useI 1 (stateG word + 1))) 48)
  replace hb0 := below_push2 hb0 hb2 (Nat.le_refl _)
  replace BR := BR.below hb2
  replace h1 := h1.below hb2
  replace hC1 := hC1.under hb2
  clear hb1 hb2
  generalize hW : w1.alloc (.cells (accY 3 (atI A T 1 place) ver (useI 1 (stateG word + 1))) 48) = w2 at hb0 BR h1 hC1
  replace hW := Lib.hid hW
  have c5 := hC1.head.at 5 rfl
  have f5 := hC1.head.free 5
  have r0 := BR.at 0 rfl
  have r1 := BR.at 1 rfl
  have r2 := BR.at 2 rfl
  have c3 := hC1.head.at 3 rfl
  go_wp2_with (refine wpList_store_row rfl 48 _ _ rfl _ _ rfl rfl 48 _ (Blk.new w1 _ _).h (by kernel_rfl) (by rfl) (by kernel_rfl) ?_; rw [World.setRow_alloc_new, hW.out])
  clear hW
  refine (clOn_any _ h1 hC1 hs hp).mono ?_
  rintro e w3 ⟨rfl, hC3, hF3⟩
  have BR3 := hF3.blk BR (by simp; omega)
  have hT3 := (Fr.of_below (S := [t]) hb0).trans hF3
  have hA := h.a1
  clear c5 f5 r0 r1 r2 c3 BR hF3
  have r0 := BR3.at 0 rfl
  have c6 := hC3.head.at 6 rfl
  go_wp2_with fail
  refine (hst _).mono ?_
  rintro e w4 ⟨rfl, hb4⟩
  rw [← hsg.out]
  clear hst hsg r0 c6 BR3 h1 hC1 hb0
  have hC4 := hC3.under hb4
  have hT4 := hT3.trans (Fr.of_below hb4)
  clear hC3 hT3 hb4
  have hp0 : 0 ≤ packI place (sg + 1) ∧ packI place (sg + 1) ≤ 18446744073709551615 := packI_rng _ _ (by omega)
  have hpk := pack_any place (sg + 1) w4.drew (by omega) (by omega) (by omega) (by omega)
  generalize hpkE : packI place (sg + 1) = pk at hp0 hpk
  replace hpkE := Lib.hid hpkE
  have hw : IntKind.u64.wrap (sg + 1) = sg + 1 := by rw [IntKind.wrap_u64]; omega
  have hK1 : Below w4.heap.size w4 ((w4.alloc (.cells #[.int .u64 pk] 27)).drew) := ((Below.refl _ w4).alloc (Nat.le_refl _) _).drew
  have HX : U64s ((w4.alloc (.cells #[.int .u64 pk] 27)).drew) (some ⟨w4.heap.size, 0, none⟩) [pk] :=
    ⟨Holds.of_blk' (Blk.new w4 #[.int .u64 pk] 27).drew _ _ (fun i hi => by rcases i with _ | i <;> first | rfl | (simp at hi; try omega)), by simpa using hp0, by simp⟩
  have hCd := hC4.under hK1
  have hs4 := hT4.size
  obtain ⟨g', cap', w5, K⟩ := addAll base hCd.own (c' := 1) HX (by simp) (by simp; omega) (by simp; omega)
  have hrun := Lib.hid K.run
  have B5 := hCd.head.grown K.grown (fun e => hCd.ne t e.symm rfl)
  have hgt : g' ≠ t := by
    rcases K.at' with q | q
    · exact hCd.ne _ q
    · have := hCd.head.lt
      omega
  have hT5 : Fr (t :: ownS (.slice a l.length c)) w w5 := (((hT4.trans (Fr.of_below hK1)).more (S' := t :: ownS (.slice a l.length c)) (by simp))).trans (Fr.of_grown K.grown (fun q e => List.mem_cons_of_mem _ (ownS_mem e)))
  have hat : (Value.slice a l.length c).ownBlock = some g' ∨ w.heap.size ≤ g' := by
    rcases K.at' with q | q
    · exact .inl q
    · right; rw [q]; simp; omega
  have hown := K.own
  have hge := hC4.ge
  have c1 : w4.cell? ⟨t, 1, none⟩ = some (.slice a l.length c) := hC4.head.at 1 rfl
  have hlt4 := hC4.head.lt
  have d1 := B5.at 1 rfl
  have d4 := B5.at 4 rfl
  have f1 := B5.free 1
  have f4 := B5.free 4
  have hend : ClTold w base o t a c l.length (l ++ [pk]) many ((place + 1) % A) 0 true word ver (.returned (.tuple #[])) ((w5.setCell ⟨t, 1, none⟩ (.slice (some ⟨g', 0, none⟩) (l.length + 1) cap')).setCell ⟨t, 4, none⟩ (.int .i64 0)) := by
    have hF : Fr [t] w5 ((w5.setCell ⟨t, 1, none⟩ (.slice (some ⟨g', 0, none⟩) (l.length + 1) cap')).setCell ⟨t, 4, none⟩ (.int .i64 0)) := ((Fr.refl _ _).set _ _ (.inl (by simp))).set _ _ (.inl (by simp))
    refine ⟨⟨g', cap', rfl, ⟨?_, ?_, hge, fun q hq => ?_⟩, hat⟩, hT5.trans (hF.more (by simp))⟩
    · simpa [clA] using (B5.set 1 (.slice (some ⟨g', 0, none⟩) (l.length + 1) cap')).set 4 (.int .i64 0)
    · refine OwnsU.heap hown fun q hq => hF.block q (hown.lt q hq).2 ?_
      simp only [Value.ownBlock, Option.some.injEq] at hq
      subst hq
      simpa using hgt
    · simp only [Value.ownBlock, Option.some.injEq] at hq
      subst hq
      exact hgt
  clear hown B5 hT5 hT4 hat K HX hCd
  go_upto_region 8 with (fail)
  go_region_law (first
    | ((with_reducible (show @ite _ _ _ (Oper.wp _ _ _ ((w4.alloc (.cells #[.int .u64 pk] 27)).drew) _ _) _)); refine step_append_run hrun.out rfl (by rfl) (by rfl) (by rfl) ?_)
    | (go_simp; go_at_call 31; refine hpk.mono ?_; rintro e wx ⟨rfl, rfl⟩))
  all_goals
    go_wp2_with fail
    go_end0
    rw [hpkE.out]
    exact hend
end Go.Proofs.Ytppclnnkleebkaa.MemP
