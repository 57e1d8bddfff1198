/-
  claim: Next and Tell of a task of a memory, whatever it is at: contracts.
-/
import Derived.Test.YtppclnnkleebkaaClaimQ
namespace Go.Proofs.Ytppclnnkleebkaa.MemP
open Go.RowKit RefP CellP
set_option linter.unusedVariables false
set_option linter.unusedSimpArgs false
set_option maxRecDepth 100000 in
set_option maxHeartbeats 1600000 in
theorem clNext_seen {o oc g gb gr A T : Nat} {L : List (Int × Int)} {bs rs : List (List Value)} {base t : Nat} {a : Option Addr} {c : Nat} {l : List Int} {many : Int} {place seen : Nat} {ld : Bool} {word ver : Int} (w : World) (h : MemAt w o oc g gb gr A T L bs rs) (hC : ClAt w base o t a c l many place seen ld word ver) (hm : l.length < many) (hs : A ≤ seen) : Calls Try.prog 8 #[.pointer (some ⟨t, 0, none⟩)] w fun e w' => e = .returned (.tuple #[.agg (accY 0 0 0 0), .bool false]) ∧ Below w.heap.size w w' := by
  have hb0 : Below w.heap.size w (w.alloc (.cells (accY 0 0 0 0) 48)) := by (repeat (first | exact Below.refl _ _ | assumption | refine below_alloc2 ?_ (by first | exact Nat.le_refl _ | omega) _ | refine Below.drew ?_ | refine below_drewN ?_ _ | refine below_push2 ?_ ‹_› (by first | exact Nat.le_refl _ | omega) | refine Below.setCell ?_ (by first | (simp; done) | (simp; omega) | omega) _))
  have h1 := h.below hb0
  have hC1 := hC.under hb0
  have BR0 := Blk.new w (accY 0 0 0 0) 48
  have q1 : decide (many ≤ (l.length : Int)) = false := by simp; omega
  have q2 : (A : Int) ≤ (seen : Int) := by omega
  clear hm
  go_enter Try.func8, Try.ntmps8
  go_wp2_with fail
  generalize w.alloc (.cells (accY 0 0 0 0) 48) = wz at hb0 h1 hC1 BR0 ⊢
  have c0 := hC1.head.at 0 rfl
  have c1 := hC1.head.at 1 rfl
  have c2 := hC1.head.at 2 rfl
  have c4 := hC1.head.at 4 rfl
  go_quiet (first
    | exact Calls.quiet_of_same ((clnone_on _ (h1.drewN _) (hC1.under (below_drewN (Below.refl _ _) _))).flip)
    | exact Calls.quiet_of_same ((carena_any t _ (h1.drewN _) ((hC1.under (below_drewN (Below.refl _ _) _)).head.at 0 rfl)).flip))
  have BR := BR0.drewN nq
  have hB := below_drewN hb0 nq
  go_wp2_with (refine wpList_store_row rfl 48 _ _ rfl w.heap.size _ rfl rfl 48 _ BR.h (by kernel_rfl) (by rfl) (by kernel_rfl) ?_)
  refine bodyPost_ret (v := .tuple #[.agg (accY 0 0 0 0), .bool false]) (results_cell_tmp rfl _ _ w.heap.size 48 (accY 0 0 0 0) (0, 0) _ (.bool false) rfl rfl (Blk.row BR (accY 0 0 0 0)).h Try.underlying48 rfl (by kernel_rfl)) rfl ⟨rfl, below_setRow hB (by omega) _⟩
set_option maxRecDepth 100000 in
set_option maxHeartbeats 3200000 in
theorem clTell_no {o oc g gb gr A T : Nat} {L : List (Int × Int)} {bs rs : List (List Value)} {base t : Nat} {a : Option Addr} {c : Nat} {l : List Int} {many : Int} {place seen : Nat} {ld : Bool} {word ver : Int} (w : World) (h : MemAt w o oc g gb gr A T L bs rs) (hC : ClAt w base o t a c l many place seen ld word ver) (hl : ld = false) (hm : l.length < many) (hs : seen < A) (hp : place < A) (x0 : 0 ≤ word) (x1 : word ≤ 18446744073709551615) (ok : Bool) (hok : ok = false) (rw_ rv : Int) :
    Calls Try.prog 9 #[.pointer (some ⟨t, 0, none⟩), .agg #[.bool ok, .int .u64 rw_, .int .u64 rv, .int .i64 0, .int .i64 0, .string ⟨#[]⟩, .string ⟨#[]⟩, .bool false, .int .i64 0, .slice none 0 0, .slice none 0 0, .slice none 0 0, .int .i64 0, .int .i64 0, .string ⟨#[]⟩, .int .u64 0, .slice none 0 0, .slice none 0 0, .slice none 0 0, .slice none 0 0, .int .i64 0, .string ⟨#[]⟩, .string ⟨#[]⟩, .int .u64 0, .int .i64 0]] w fun e w' => e = .returned (.tuple #[]) ∧ ClAt w' base o t a c l many ((place + 1) % A) (seen + 1) true word ver ∧ Fr [t] w w' := by
  subst hl
  replace hok := Lib.hid hok
  have hb0 : Below w.heap.size w (w.alloc (.cells #[.bool ok, .int .u64 rw_, .int .u64 rv, .int .i64 0, .int .i64 0, .string ⟨#[]⟩, .string ⟨#[]⟩, .bool false, .int .i64 0, .slice none 0 0, .slice none 0 0, .slice none 0 0, .int .i64 0, .int .i64 0, .string ⟨#[]⟩, .int .u64 0, .slice none 0 0, .slice none 0 0, .slice none 0 0, .slice none 0 0, .int .i64 0, .string ⟨#[]⟩, .string ⟨#[]⟩, .int .u64 0, .int .i64 0] 53)) := by (repeat (first | exact Below.refl _ _ | assumption | refine below_alloc2 ?_ (by first | exact Nat.le_refl _ | omega) _ | refine Below.drew ?_ | refine below_drewN ?_ _ | refine below_push2 ?_ ‹_› (by first | exact Nat.le_refl _ | omega) | refine Below.setCell ?_ (by first | (simp; done) | (simp; omega) | omega) _))
  have BR := Blk.new w #[.bool ok, .int .u64 rw_, .int .u64 rv, .int .i64 0, .int .i64 0, .string ⟨#[]⟩, .string ⟨#[]⟩, .bool false, .int .i64 0, .slice none 0 0, .slice none 0 0, .slice none 0 0, .int .i64 0, .int .i64 0, .string ⟨#[]⟩, .int .u64 0, .slice none 0 0, .slice none 0 0, .slice none 0 0, .slice none 0 0, .int .i64 0, .string ⟨#[]⟩, .string ⟨#[]⟩, .int .u64 0, .int .i64 0] 53
  have hlt := hC.head.lt
  have h1 := h.below hb0
  have hC1 := hC.under hb0
  go_enter Try.func9, Try.ntmps9
  go_wp2_with fail
  generalize w.alloc (.cells #[.bool ok, .int .u64 rw_, .int .u64 rv, .int .i64 0, .int .i64 0, .string ⟨#[]⟩, .string ⟨#[]⟩, .bool false, .int .i64 0, .slice none 0 0, .slice none 0 0, .slice none 0 0, .int .i64 0, .int .i64 0, .string ⟨#[]⟩, .int .u64 0, .slice none 0 0, .slice none 0 0, .slice none 0 0, .slice none 0 0, .int .i64 0, .string ⟨#[]⟩, .string ⟨#[]⟩, .int .u64 0, .int .i64 0] 53) = wz at hb0 BR h1 hC1 ⊢
  refine (clNext_cas _ h1 hC1 rfl hm hs hp x0 x1).mono ?_
  rintro e w1 ⟨rfl, hb1⟩
  have hb2 := (below_push2 (Below.refl _ wz) hb1 (Nat.le_refl _)).alloc hb1.size (.cells (accY 3 (atI A T 1 place) ver (useI 1 (stateG word + 1))) 48)
  replace hb0 := below_push2 hb0 hb2 (Nat.le_refl _)
  replace BR := BR.below hb2
  replace h1 := h1.below hb2
  replace hC1 := hC1.under hb2
  clear hb1 hb2
  generalize hW : w1.alloc (.cells (accY 3 (atI A T 1 place) ver (useI 1 (stateG word + 1))) 48) = w2 at hb0 BR h1 hC1
  replace hW := Lib.hid hW
  have c5 := hC1.head.at 5 rfl
  have f5 := hC1.head.free 5
  have r0 := BR.at 0 rfl
  have r1 := BR.at 1 rfl
  have r2 := BR.at 2 rfl
  have c3 := hC1.head.at 3 rfl
  go_wp2_with (refine wpList_store_row rfl 48 _ _ rfl _ _ rfl rfl 48 _ (Blk.new w1 _ _).h (by kernel_rfl) (by rfl) (by kernel_rfl) ?_; rw [World.setRow_alloc_new, hW.out])
  clear hW
  obtain rfl := hok.out
  clear hok
  refine (clOn_any _ h1 hC1 hs hp).mono ?_
  rintro e w3 ⟨rfl, hC3, hF3⟩
  have BR3 := hF3.blk BR (by simp; omega)
  clear c5 f5 r0 r1 r2 c3 BR
  have r0 := BR3.at 0 rfl
  go_wp2_with fail
  go_end0
  exact ⟨rfl, hC3, (Fr.of_below hb0).trans hF3⟩
/-! a task, in terms of its plain thing -/
abbrev ClQ (w : World) (base o t : Nat) (many : Int) (d : Option Addr × Nat) (s : QS) : Prop := ClAt w base o t d.1 d.2 s.l many s.place s.seen s.ld s.word s.ver
def cOwn (t : Nat) (d : Option Addr × Nat) (s : QS) : List Nat := t :: ownS (.slice d.1 s.l.length d.2)
structure Mq (S S' : List Nat) (w w' : World) : Prop where
  fr : Fr S w w'
  sub : ∀ b ∈ S', b ∈ S ∨ w.heap.size ≤ b
theorem clNext_q {o oc g gb gr A T : Nat} {L : List (Int × Int)} {bs rs : List (List Value)} {base t many : Nat} {d : Option Addr × Nat} {s : QS} (w : World) (h : MemAt w o oc g gb gr A T L bs rs) (hC : ClQ w base o t many d s) (hp : s.place < A) (ho : ¬ overQ A many s) (x : s.ld = false → 0 ≤ s.word ∧ s.word ≤ 18446744073709551615)
    {k i v wd : Int} (ha : accQ A T s = (k, i, v, wd)) :
    Calls Try.prog 8 #[.pointer (some ⟨t, 0, none⟩)] w fun e w' => e = .returned (.tuple #[.agg (accY k i v wd), .bool true]) ∧ Below w.heap.size w w' := by
  have ho1 : s.l.length < many ∧ s.seen < A := by unfold overQ at ho; omega
  obtain ⟨l, place, seen, ld, word, ver⟩ := s
  simp only at ho1 hp
  cases ld
  · simp only [accQ, Bool.false_eq_true, if_false, Prod.mk.injEq] at ha
    obtain ⟨rfl, rfl, rfl, rfl⟩ := ha
    exact clNext_cas w h hC rfl (by simp only; omega) ho1.2 hp (x rfl).1 (x rfl).2
  · simp only [accQ, if_true, Prod.mk.injEq] at ha
    obtain ⟨rfl, rfl, rfl, rfl⟩ := ha
    exact clNext_load w h hC rfl (by simp only; omega) ho1.2 hp
theorem clNext_over {o oc g gb gr A T : Nat} {L : List (Int × Int)} {bs rs : List (List Value)} {base t many : Nat} {d : Option Addr × Nat} {s : QS} (w : World) (h : MemAt w o oc g gb gr A T L bs rs) (hC : ClQ w base o t many d s) (ho : overQ A many s) :
    Calls Try.prog 8 #[.pointer (some ⟨t, 0, none⟩)] w fun e w' => e = .returned (.tuple #[.agg (accY 0 0 0 0), .bool false]) ∧ Below w.heap.size w w' := by
  by_cases hm : many ≤ s.l.length
  · exact clNext_full w h hC (by omega)
  · have hs : A ≤ s.seen := by unfold overQ at ho; omega
    exact clNext_seen w h hC (by omega) hs
def TellEnd (w : World) (base o t many : Nat) (d : Option Addr × Nat) (s s' : QS) (e : Ending) (w' : World) : Prop := ∃ d', e = .returned (.tuple #[]) ∧ ClQ w' base o t many d' s' ∧ Mq (cOwn t d s) (cOwn t d' s') w w'
theorem cOwn_same {w w' : World} {t : Nat} {d : Option Addr × Nat} {s s' : QS} (hl : s'.l = s.l) (F : Fr [t] w w') : Mq (cOwn t d s) (cOwn t d s') w w' := by
  refine ⟨F.more (by simp [cOwn]), fun b hb => .inl ?_⟩
  unfold cOwn at hb ⊢
  rw [hl] at hb
  exact hb
/-- behind a load -/
theorem clTell_load {o oc g gb gr A T : Nat} {L : List (Int × Int)} {bs rs : List (List Value)} {base t many : Nat} {d : Option Addr × Nat} {s : QS} (w : World) (h : MemAt w o oc g gb gr A T L bs rs) (hC : ClQ w base o t many d s) (hp : s.place < A) (ho : ¬ overQ A many s) (hl : s.ld = true) (ok : Bool) :
    Calls Try.prog 9 #[.pointer (some ⟨t, 0, none⟩), .agg #[.bool ok, .int .u64 (loadW L (atI A T 1 s.place)), .int .u64 (loadV L (atI A T 1 s.place)), .int .i64 0, .int .i64 0, .string ⟨#[]⟩, .string ⟨#[]⟩, .bool false, .int .i64 0, .slice none 0 0, .slice none 0 0, .slice none 0 0, .int .i64 0, .int .i64 0, .string ⟨#[]⟩, .int .u64 0, .slice none 0 0, .slice none 0 0, .slice none 0 0, .slice none 0 0, .int .i64 0, .string ⟨#[]⟩, .string ⟨#[]⟩, .int .u64 0, .int .i64 0]] w (TellEnd w base o t many d s (tellQ A T s L)) := by
  have ho1 : s.l.length < many ∧ s.seen < A := by unfold overQ at ho; omega
  have hr := load_rng h.cells.rng (atI A T 1 s.place)
  obtain ⟨l, place, seen, ld, word, ver⟩ := s
  simp only at hl ho1 hp
  subst hl
  by_cases hm : mayI (loadW L (atI A T 1 place)) = true
  · refine (clTell_free w h hC rfl (by simp only; omega) ho1.2 hp ok _ _ hr.1.1 hr.1.2 hm).mono ?_
    rintro e w' ⟨rfl, hC', hF⟩
    have ht : tellQ A T ⟨l, place, seen, true, word, ver⟩ L = ⟨l, place, seen, false, loadW L (atI A T 1 place), loadV L (atI A T 1 place)⟩ := by simp [tellQ, hm]
    rw [ht]
    exact ⟨d, rfl, hC', cOwn_same rfl hF⟩
  · refine (clTell_used w h hC rfl (by simp only; omega) ho1.2 hp ok _ _ hr.1.1 hr.1.2 (by simpa using hm)).mono ?_
    rintro e w' ⟨rfl, hC', hF⟩
    have ht : tellQ A T ⟨l, place, seen, true, word, ver⟩ L = ⟨l, (place + 1) % A, seen + 1, true, word, ver⟩ := by simp [tellQ, hm, onQ]
    rw [ht]
    exact ⟨d, rfl, hC', cOwn_same rfl hF⟩
/-- behind a write by version -/
theorem clTell_write {o oc g gb gr A T : Nat} {L : List (Int × Int)} {rs : List (List Value)} {base t many : Nat} {d : Option Addr × Nat} {s : QS} (w : World) {L' : List (Int × Int)} {bs' : List (List Value)} (h : MemAt w o oc g gb gr A T L' bs' rs) (hC : ClQ w base o t many d s) (hp : s.place < A) (ho : ¬ overQ A many s) (hl : s.ld = false) (x : 0 ≤ s.word ∧ s.word ≤ 18446744073709551615) (hlen : s.l.length ≤ 60000) (hbase : base ≤ w.heap.size) (rw_ rv : Int) :
    Calls Try.prog 9 #[.pointer (some ⟨t, 0, none⟩), .agg #[.bool (casB L (atI A T 1 s.place) s.ver), .int .u64 rw_, .int .u64 rv, .int .i64 0, .int .i64 0, .string ⟨#[]⟩, .string ⟨#[]⟩, .bool false, .int .i64 0, .slice none 0 0, .slice none 0 0, .slice none 0 0, .int .i64 0, .int .i64 0, .string ⟨#[]⟩, .int .u64 0, .slice none 0 0, .slice none 0 0, .slice none 0 0, .slice none 0 0, .int .i64 0, .string ⟨#[]⟩, .string ⟨#[]⟩, .int .u64 0, .int .i64 0]] w (TellEnd w base o t many d s (tellQ A T s L)) := by
  have ho1 : s.l.length < many ∧ s.seen < A := by unfold overQ at ho; omega
  obtain ⟨l, place, seen, ld, word, ver⟩ := s
  simp only at hl ho1 hp x hlen
  subst hl
  cases hc : casB L (atI A T 1 place) ver
  · refine (clTell_no w h hC rfl (by simp only; omega) ho1.2 hp x.1 x.2 false rfl rw_ rv).mono ?_
    rintro e w' ⟨rfl, hC', hF⟩
    have ht : tellQ A T ⟨l, place, seen, false, word, ver⟩ L = ⟨l, (place + 1) % A, seen + 1, true, word, ver⟩ := by simp [tellQ, hc, onQ]
    rw [ht]
    exact ⟨d, rfl, hC', cOwn_same rfl hF⟩
  · refine (clTell_cas w h hC rfl (by simp only; omega) ho1.2 hp hlen hbase x.1 x.2 rw_ rv).mono ?_
    rintro e w' ⟨⟨g', c', rfl, hC', hat⟩, hF⟩
    have ht : tellQ A T ⟨l, place, seen, false, word, ver⟩ L = ⟨l ++ [packI place (stateG word + 1)], (place + 1) % A, 0, true, word, ver⟩ := by simp [tellQ, hc, gotQ]
    rw [ht]
    refine ⟨(some ⟨g', 0, none⟩, c'), rfl, hC', hF, fun b hb => ?_⟩
    simp only [cOwn, List.mem_cons] at hb ⊢
    rcases hb with e | e
    · exact .inl (.inl e)
    · have := ownS_of e
      simp only [Value.ownBlock, Option.some.injEq] at this
      subst this
      rcases hat with q | q
      · exact .inl (.inr (ownS_mem q))
      · exact .inr q
end Go.Proofs.Ytppclnnkleebkaa.MemP
