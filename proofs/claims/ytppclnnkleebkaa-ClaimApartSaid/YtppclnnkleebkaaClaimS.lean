/-
  claim: a task of a memory, step by step: contracts of Next and Tell.
-/
import Derived.Test.YtppclnnkleebkaaClaimN
import Derived.Test.YtppclnnkleebkaaMemDoW
import Derived.Test.YtppclnnkleebkaaRefState
import Derived.Test.YtppclnnkleebkaaChooseP
import Derived.Deep.RegionHeld
import Derived.Deep.RegionLaw
import Derived.StillTailTactics
namespace Go.Proofs.Ytppclnnkleebkaa.MemP
open Go.RowKit RefP CellP
set_option linter.unusedVariables false
set_option linter.unusedSimpArgs false
/-- a task of claiming -/
structure ClAt (w : World) (base o t : Nat) (a : Option Addr) (c : Nat) (l : List Int) (many : Int) (place seen : Nat) (ld : Bool) (word ver : Int) : Prop where
  head : Blk w t (clA (some ⟨o, 0, none⟩) (.slice a l.length c) many place seen ld word ver) 67
  own : OwnsU w base a c l
  ge : base ≤ t
  ne : ∀ q, (Value.slice a l.length c).ownBlock = some q → q ≠ t
theorem ClAt.under {w w' : World} {base o t : Nat} {a : Option Addr} {c : Nat} {l : List Int} {many : Int} {place seen : Nat} {ld : Bool} {word ver : Int} (h : ClAt w base o t a c l many place seen ld word ver) (hb : Below w.heap.size w w') : ClAt w' base o t a c l many place seen ld word ver :=
  ⟨h.head.below hb, h.own.below hb, h.ge, h.ne⟩
theorem OwnsU.heap {w w' : World} {base : Nat} {a : Option Addr} {c : Nat} {l : List Int} (h : OwnsU w base a c l) (hk : ∀ g, (Value.slice a l.length c).ownBlock = some g → w'.heap[g]? = w.heap[g]?) : OwnsU w' base a c l := by
  refine ⟨⟨h.own.1, ?_⟩, h.rng⟩
  rcases h.own.2 with q | ⟨g, cap, cur, e', hg, hh, r⟩
  · exact .inl q
  · refine .inr ⟨g, cap, cur, e', hg, ?_, r⟩
    rw [hk g (by rw [e']; rfl)]; exact hh
theorem ClAt.sets {w w' : World} {base o t : Nat} {a : Option Addr} {c : Nat} {l : List Int} {many : Int} {place seen place' seen' : Nat} {ld ld' : Bool} {word ver word' ver' : Int} (h : ClAt w base o t a c l many place seen ld word ver) (F : Fr [t] w w') (hB : Blk w' t (clA (some ⟨o, 0, none⟩) (.slice a l.length c) many place' seen' ld' word' ver') 67) : ClAt w' base o t a c l many place' seen' ld' word' ver' :=
  ⟨hB, OwnsU.heap h.own fun g hg => F.block g (h.own.lt g hg).2 (by simp; exact h.ne g hg), h.ge, h.ne⟩
set_option maxHeartbeats 800000 in
theorem clnone_on {o oc g gb gr A T : Nat} {L : List (Int × Int)} {bs rs : List (List Value)} {base t : Nat} {a : Option Addr} {c : Nat} {l : List Int} {many : Int} {place seen : Nat} {ld : Bool} {word ver : Int} (w : World) (h : MemAt w o oc g gb gr A T L bs rs) (hC : ClAt w base o t a c l many place seen ld word ver) : Calls Try.prog 24 #[.pointer (some ⟨t, 0, none⟩)] w fun e w' => e = .returned (.bool false) ∧ w = w' := by
  have hA := h.a1
  have qA : ((A : Int) == 0) = false := by simp; omega
  clear hA
  go_enter Try.func24, Try.ntmps24
  go_wp2_with fail
  refine (carena_any t _ h (hC.head.at 0 rfl)).mono ?_
  rintro e w1 ⟨rfl, rfl⟩
  go_wp2_with fail
  go_ret
  exact ⟨rfl, rfl⟩
set_option maxHeartbeats 800000 in
theorem clNew_any {o oc g gb gr A T : Nat} {L : List (Int × Int)} {bs rs : List (List Value)} (many : Int) (w : World) (h : MemAt w o oc g gb gr A T L bs rs) : Calls Try.prog 7 #[.pointer (some ⟨o, 0, none⟩), .int .i64 many, .int .i64 0] w fun e w' => e = .returned (.pointer (some ⟨w.heap.size, 0, none⟩)) ∧ ClAt w' w.heap.size o w.heap.size none 0 [] many 0 0 true 0 0 ∧ Below w.heap.size w w' := by
  have hb0 : Below w.heap.size w (w.alloc (.cells (clA (some ⟨o, 0, none⟩) (.slice none 0 0) many 0 0 true 0 0) 67)) := by (repeat (first | exact Below.refl _ _ | assumption | refine below_alloc2 ?_ (by first | exact Nat.le_refl _ | omega) _ | refine Below.drew ?_ | refine below_drewN ?_ _ | refine below_push2 ?_ ‹_› (by first | exact Nat.le_refl _ | omega) | refine Below.setCell ?_ (by first | (simp; done) | (simp; omega) | omega) _))
  have BT := Blk.new w (clA (some ⟨o, 0, none⟩) (.slice none 0 0) many 0 0 true 0 0) 67
  have h1 := h.below hb0
  have hA := h.a1
  have q : decide ((0 : Int) < (A : Int)) = true := by simp; omega
  have f3 := BT.free 3
  have c3 := BT.at 3 rfl
  go_enter Try.func7, Try.ntmps7
  go_wp2_with fail
  generalize w.alloc (.cells (clA (some ⟨o, 0, none⟩) (.slice none 0 0) many 0 0 true 0 0) 67) = w1 at hb0 BT h1 f3 c3 ⊢
  refine (arena_any _ h1).mono ?_
  rintro e w2 ⟨rfl, rfl⟩
  go_wp2_with fail
  go_ret
  refine ⟨rfl, ⟨?_, OwnsU.nil _ _, Nat.le_refl _, fun q hq => by simp [Value.ownBlock] at hq⟩, hb0.setCell (Nat.le_refl _) _⟩
  simpa [clA] using BT.set 3 (.int .i64 0)
set_option maxRecDepth 100000 in
set_option maxHeartbeats 1600000 in
theorem clNext_full {o oc g gb gr A T : Nat} {L : List (Int × Int)} {bs rs : List (List Value)} {base t : Nat} {a : Option Addr} {c : Nat} {l : List Int} {many : Int} {place seen : Nat} {ld : Bool} {word ver : Int} (w : World) (h : MemAt w o oc g gb gr A T L bs rs) (hC : ClAt w base o t a c l many place seen ld word ver) (hm : many ≤ l.length) : Calls Try.prog 8 #[.pointer (some ⟨t, 0, none⟩)] w fun e w' => e = .returned (.tuple #[.agg (accY 0 0 0 0), .bool false]) ∧ Below w.heap.size w w' := by
  have hb0 : Below w.heap.size w (w.alloc (.cells (accY 0 0 0 0) 48)) := by (repeat (first | exact Below.refl _ _ | assumption | refine below_alloc2 ?_ (by first | exact Nat.le_refl _ | omega) _ | refine Below.drew ?_ | refine below_drewN ?_ _ | refine below_push2 ?_ ‹_› (by first | exact Nat.le_refl _ | omega) | refine Below.setCell ?_ (by first | (simp; done) | (simp; omega) | omega) _))
  have h1 := h.below hb0
  have hC1 := hC.under hb0
  have BR0 := Blk.new w (accY 0 0 0 0) 48
  have q1 : decide (many ≤ (l.length : Int)) = true := by simp; omega
  clear hm
  go_enter Try.func8, Try.ntmps8
  go_wp2_with fail
  generalize w.alloc (.cells (accY 0 0 0 0) 48) = wz at hb0 h1 hC1 BR0 ⊢
  have c0 := hC1.head.at 0 rfl
  have c1 := hC1.head.at 1 rfl
  have c2 := hC1.head.at 2 rfl
  go_quiet (exact Calls.quiet_of_same ((clnone_on _ (h1.drewN _) (hC1.under (below_drewN (Below.refl _ _) _))).flip))
  have BR := BR0.drewN nq
  have hB := below_drewN hb0 nq
  go_wp2_with (refine wpList_store_row rfl 48 _ _ rfl w.heap.size _ rfl rfl 48 _ BR.h (by kernel_rfl) (by rfl) (by kernel_rfl) ?_)
  refine bodyPost_ret (v := .tuple #[.agg (accY 0 0 0 0), .bool false]) (results_cell_tmp rfl _ _ w.heap.size 48 (accY 0 0 0 0) (0, 0) _ (.bool false) rfl rfl (Blk.row BR (accY 0 0 0 0)).h Try.underlying48 rfl (by kernel_rfl)) rfl ⟨rfl, below_setRow hB (by omega) _⟩
set_option maxRecDepth 100000 in
set_option maxHeartbeats 3200000 in
theorem clNext_load {o oc g gb gr A T : Nat} {L : List (Int × Int)} {bs rs : List (List Value)} {base t : Nat} {a : Option Addr} {c : Nat} {l : List Int} {many : Int} {place seen : Nat} {ld : Bool} {word ver : Int} (w : World) (h : MemAt w o oc g gb gr A T L bs rs) (hC : ClAt w base o t a c l many place seen ld word ver) (hl : ld = true) (hm : l.length < many) (hs : seen < A) (hp : place < A) : Calls Try.prog 8 #[.pointer (some ⟨t, 0, none⟩)] w fun e w' => e = .returned (.tuple #[.agg (accY 1 (atI A T 1 place) 0 0), .bool true]) ∧ Below w.heap.size w w' := by
  subst hl
  have hb0 : Below w.heap.size w (w.alloc (.cells (accY 0 0 0 0) 48)) := by (repeat (first | exact Below.refl _ _ | assumption | refine below_alloc2 ?_ (by first | exact Nat.le_refl _ | omega) _ | refine Below.drew ?_ | refine below_drewN ?_ _ | refine below_push2 ?_ ‹_› (by first | exact Nat.le_refl _ | omega) | refine Below.setCell ?_ (by first | (simp; done) | (simp; omega) | omega) _))
  have hlt := hC.head.lt
  have h1 := h.below hb0
  have hC1 := hC.under hb0
  have BR0 := Blk.new w (accY 0 0 0 0) 48
  have hne' : ¬ t = w.heap.size := by omega
  have hAb := h.a1
  have q1 : decide (many ≤ (l.length : Int)) = false := by simp; omega
  have q2 : decide ((A : Int) ≤ (seen : Int)) = false := by simp; omega
  go_enter Try.func8, Try.ntmps8
  go_wp2_with fail
  generalize w.alloc (.cells (accY 0 0 0 0) 48) = wz at hb0 h1 hC1 BR0 ⊢
  have c0 := hC1.head.at 0 rfl
  have c1 := hC1.head.at 1 rfl
  have c2 := hC1.head.at 2 rfl
  have c3 := hC1.head.at 3 rfl
  have c4 := hC1.head.at 4 rfl
  have c5 := hC1.head.at 5 rfl
  have c6 := hC1.head.at 6 rfl
  have c7 := hC1.head.at 7 rfl
  go_quiet (first
    | exact Calls.quiet_of_same ((clnone_on _ (h1.drewN _) (hC1.under (below_drewN (Below.refl _ _) _))).flip)
    | exact Calls.quiet_of_same ((carena_any t _ (h1.drewN _) ((hC1.under (below_drewN (Below.refl _ _) _)).head.at 0 rfl)).flip))
  have hs2 : (seen : Int) < (A : Int) := by omega
  replace hb0 := below_drewN hb0 nq
  replace h1 := h1.drewN nq
  replace hC1 := hC1.under (below_drewN (Below.refl _ _) nq)
  replace BR0 := BR0.drewN nq
  generalize wz.drewN nq = wy at hb0 h1 hC1 BR0 ⊢
  clear c0 c1 c2 c3 c4 c5 c6 c7
  have c0 := hC1.head.at 0 rfl
  have c3 := hC1.head.at 3 rfl
  have c5 := hC1.head.at 5 rfl
  have hM := h1.below (Below.refl _ _).drew
  go_upto_region 4 with (fail)
  refine wp_region_held_drew (S := fun w' => w'.cell? ⟨t, 0, none⟩ = some (.pointer (some ⟨o, 0, none⟩)) ∧ w'.cell? ⟨t, 3, none⟩ = some (.int .i64 place)) (by kernel_rfl) ?_ (fun hHeld => ?_)
  · exact ⟨c0, c3⟩
  refine wpAnyH_take (i := 0) (oi := ⟨_, _, _, _, _, _⟩) (v := ?_) rfl (by kernel_rfl) (by kernel_rfl) (by kernel_rfl) (fun _ _ _ h => h) (Or.inl ⟨by rfl, ?_⟩) (by assumption) ?_
  rotate_left
  · intro wS hSw
    try dsimp only at hSw
    go_simp
    try with_reducible rfl
  try simp only [Act.put, List.setIfInBounds_toArray, List.set_cons_zero, List.set_cons_succ]
  refine wpAnyH_take (i := 1) (oi := ⟨_, _, _, _, _, _⟩) (v := ?_) rfl (by kernel_rfl) (by kernel_rfl) (by kernel_rfl) (fun _ _ _ h => h) (Or.inl ⟨by rfl, ?_⟩) (by assumption) ?_
  rotate_left
  · intro wS hSw
    try dsimp only at hSw
    go_simp
    try with_reducible rfl
  try simp only [Act.put, List.setIfInBounds_toArray, List.set_cons_zero, List.set_cons_succ]
  refine wpAnyH_take (i := 2) (oi := ⟨_, _, _, _, _, _⟩) (v := ?_) rfl (by kernel_rfl) (by kernel_rfl) (by kernel_rfl) (fun _ _ _ h => h) (Or.inl ⟨by rfl, ?_⟩) (by assumption) ?_
  rotate_left
  · intro wS hSw
    try dsimp only at hSw
    go_simp
    try with_reducible rfl
  try simp only [Act.put, List.setIfInBounds_toArray, List.set_cons_zero, List.set_cons_succ]
  refine wpAnyH_take (i := 3) (oi := ⟨_, _, _, _, _, _⟩) (v := ?_) rfl (by kernel_rfl) (by kernel_rfl) (by kernel_rfl) (fun _ _ _ h => h) (Or.inl ⟨by rfl, ?_⟩) (by assumption) ?_
  rotate_left
  · intro wS hSw
    try dsimp only at hSw
    go_simp
    try with_reducible rfl
  try simp only [Act.put, List.setIfInBounds_toArray, List.set_cons_zero, List.set_cons_succ]
  refine wpAnyH_take (i := 4) (oi := ⟨_, _, _, _, _, _⟩) (v := ?_) rfl (by kernel_rfl) (by kernel_rfl) (by kernel_rfl) (fun _ _ _ h => h) (Or.inl ⟨by rfl, ?_⟩) (by assumption) ?_
  rotate_left
  · intro wS hSw
    try dsimp only at hSw
    go_simp
    try with_reducible rfl
  try simp only [Act.put, List.setIfInBounds_toArray, List.set_cons_zero, List.set_cons_succ]
  refine wpAnyH_take (i := 5) (oi := ⟨_, _, _, _, _, _⟩) (v := ?_) rfl (by kernel_rfl) (by kernel_rfl) (by kernel_rfl) (fun _ _ _ h => h) (Or.inl ⟨by rfl, ?_⟩) (by assumption) ?_
  rotate_left
  · intro wS hSw
    try dsimp only at hSw
    go_simp
    try with_reducible rfl
  try simp only [Act.put, List.setIfInBounds_toArray, List.set_cons_zero, List.set_cons_succ]
  refine wpAnyH_take (i := 6) (oi := ⟨_, _, _, _, _, _⟩) (v := ?_) rfl (by kernel_rfl) (by kernel_rfl) (by kernel_rfl) (fun _ _ _ h => h) (Or.inl ⟨by rfl, ?_⟩) (by assumption) ?_
  rotate_left
  · intro wS hSw
    try dsimp only at hSw
    go_simp
    try with_reducible rfl
  try simp only [Act.put, List.setIfInBounds_toArray, List.set_cons_zero, List.set_cons_succ]
  refine wpAnyH_take (i := 7) (oi := ⟨_, _, _, _, _, _⟩) (v := ?_) rfl (by kernel_rfl) (by kernel_rfl) (by kernel_rfl) (fun _ _ _ h => h) (Or.inl ⟨by rfl, ?_⟩) (by assumption) ?_
  rotate_left
  · intro wS hSw
    try dsimp only at hSw
    go_simp
    try with_reducible rfl
  try simp only [Act.put, List.setIfInBounds_toArray, List.set_cons_zero, List.set_cons_succ]
  refine wpAnyH_take (i := 8) (oi := ⟨_, _, _, _, _, _⟩) (v := ?_) rfl (by kernel_rfl) (by kernel_rfl) (by kernel_rfl) (fun _ _ _ h => h) (Or.inl ⟨by rfl, ?_⟩) (by assumption) ?_
  rotate_left
  · intro wS hSw
    try dsimp only at hSw
    go_simp
    try with_reducible rfl
  try simp only [Act.put, List.setIfInBounds_toArray, List.set_cons_zero, List.set_cons_succ]
  refine wpAnyH_ready (rs := [9]) (by kernel_rfl) (by simp) ?_
  refine AllReadyH.cons rfl (fun K hK => ?_) AllReadyH.nil
  go_simp
  refine (muse_any place _ hM (by omega) (by omega)).mono ?_
  rintro e w2 ⟨rfl, hb2⟩
  have hB2 := below_push2 hb0.drew hb2 (Nat.le_refl _)
  have B2 := (hC1.head.drew).below hb2
  have BR := (BR0.drew).below hb2
  refine hK.out _ _ ⟨B2.at 0 rfl, B2.at 3 rfl⟩ (fun hHeld => ?_)
  clear hK K hb2
  refine wpAnyH_take (i := 10) (oi := ⟨_, _, _, _, _, _⟩) (v := ?_) rfl (by kernel_rfl) (by kernel_rfl) (by kernel_rfl) (fun _ _ _ h => h) (Or.inl ⟨by rfl, ?_⟩) (by assumption) ?_
  rotate_left
  · intro wS hSw
    try dsimp only at hSw
    go_simp
    try with_reducible rfl
  try simp only [Act.put, List.setIfInBounds_toArray, List.set_cons_zero, List.set_cons_succ]
  have B3 := (Fr.row (S := [w.heap.size]) (w := w2) w.heap.size (accY 1 (atI A T 1 place) 0 0) (by simp)).blk B2 (by simpa using hne')
  refine wpAnyH_ready (rs := [11]) (by kernel_rfl) (by simp) ?_
  refine AllReadyH.cons rfl (fun K hK => ?_) AllReadyH.nil
  rw [if_pos (by rfl)]
  refine wp_store_row 48 _ _ rfl w.heap.size _ rfl rfl 48 _ BR.h (by kernel_rfl) (by rfl) (by kernel_rfl) ?_
  refine hK.out _ _ ?_ (fun hHeld => ?_)
  · exact ⟨B3.at 0 rfl, B3.at 3 rfl⟩
  clear hK K
  refine wpAnyH_take (i := 12) (oi := ⟨_, _, _, _, _, _⟩) (v := ?_) rfl (by kernel_rfl) (by kernel_rfl) (by kernel_rfl) (fun _ _ _ h => h) (Or.inl ⟨by rfl, ?_⟩) (by assumption) ?_
  rotate_left
  · intro wS hSw
    try dsimp only at hSw
    go_simp
    try with_reducible rfl
  try simp only [Act.put, List.setIfInBounds_toArray, List.set_cons_zero, List.set_cons_succ]
  refine wpAnyH_done (by kernel_rfl) ?_ _
  go_wp2_with fail
  refine bodyPost_ret (v := .tuple #[.agg (accY 1 (atI A T 1 place) 0 0), .bool true]) (results_cell_tmp rfl _ _ w.heap.size 48 (accY 1 (atI A T 1 place) 0 0) (0, 0) _ (.bool true) rfl rfl (Blk.row BR (accY 1 (atI A T 1 place) 0 0)).h Try.underlying48 rfl (by kernel_rfl)) rfl ⟨rfl, below_setRow hB2 (by omega) _⟩
theorem stateG_rng (x : Int) (h : 0 ≤ x) : 0 ≤ stateG x ∧ stateG x ≤ 4294967295 := by
  unfold stateG
  split
  · rename_i hb
    have := statesB_yes hb
    omega
  · omega
set_option maxRecDepth 100000 in
set_option maxHeartbeats 6400000 in
theorem clNext_cas {o oc g gb gr A T : Nat} {L : List (Int × Int)} {bs rs : List (List Value)} {base t : Nat} {a : Option Addr} {c : Nat} {l : List Int} {many : Int} {place seen : Nat} {ld : Bool} {word ver : Int} (w : World) (h : MemAt w o oc g gb gr A T L bs rs) (hC : ClAt w base o t a c l many place seen ld word ver) (hl : ld = false) (hm : l.length < many) (hs : seen < A) (hp : place < A) (x0 : 0 ≤ word) (x1 : word ≤ 18446744073709551615) : Calls Try.prog 8 #[.pointer (some ⟨t, 0, none⟩)] w fun e w' => e = .returned (.tuple #[.agg (accY 3 (atI A T 1 place) ver (useI 1 (stateG word + 1))), .bool true]) ∧ Below w.heap.size w w' := by
  subst hl
  obtain ⟨sg, hsg⟩ : ∃ sg, sg = stateG word := ⟨_, rfl⟩
  rw [← hsg]
  have hg := stateG_rng word x0
  rw [← hsg] at hg
  have hb0 : Below w.heap.size w (w.alloc (.cells (accY 0 0 0 0) 48)) := by (repeat (first | exact Below.refl _ _ | assumption | refine below_alloc2 ?_ (by first | exact Nat.le_refl _ | omega) _ | refine Below.drew ?_ | refine below_drewN ?_ _ | refine below_push2 ?_ ‹_› (by first | exact Nat.le_refl _ | omega) | refine Below.setCell ?_ (by first | (simp; done) | (simp; omega) | omega) _))
  have hlt := hC.head.lt
  have h1 := h.below hb0
  have hC1 := hC.under hb0
  have BR0 := Blk.new w (accY 0 0 0 0) 48
  have hne' : ¬ t = w.heap.size := by omega
  have hAb := h.a1
  have q1 : decide (many ≤ (l.length : Int)) = false := by simp; omega
  have q2 : decide ((A : Int) ≤ (seen : Int)) = false := by simp; omega
  go_enter Try.func8, Try.ntmps8
  go_wp2_with fail
  generalize w.alloc (.cells (accY 0 0 0 0) 48) = wz at hb0 h1 hC1 BR0 ⊢
  have c0 := hC1.head.at 0 rfl
  have c1 := hC1.head.at 1 rfl
  have c2 := hC1.head.at 2 rfl
  have c3 := hC1.head.at 3 rfl
  have c4 := hC1.head.at 4 rfl
  have c5 := hC1.head.at 5 rfl
  have c6 := hC1.head.at 6 rfl
  have c7 := hC1.head.at 7 rfl
  go_quiet (first
    | exact Calls.quiet_of_same ((clnone_on _ (h1.drewN _) (hC1.under (below_drewN (Below.refl _ _) _))).flip)
    | exact Calls.quiet_of_same ((carena_any t _ (h1.drewN _) ((hC1.under (below_drewN (Below.refl _ _) _)).head.at 0 rfl)).flip))
  have hs2 : (seen : Int) < (A : Int) := by omega
  replace hb0 := below_drewN hb0 nq
  replace h1 := h1.drewN nq
  replace hC1 := hC1.under (below_drewN (Below.refl _ _) nq)
  replace BR0 := BR0.drewN nq
  generalize wz.drewN nq = wy at hb0 h1 hC1 BR0 ⊢
  clear c0 c1 c2 c3 c4 c5 c6 c7
  have c5 := hC1.head.at 5 rfl
  have c6 := hC1.head.at 6 rfl
  go_wp2_with fail
  have hst := state_any word wy x0 x1
  rw [← hsg] at hst
  refine hst.mono ?_
  rintro e w1 ⟨rfl, hb1⟩
  clear hst hsg
  replace hb0 := below_push2 hb0 hb1 (Nat.le_refl _)
  replace h1 := h1.below hb1
  replace hC1 := hC1.under hb1
  replace BR0 := BR0.below hb1
  clear c5 c6 hb1
  have c0 := hC1.head.at 0 rfl
  have c3 := hC1.head.at 3 rfl
  have c7 := hC1.head.at 7 rfl
  have hM := h1.below (Below.refl _ _).drew
  have hw : IntKind.u64.wrap (sg + 1) = sg + 1 := by rw [IntKind.wrap_u64]; omega
  go_upto_region 6 with (fail)
  refine wp_region_held_drew (S := fun w' => w'.cell? ⟨t, 0, none⟩ = some (.pointer (some ⟨o, 0, none⟩)) ∧ w'.cell? ⟨t, 3, none⟩ = some (.int .i64 place) ∧ w'.cell? ⟨t, 7, none⟩ = some (.int .u64 ver)) (by kernel_rfl) ?_ (fun hHeld => ?_)
  · exact ⟨c0, c3, c7⟩
  refine wpAnyH_take (i := 0) (oi := ⟨_, _, _, _, _, _⟩) (v := ?_) rfl (by kernel_rfl) (by kernel_rfl) (by kernel_rfl) (fun _ _ _ h => h) (Or.inl ⟨by rfl, ?_⟩) (by assumption) ?_
  rotate_left
  · intro wS hSw
    try dsimp only at hSw
    go_simp
    try with_reducible rfl
  try simp only [Act.put, List.setIfInBounds_toArray, List.set_cons_zero, List.set_cons_succ]
  refine wpAnyH_take (i := 1) (oi := ⟨_, _, _, _, _, _⟩) (v := ?_) rfl (by kernel_rfl) (by kernel_rfl) (by kernel_rfl) (fun _ _ _ h => h) (Or.inl ⟨by rfl, ?_⟩) (by assumption) ?_
  rotate_left
  · intro wS hSw
    try dsimp only at hSw
    go_simp
    try with_reducible rfl
  try simp only [Act.put, List.setIfInBounds_toArray, List.set_cons_zero, List.set_cons_succ]
  refine wpAnyH_take (i := 2) (oi := ⟨_, _, _, _, _, _⟩) (v := ?_) rfl (by kernel_rfl) (by kernel_rfl) (by kernel_rfl) (fun _ _ _ h => h) (Or.inl ⟨by rfl, ?_⟩) (by assumption) ?_
  rotate_left
  · intro wS hSw
    try dsimp only at hSw
    go_simp
    try with_reducible rfl
  try simp only [Act.put, List.setIfInBounds_toArray, List.set_cons_zero, List.set_cons_succ]
  refine wpAnyH_take (i := 3) (oi := ⟨_, _, _, _, _, _⟩) (v := ?_) rfl (by kernel_rfl) (by kernel_rfl) (by kernel_rfl) (fun _ _ _ h => h) (Or.inl ⟨by rfl, ?_⟩) (by assumption) ?_
  rotate_left
  · intro wS hSw
    try dsimp only at hSw
    go_simp
    try with_reducible rfl
  try simp only [Act.put, List.setIfInBounds_toArray, List.set_cons_zero, List.set_cons_succ]
  refine wpAnyH_take (i := 4) (oi := ⟨_, _, _, _, _, _⟩) (v := ?_) rfl (by kernel_rfl) (by kernel_rfl) (by kernel_rfl) (fun _ _ _ h => h) (Or.inl ⟨by rfl, ?_⟩) (by assumption) ?_
  rotate_left
  · intro wS hSw
    try dsimp only at hSw
    go_simp
    try with_reducible rfl
  try simp only [Act.put, List.setIfInBounds_toArray, List.set_cons_zero, List.set_cons_succ]
  refine wpAnyH_take (i := 5) (oi := ⟨_, _, _, _, _, _⟩) (v := ?_) rfl (by kernel_rfl) (by kernel_rfl) (by kernel_rfl) (fun _ _ _ h => h) (Or.inl ⟨by rfl, ?_⟩) (by assumption) ?_
  rotate_left
  · intro wS hSw
    try dsimp only at hSw
    go_simp
    try with_reducible rfl
  try simp only [Act.put, List.setIfInBounds_toArray, List.set_cons_zero, List.set_cons_succ]
  refine wpAnyH_take (i := 6) (oi := ⟨_, _, _, _, _, _⟩) (v := ?_) rfl (by kernel_rfl) (by kernel_rfl) (by kernel_rfl) (fun _ _ _ h => h) (Or.inl ⟨by rfl, ?_⟩) (by assumption) ?_
  rotate_left
  · intro wS hSw
    try dsimp only at hSw
    go_simp
    try with_reducible rfl
  try simp only [Act.put, List.setIfInBounds_toArray, List.set_cons_zero, List.set_cons_succ]
  refine wpAnyH_take (i := 7) (oi := ⟨_, _, _, _, _, _⟩) (v := ?_) rfl (by kernel_rfl) (by kernel_rfl) (by kernel_rfl) (fun _ _ _ h => h) (Or.inl ⟨by rfl, ?_⟩) (by assumption) ?_
  rotate_left
  · intro wS hSw
    try dsimp only at hSw
    go_simp
    try with_reducible rfl
  try simp only [Act.put, List.setIfInBounds_toArray, List.set_cons_zero, List.set_cons_succ]
  refine wpAnyH_take (i := 8) (oi := ⟨_, _, _, _, _, _⟩) (v := ?_) rfl (by kernel_rfl) (by kernel_rfl) (by kernel_rfl) (fun _ _ _ h => h) (Or.inl ⟨by rfl, ?_⟩) (by assumption) ?_
  rotate_left
  · intro wS hSw
    try dsimp only at hSw
    go_simp
    try with_reducible rfl
  try simp only [Act.put, List.setIfInBounds_toArray, List.set_cons_zero, List.set_cons_succ]
  refine wpAnyH_take (i := 10) (oi := ⟨_, _, _, _, _, _⟩) (v := ?_) rfl (by kernel_rfl) (by kernel_rfl) (by kernel_rfl) (fun _ _ _ h => h) (Or.inl ⟨by rfl, ?_⟩) (by assumption) ?_
  rotate_left
  · intro wS hSw
    try dsimp only at hSw
    go_simp
    try with_reducible rfl
  try simp only [Act.put, List.setIfInBounds_toArray, List.set_cons_zero, List.set_cons_succ]
  refine wpAnyH_take (i := 11) (oi := ⟨_, _, _, _, _, _⟩) (v := ?_) rfl (by kernel_rfl) (by kernel_rfl) (by kernel_rfl) (fun _ _ _ h => h) (Or.inl ⟨by rfl, ?_⟩) (by assumption) ?_
  rotate_left
  · intro wS hSw
    try dsimp only at hSw
    go_simp
    try with_reducible rfl
  try simp only [Act.put, List.setIfInBounds_toArray, List.set_cons_zero, List.set_cons_succ]
  refine wpAnyH_take (i := 12) (oi := ⟨_, _, _, _, _, _⟩) (v := ?_) rfl (by kernel_rfl) (by kernel_rfl) (by kernel_rfl) (fun _ _ _ h => h) (Or.inl ⟨by rfl, ?_⟩) (by assumption) ?_
  rotate_left
  · intro wS hSw
    try dsimp only at hSw
    go_simp
    try with_reducible rfl
  try simp only [Act.put, List.setIfInBounds_toArray, List.set_cons_zero, List.set_cons_succ]
  refine wpAnyH_take (i := 13) (oi := ⟨_, _, _, _, _, _⟩) (v := ?_) rfl (by kernel_rfl) (by kernel_rfl) (by kernel_rfl) (fun _ _ _ h => h) (Or.inl ⟨by rfl, ?_⟩) (by assumption) ?_
  rotate_left
  · intro wS hSw
    try dsimp only at hSw
    go_simp
    try with_reducible rfl
  try simp only [Act.put, List.setIfInBounds_toArray, List.set_cons_zero, List.set_cons_succ]
  refine wpAnyH_take (i := 14) (oi := ⟨_, _, _, _, _, _⟩) (v := ?_) rfl (by kernel_rfl) (by kernel_rfl) (by kernel_rfl) (fun _ _ _ h => h) (Or.inl ⟨by rfl, ?_⟩) (by assumption) ?_
  rotate_left
  · intro wS hSw
    try dsimp only at hSw
    go_simp
    try with_reducible rfl
  try simp only [Act.put, List.setIfInBounds_toArray, List.set_cons_zero, List.set_cons_succ]
  refine wpAnyH_take (i := 15) (oi := ⟨_, _, _, _, _, _⟩) (v := ?_) rfl (by kernel_rfl) (by kernel_rfl) (by kernel_rfl) (fun _ _ _ h => h) (Or.inl ⟨by rfl, ?_⟩) (by assumption) ?_
  rotate_left
  · intro wS hSw
    try dsimp only at hSw
    go_simp
    try with_reducible rfl
  try simp only [Act.put, List.setIfInBounds_toArray, List.set_cons_zero, List.set_cons_succ]
  refine wpAnyH_ready (rs := [9]) (by kernel_rfl) (by simp) ?_
  refine AllReadyH.cons rfl (fun K hK => ?_) AllReadyH.nil
  go_simp
  refine (muse_any place _ hM (by omega) (by omega)).mono ?_
  rintro e w2 ⟨rfl, hb2⟩
  have hB2 := below_push2 hb0.drew hb2 (Nat.le_refl _)
  have B2 := (hC1.head.drew).below hb2
  have BR := (BR0.drew).below hb2
  refine hK.out _ _ ⟨B2.at 0 rfl, B2.at 3 rfl, B2.at 7 rfl⟩ (fun hHeld => ?_)
  clear hK K hb2
  refine wpAnyH_ready (rs := [16]) (by kernel_rfl) (by simp) ?_
  refine AllReadyH.cons rfl (fun K hK => ?_) AllReadyH.nil
  go_simp
  refine (use_any 1 (sg + 1) _ (by omega) (by omega) (by omega) (by omega)).mono ?_
  rintro e w3 ⟨rfl, rfl⟩
  refine hK.out _ _ ⟨B2.at 0 rfl, B2.at 3 rfl, B2.at 7 rfl⟩ (fun hHeld => ?_)
  clear hK K
  refine wpAnyH_take (i := 17) (oi := ⟨_, _, _, _, _, _⟩) (v := ?_) rfl (by kernel_rfl) (by kernel_rfl) (by kernel_rfl) (fun _ _ _ h => h) (Or.inl ⟨by rfl, ?_⟩) (by assumption) ?_
  rotate_left
  · intro wS hSw
    try dsimp only at hSw
    go_simp
    try with_reducible rfl
  try simp only [Act.put, List.setIfInBounds_toArray, List.set_cons_zero, List.set_cons_succ]
  have B3 := (Fr.row (S := [w.heap.size]) (w := w2) w.heap.size (accY 3 (atI A T 1 place) ver (useI 1 (sg + 1))) (by simp)).blk B2 (by simpa using hne')
  refine wpAnyH_ready (rs := [18]) (by kernel_rfl) (by simp) ?_
  refine AllReadyH.cons rfl (fun K hK => ?_) AllReadyH.nil
  rw [if_pos (by rfl)]
  refine wp_store_row 48 _ _ rfl w.heap.size _ rfl rfl 48 _ BR.h (by kernel_rfl) (by rfl) (by kernel_rfl) ?_
  refine hK.out _ _ ?_ (fun hHeld => ?_)
  · exact ⟨B3.at 0 rfl, B3.at 3 rfl, B3.at 7 rfl⟩
  clear hK K
  refine wpAnyH_take (i := 19) (oi := ⟨_, _, _, _, _, _⟩) (v := ?_) rfl (by kernel_rfl) (by kernel_rfl) (by kernel_rfl) (fun _ _ _ h => h) (Or.inl ⟨by rfl, ?_⟩) (by assumption) ?_
  rotate_left
  · intro wS hSw
    try dsimp only at hSw
    go_simp
    try with_reducible rfl
  try simp only [Act.put, List.setIfInBounds_toArray, List.set_cons_zero, List.set_cons_succ]
  refine wpAnyH_done (by kernel_rfl) ?_ _
  go_wp2_with fail
  refine bodyPost_ret (v := .tuple #[.agg (accY 3 (atI A T 1 place) ver (useI 1 (sg + 1))), .bool true]) (results_cell_tmp rfl _ _ w.heap.size 48 (accY 3 (atI A T 1 place) ver (useI 1 (sg + 1))) (0, 0) _ (.bool true) rfl rfl (Blk.row BR (accY 3 (atI A T 1 place) ver (useI 1 (sg + 1)))).h Try.underlying48 rfl (by kernel_rfl)) rfl ⟨rfl, below_setRow hB2 (by omega) _⟩
set_option maxRecDepth 100000 in
set_option maxHeartbeats 1600000 in
theorem clOn_any {o oc g gb gr A T : Nat} {L : List (Int × Int)} {bs rs : List (List Value)} {base t : Nat} {a : Option Addr} {c : Nat} {l : List Int} {many : Int} {place seen : Nat} {ld : Bool} {word ver : Int} (w : World) (h : MemAt w o oc g gb gr A T L bs rs) (hC : ClAt w base o t a c l many place seen ld word ver) (hs : seen < A) (hp : place < A) : Calls Try.prog 30 #[.pointer (some ⟨t, 0, none⟩)] w fun e w' => e = .returned (.tuple #[]) ∧ ClAt w' base o t a c l many ((place + 1) % A) (seen + 1) true word ver ∧ Fr [t] w w' := by
  have hA := h.a1
  have c0 := hC.head.at 0 rfl
  have c3 := hC.head.at 3 rfl
  have c4 := hC.head.at 4 rfl
  have c5 := hC.head.at 5 rfl
  have f3 := hC.head.free 3
  have f4 := hC.head.free 4
  have f5 := hC.head.free 5
  have qA : ((A : Int) == 0) = false := by simp; omega
  have hw : IntKind.i64.wrap ((place : Int) + 1) = (place : Int) + 1 := by rw [IntKind.wrap_i64]; omega
  have hw2 : IntKind.i64.wrap ((seen : Int) + 1) = (seen : Int) + 1 := by rw [IntKind.wrap_i64]; omega
  obtain ⟨r, hr⟩ : ∃ r : Nat, (place + 1) % A = r := ⟨_, rfl⟩
  have hri : ((place : Int) + 1) % (A : Int) = (r : Int) := by rw [← hr, Int.natCast_emod]; rfl
  have hrl : r < A := by rw [← hr]; exact Nat.mod_lt _ (by omega)
  rw [hr]
  clear hr
  go_enter Try.func30, Try.ntmps30
  go_upto_region 0 with (fail)
  have hd := h.below (Below.refl _ _).drew
  have hA0 : ¬ ((A : Int) = 0) := by omega
  have hF : Fr [t] w (((w.setCell ⟨t, 3, none⟩ (.int .i64 (r : Int))).setCell ⟨t, 4, none⟩ (.int .i64 ((seen : Int) + 1))).setCell ⟨t, 5, none⟩ (.bool true)) := (((Fr.refl _ _).set _ _ (.inl (by simp))).set _ _ (.inl (by simp))).set _ _ (.inl (by simp))
  have hBF : Blk (((w.setCell ⟨t, 3, none⟩ (.int .i64 (r : Int))).setCell ⟨t, 4, none⟩ (.int .i64 ((seen : Int) + 1))).setCell ⟨t, 5, none⟩ (.bool true)) t (clA (some ⟨o, 0, none⟩) (.slice a l.length c) many (r : Nat) (seen + 1 : Nat) true word ver) 67 := by
    simpa [clA] using ((hC.head.set 3 (.int .i64 (r : Int))).set 4 (.int .i64 ((seen : Int) + 1))).set 5 (.bool true)
  go_region_with (go_at_call 25; refine (carena_any t w.drew hd c0).mono ?_; rintro e wx ⟨rfl, rfl⟩)
  all_goals
    go_wp2_with fail
    go_end0
    exact ⟨rfl, (hC.sets hF hBF).under (Below.refl _ _).drew, hF.trans (Fr.of_below (Below.refl _ _).drew)⟩
end Go.Proofs.Ytppclnnkleebkaa.MemP
