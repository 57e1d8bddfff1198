/-
  read: New, none, Next: contracts.
-/
import Derived.Test.YtpmlbdnhgeeaoaaMemZero
import Derived.Test.YtpmlbdnhgeeaoaaMemAtX
import Derived.Test.YtpmlbdnhgeeaoaaCarryN
import Derived.Deep.RegionHeld
namespace Go.Proofs.Ytpmlbdnhgeeaoaa.MemP
open Go.RowKit RefP CellP
set_option linter.unusedVariables false
set_option linter.unusedSimpArgs false
theorem quiet_of_x {P : Program} {f : Nat} {args : Array Value} {w0 : World} {n : Nat} {v : Value} (h : Calls P f args (w0.drewN n) fun e w' => e = .returned v ∧ ∃ k, w' = (w0.drewN n).drewN k) : Calls P f args (w0.drewN n) fun e w'' => e = .returned v ∧ ∃ m, w'' = w0.drewN m :=
  h.mono fun e w'' h => by
    obtain ⟨he, k, hk⟩ := h
    exact ⟨he, n + k, by rw [hk, World.drewN_drewN]⟩
set_option maxHeartbeats 1600000 in
theorem at_nilx (r i : Int) (w : World) : Calls Try.prog 108 #[.pointer none, .int .i64 r, .int .i64 i] w fun e w' => e = .returned (.int .i64 (-1)) ∧ ∃ n, w' = w.drewN n := by
  go_enter Try.func108, Try.ntmps108
  go_wp2_with fail
  go_quiet (exact Calls.quiet_of_same ((none_nil _).flip))
  go_wp2_with fail
  go_ret
  exact ⟨rfl, _, rfl⟩
set_option maxHeartbeats 800000 in
theorem node_nilx (i : Int) (w : World) : Calls Try.prog 32 #[.pointer none, .int .i64 i] w fun e w' => e = .returned (.int .i64 (-1)) ∧ ∃ n, w' = w.drewN n := by
  go_enter Try.func32, Try.ntmps32
  go_wp2_with fail
  refine (at_nilx _ i _).mono ?_
  rintro e w1 ⟨rfl, n, rfl⟩
  go_wp2_with fail
  go_ret
  exact ⟨rfl, _, rfl⟩
set_option maxHeartbeats 1600000 in
theorem haz_x {o oc g gb gr A T : Nat} {L : List (Int × Int)} {bs rs : List (List Value)} (t : Int) (w : World) (h : MemAt w o oc g gb gr A T L bs rs) (t0 : 0 ≤ t) (t1 : t < T) :
    Calls Try.prog 29 #[.pointer (some ⟨o, 0, none⟩), .int .i64 t, .int .i64 1] w fun e w' => e = .returned (.int .i64 (hazI A T t 1)) ∧ ∃ n, w' = w.drewN n := by
  have hT := h.t1
  have q3 : decide (t < 0) = false := by simp; omega
  have q4 : decide ((T : Int) ≤ t) = false := by simp; omega
  have hy := Lib.hid (hazI_yes (A := A) (show 0 ≤ (1 : Int) ∧ (1 : Int) < 2 ∧ 0 ≤ t ∧ t < (T : Int) by omega))
  have hw1 : IntKind.i64.wrap (t * 2) = t * 2 := by rw [IntKind.wrap_i64]; omega
  have hw2 : IntKind.i64.wrap (t * 2 + 1) = t * 2 + 1 := by rw [IntKind.wrap_i64]; omega
  go_enter Try.func29, Try.ntmps29
  go_wp2_with fail
  refine (threads_any _ h).mono ?_
  rintro e w1 ⟨rfl, rfl⟩
  go_wp2_with fail
  refine (atx_5 (t * 2 + 1) _ h (by omega) (by omega)).mono ?_
  rw [hy.out]
  rintro e w1 ⟨rfl, n, rfl⟩
  go_wp2_with fail
  go_ret
  exact ⟨rfl, _, rfl⟩
abbrev rdA (m : Option Addr) (th at_ st : Int) (su : Bool) (cell word ver : Int) (n0 n1 n2 n3 n4 n5 n6 n7 : Value) : Array Value := #[.pointer m, .int .i64 th, .int .i64 at_, .int .i64 st, .bool su, .int .i64 cell, .int .u64 word, .int .u64 ver, n0, n1, n2, n3, n4, n5, n6, n7]
set_option maxHeartbeats 800000 in
theorem rdNew_any (p : Option Addr) (th cell : Int) (w : World) : Calls Try.prog 44 #[.pointer p, .int .i64 th, .int .i64 cell] w fun e w' => e = .returned (.pointer (some ⟨w.heap.size, 0, none⟩)) ∧ w' = w.alloc (.cells (rdA p th 0 0 false cell 0 0 (.int .i64 0) (.string ⟨#[]⟩) (.string ⟨#[]⟩) (.bool false) (.int .i64 0) (.slice none 0 0) (.slice none 0 0) (.slice none 0 0)) 95) := by
  go_enter Try.func44, Try.ntmps44
  go_wp2_with fail
  go_ret
  exact ⟨rfl, rfl⟩
/-- a task of reading that is none: nil, or of no memory -/
def NoRd (w : World) (p : Option Addr) : Prop := p = none ∨ ∃ t th cell, p = some ⟨t, 0, none⟩ ∧ Blk w t (rdA none th 0 0 false cell 0 0 (.int .i64 0) (.string ⟨#[]⟩) (.string ⟨#[]⟩) (.bool false) (.int .i64 0) (.slice none 0 0) (.slice none 0 0) (.slice none 0 0)) 95
theorem NoRd.below {w w' : World} {p : Option Addr} (h : NoRd w p) (hb : Below w.heap.size w w') : NoRd w' p := by
  rcases h with h | ⟨t, th, cell, e, B⟩
  · exact .inl h
  · exact .inr ⟨t, th, cell, e, B.below hb⟩
set_option maxHeartbeats 1600000 in
theorem rdnone_none (p : Option Addr) (w : World) (h : NoRd w p) : Calls Try.prog 117 #[.pointer p] w fun e w' => e = .returned (.bool true) ∧ Below w.heap.size w w' := by
  rcases h with rfl | ⟨t, th, cell, rfl, B⟩
  · go_enter Try.func117, Try.ntmps117
    go_wp2_with fail
    go_quiet (fail)
    go_wp2_with fail
    go_ret
    exact ⟨rfl, below_drewN (Below.refl _ _) _⟩
  · have c0 := B.at 0 rfl
    have c5 := B.at 5 rfl
    go_enter Try.func117, Try.ntmps117
    go_wp2_with fail
    go_quiet (exact quiet_of_x (node_nilx _ _))
    go_wp2_with fail
    go_ret
    exact ⟨rfl, below_drewN (Below.refl _ _) _⟩
theorem atI0_pos {A T : Nat} {i : Int} (h0 : 0 ≤ i) (h1 : i < A) : decide (atI A T 0 i < 0) = false := by
  rw [atI_yes h0 (by simp [sizeI]; omega)]
  simp [fromI]; omega
theorem hazI_pos {A T : Nat} {t : Int} (h0 : 0 ≤ t) (h1 : t < T) : decide (hazI A T t 1 < 0) = false := by
  rw [← hazI_yes (A := A) (show 0 ≤ (1 : Int) ∧ (1 : Int) < 2 ∧ 0 ≤ t ∧ t < (T : Int) by omega), atI_yes (by omega) (by simp [sizeI]; omega)]
  simp [fromI]; omega
set_option maxHeartbeats 1600000 in
theorem rdnone_on {o oc g gb gr A T : Nat} {L : List (Int × Int)} {bs rs : List (List Value)} (t : Nat) (th at_ st : Int) (su : Bool) (cell word ver : Int) (n0 n1 n2 n3 n4 n5 n6 n7 : Value) (w : World) (h : MemAt w o oc g gb gr A T L bs rs) (B : Blk w t (rdA (some ⟨o, 0, none⟩) th at_ st su cell word ver n0 n1 n2 n3 n4 n5 n6 n7) 95) (t0 : 0 ≤ th) (t1 : th < T) (l0 : 0 ≤ cell) (l1 : cell < A) : Calls Try.prog 117 #[.pointer (some ⟨t, 0, none⟩)] w fun e w' => e = .returned (.bool false) ∧ ∃ n, w' = w.drewN n := by
  have q1 := atI0_pos (T := T) l0 l1
  have q2 := hazI_pos (A := A) t0 t1
  have hA := h.a1
  have c0 := B.at 0 rfl
  have c1 := B.at 1 rfl
  have c5 := B.at 5 rfl
  go_enter Try.func117, Try.ntmps117
  go_wp2_with fail
  go_quiet (first
    | exact quiet_of_x (node_x cell _ (h.drewN _) (by omega) (by omega))
    | exact quiet_of_x (haz_x th _ (h.drewN _) t0 t1))
  go_wp2_with fail
  go_ret
  exact ⟨rfl, _, rfl⟩
set_option maxRecDepth 100000 in
set_option maxHeartbeats 1600000 in
theorem rdNext_none (p : Option Addr) (w : World) (h : NoRd w p) : Calls Try.prog 45 #[.pointer p] w fun e w' => e = .returned (.tuple #[.agg (accY 0 0 0 0), .bool false]) ∧ Below w.heap.size w w' := by
  have hb0 : Below w.heap.size w (w.alloc (.cells (accY 0 0 0 0) 39)) := by (repeat (first | exact Below.refl _ _ | assumption | refine below_alloc2 ?_ (by first | exact Nat.le_refl _ | omega) _ | refine Below.drew ?_ | refine below_drewN ?_ _ | refine below_push2 ?_ ‹_› (by first | exact Nat.le_refl _ | omega) | refine Below.setCell ?_ (by first | (simp; done) | (simp; omega) | omega) _))
  go_enter Try.func45, Try.ntmps45
  go_wp2_with fail
  refine (rdnone_none _ _ (h.below hb0)).mono ?_
  rintro e w1 ⟨rfl, hb1⟩
  have BR := (Blk.new w (accY 0 0 0 0) 39).below hb1
  have hB := below_push2 hb0 hb1 (Nat.le_refl _)
  go_wp2_with (refine wpList_store_row rfl 39 _ _ rfl w.heap.size _ rfl rfl 39 _ BR.h (by kernel_rfl) (by rfl) (by kernel_rfl) ?_)
  refine bodyPost_ret (v := .tuple #[.agg (accY 0 0 0 0), .bool false]) (results_cell_tmp rfl _ _ w.heap.size 39 (accY 0 0 0 0) (0, 0) _ (.bool false) rfl rfl (Blk.row BR (accY 0 0 0 0)).h Try.underlying39 rfl (by kernel_rfl)) rfl ⟨rfl, below_setRow hB (by omega) _⟩
set_option maxRecDepth 100000 in
set_option maxHeartbeats 3200000 in
theorem rdNext_0 {o oc g gb gr A T : Nat} {L : List (Int × Int)} {bs rs : List (List Value)} (t : Nat) (th : Int) (su : Bool) (cell word ver : Int) (n0 n1 n2 n3 n4 n5 n6 n7 : Value) (w : World) (h : MemAt w o oc g gb gr A T L bs rs) (B : Blk w t (rdA (some ⟨o, 0, none⟩) th 0 0 su cell word ver n0 n1 n2 n3 n4 n5 n6 n7) 95) (t0 : 0 ≤ th) (t1 : th < T) (l0 : 0 ≤ cell) (l1 : cell < A) :
    Calls Try.prog 45 #[.pointer (some ⟨t, 0, none⟩)] w fun e w' => e = .returned (.tuple #[.agg (accY 1 (atI A T 0 cell) 0 0), .bool true]) ∧ Below w.heap.size w w' := by
  have hb0 : Below w.heap.size w (w.alloc (.cells (accY 0 0 0 0) 39)) := by (repeat (first | exact Below.refl _ _ | assumption | refine below_alloc2 ?_ (by first | exact Nat.le_refl _ | omega) _ | refine Below.drew ?_ | refine below_drewN ?_ _ | refine below_push2 ?_ ‹_› (by first | exact Nat.le_refl _ | omega) | refine Below.setCell ?_ (by first | (simp; done) | (simp; omega) | omega) _))
  have hlt := B.lt
  have hA := h.a1
  have h1 := h.below hb0
  have hC1 := B.below hb0
  have BR0 := Blk.new w (accY 0 0 0 0) 39
  have hne' : ¬ t = w.heap.size := by omega
  go_enter Try.func45, Try.ntmps45
  go_wp2_with fail
  generalize w.alloc (.cells (accY 0 0 0 0) 39) = wz at hb0 h1 hC1 BR0 ⊢
  refine (rdnone_on t th 0 0 su cell word ver n0 n1 n2 n3 n4 n5 n6 n7 _ h1 hC1 t0 t1 l0 l1).mono ?_
  rintro e w1 ⟨rfl, nd, rfl⟩
  replace hb0 := below_drewN hb0 nd
  replace h1 := h1.drewN nd
  replace hC1 := hC1.drewN nd
  replace BR0 := BR0.drewN nd
  generalize wz.drewN nd = wy at hb0 h1 hC1 BR0 ⊢
  have c0 := hC1.at 0 rfl
  have c1 := hC1.at 1 rfl
  have c2 := hC1.at 2 rfl
  have c3 := hC1.at 3 rfl
  have c5 := hC1.at 5 rfl
  have c6 := hC1.at 6 rfl
  have hM := h1.below (Below.refl _ _).drew
  go_upto_region 8 with (fail)
  refine wp_region_held_drew (S := fun w' => w'.cell? ⟨t, 0, none⟩ = some (.pointer (some ⟨o, 0, none⟩)) ∧ w'.cell? ⟨t, 5, none⟩ = some (.int .i64 cell)) (by kernel_rfl) ?_ (fun hHeld => ?_)
  · exact ⟨c0, c5⟩
  refine wpAnyH_take (i := 0) (oi := ⟨_, _, _, _, _, _⟩) (v := ?_) rfl (by kernel_rfl) (by kernel_rfl) (by kernel_rfl) (fun _ _ _ h => h) (Or.inl ⟨by rfl, ?_⟩) (by assumption) ?_
  rotate_left
  · intro wS hSw
    try dsimp only at hSw
    go_simp
    try with_reducible rfl
  try simp only [Act.put, List.setIfInBounds_toArray, List.set_cons_zero, List.set_cons_succ]
  refine wpAnyH_take (i := 1) (oi := ⟨_, _, _, _, _, _⟩) (v := ?_) rfl (by kernel_rfl) (by kernel_rfl) (by kernel_rfl) (fun _ _ _ h => h) (Or.inl ⟨by rfl, ?_⟩) (by assumption) ?_
  rotate_left
  · intro wS hSw
    try dsimp only at hSw
    go_simp
    try with_reducible rfl
  try simp only [Act.put, List.setIfInBounds_toArray, List.set_cons_zero, List.set_cons_succ]
  refine wpAnyH_take (i := 2) (oi := ⟨_, _, _, _, _, _⟩) (v := ?_) rfl (by kernel_rfl) (by kernel_rfl) (by kernel_rfl) (fun _ _ _ h => h) (Or.inl ⟨by rfl, ?_⟩) (by assumption) ?_
  rotate_left
  · intro wS hSw
    try dsimp only at hSw
    go_simp
    try with_reducible rfl
  try simp only [Act.put, List.setIfInBounds_toArray, List.set_cons_zero, List.set_cons_succ]
  refine wpAnyH_take (i := 3) (oi := ⟨_, _, _, _, _, _⟩) (v := ?_) rfl (by kernel_rfl) (by kernel_rfl) (by kernel_rfl) (fun _ _ _ h => h) (Or.inl ⟨by rfl, ?_⟩) (by assumption) ?_
  rotate_left
  · intro wS hSw
    try dsimp only at hSw
    go_simp
    try with_reducible rfl
  try simp only [Act.put, List.setIfInBounds_toArray, List.set_cons_zero, List.set_cons_succ]
  refine wpAnyH_take (i := 4) (oi := ⟨_, _, _, _, _, _⟩) (v := ?_) rfl (by kernel_rfl) (by kernel_rfl) (by kernel_rfl) (fun _ _ _ h => h) (Or.inl ⟨by rfl, ?_⟩) (by assumption) ?_
  rotate_left
  · intro wS hSw
    try dsimp only at hSw
    go_simp
    try with_reducible rfl
  try simp only [Act.put, List.setIfInBounds_toArray, List.set_cons_zero, List.set_cons_succ]
  refine wpAnyH_take (i := 5) (oi := ⟨_, _, _, _, _, _⟩) (v := ?_) rfl (by kernel_rfl) (by kernel_rfl) (by kernel_rfl) (fun _ _ _ h => h) (Or.inl ⟨by rfl, ?_⟩) (by assumption) ?_
  rotate_left
  · intro wS hSw
    try dsimp only at hSw
    go_simp
    try with_reducible rfl
  try simp only [Act.put, List.setIfInBounds_toArray, List.set_cons_zero, List.set_cons_succ]
  refine wpAnyH_take (i := 6) (oi := ⟨_, _, _, _, _, _⟩) (v := ?_) rfl (by kernel_rfl) (by kernel_rfl) (by kernel_rfl) (fun _ _ _ h => h) (Or.inl ⟨by rfl, ?_⟩) (by assumption) ?_
  rotate_left
  · intro wS hSw
    try dsimp only at hSw
    go_simp
    try with_reducible rfl
  try simp only [Act.put, List.setIfInBounds_toArray, List.set_cons_zero, List.set_cons_succ]
  refine wpAnyH_take (i := 7) (oi := ⟨_, _, _, _, _, _⟩) (v := ?_) rfl (by kernel_rfl) (by kernel_rfl) (by kernel_rfl) (fun _ _ _ h => h) (Or.inl ⟨by rfl, ?_⟩) (by assumption) ?_
  rotate_left
  · intro wS hSw
    try dsimp only at hSw
    go_simp
    try with_reducible rfl
  try simp only [Act.put, List.setIfInBounds_toArray, List.set_cons_zero, List.set_cons_succ]
  refine wpAnyH_take (i := 8) (oi := ⟨_, _, _, _, _, _⟩) (v := ?_) rfl (by kernel_rfl) (by kernel_rfl) (by kernel_rfl) (fun _ _ _ h => h) (Or.inl ⟨by rfl, ?_⟩) (by assumption) ?_
  rotate_left
  · intro wS hSw
    try dsimp only at hSw
    go_simp
    try with_reducible rfl
  try simp only [Act.put, List.setIfInBounds_toArray, List.set_cons_zero, List.set_cons_succ]
  refine wpAnyH_ready (rs := [9]) (by kernel_rfl) (by simp) ?_
  refine AllReadyH.cons rfl (fun K hK => ?_) AllReadyH.nil
  go_simp
  refine (node_any cell _ hM (by omega) (by omega)).mono ?_
  rintro e w2 ⟨rfl, hb2⟩
  have hB2 := below_push2 hb0.drew hb2 (Nat.le_refl _)
  have B2 := (hC1.drew).below hb2
  have BR := (BR0.drew).below hb2
  refine hK.out _ _ ⟨B2.at 0 rfl, B2.at 5 rfl⟩ (fun hHeld => ?_)
  clear hK K hb2
  refine wpAnyH_take (i := 10) (oi := ⟨_, _, _, _, _, _⟩) (v := ?_) rfl (by kernel_rfl) (by kernel_rfl) (by kernel_rfl) (fun _ _ _ h => h) (Or.inl ⟨by rfl, ?_⟩) (by assumption) ?_
  rotate_left
  · intro wS hSw
    try dsimp only at hSw
    go_simp
    try with_reducible rfl
  try simp only [Act.put, List.setIfInBounds_toArray, List.set_cons_zero, List.set_cons_succ]
  have B3 := (Fr.row (S := [w.heap.size]) (w := w2) w.heap.size (accY 1 (atI A T 0 cell) 0 0) (by simp)).blk B2 (by simpa using hne')
  refine wpAnyH_ready (rs := [11]) (by kernel_rfl) (by simp) ?_
  refine AllReadyH.cons rfl (fun K hK => ?_) AllReadyH.nil
  rw [if_pos (by rfl)]
  refine wp_store_row 39 _ _ rfl w.heap.size _ rfl rfl 39 _ BR.h (by kernel_rfl) (by rfl) (by kernel_rfl) ?_
  refine hK.out _ _ ?_ (fun hHeld => ?_)
  · exact ⟨B3.at 0 rfl, B3.at 5 rfl⟩
  clear hK K
  refine wpAnyH_take (i := 12) (oi := ⟨_, _, _, _, _, _⟩) (v := ?_) rfl (by kernel_rfl) (by kernel_rfl) (by kernel_rfl) (fun _ _ _ h => h) (Or.inl ⟨by rfl, ?_⟩) (by assumption) ?_
  rotate_left
  · intro wS hSw
    try dsimp only at hSw
    go_simp
    try with_reducible rfl
  try simp only [Act.put, List.setIfInBounds_toArray, List.set_cons_zero, List.set_cons_succ]
  refine wpAnyH_done (by kernel_rfl) ?_ _
  go_wp2_with fail
  refine bodyPost_ret (v := .tuple #[.agg (accY 1 (atI A T 0 cell) 0 0), .bool true]) (results_cell_tmp rfl _ _ w.heap.size 39 (accY 1 (atI A T 0 cell) 0 0) (0, 0) _ (.bool true) rfl rfl (Blk.row BR (accY 1 (atI A T 0 cell) 0 0)).h Try.underlying39 rfl (by kernel_rfl)) rfl ⟨rfl, below_setRow hB2 (by omega) _⟩
set_option maxRecDepth 100000 in
set_option maxHeartbeats 3200000 in
theorem rdNext_2 {o oc g gb gr A T : Nat} {L : List (Int × Int)} {bs rs : List (List Value)} (t : Nat) (th : Int) (su : Bool) (cell word ver : Int) (n0 n1 n2 n3 n4 n5 n6 n7 : Value) (w : World) (h : MemAt w o oc g gb gr A T L bs rs) (B : Blk w t (rdA (some ⟨o, 0, none⟩) th 2 0 su cell word ver n0 n1 n2 n3 n4 n5 n6 n7) 95) (t0 : 0 ≤ th) (t1 : th < T) (l0 : 0 ≤ cell) (l1 : cell < A) :
    Calls Try.prog 45 #[.pointer (some ⟨t, 0, none⟩)] w fun e w' => e = .returned (.tuple #[.agg (accY 1 (atI A T 0 cell) 0 0), .bool true]) ∧ Below w.heap.size w w' := by
  have hb0 : Below w.heap.size w (w.alloc (.cells (accY 0 0 0 0) 39)) := by (repeat (first | exact Below.refl _ _ | assumption | refine below_alloc2 ?_ (by first | exact Nat.le_refl _ | omega) _ | refine Below.drew ?_ | refine below_drewN ?_ _ | refine below_push2 ?_ ‹_› (by first | exact Nat.le_refl _ | omega) | refine Below.setCell ?_ (by first | (simp; done) | (simp; omega) | omega) _))
  have hlt := B.lt
  have hA := h.a1
  have h1 := h.below hb0
  have hC1 := B.below hb0
  have BR0 := Blk.new w (accY 0 0 0 0) 39
  have hne' : ¬ t = w.heap.size := by omega
  go_enter Try.func45, Try.ntmps45
  go_wp2_with fail
  generalize w.alloc (.cells (accY 0 0 0 0) 39) = wz at hb0 h1 hC1 BR0 ⊢
  refine (rdnone_on t th 2 0 su cell word ver n0 n1 n2 n3 n4 n5 n6 n7 _ h1 hC1 t0 t1 l0 l1).mono ?_
  rintro e w1 ⟨rfl, nd, rfl⟩
  replace hb0 := below_drewN hb0 nd
  replace h1 := h1.drewN nd
  replace hC1 := hC1.drewN nd
  replace BR0 := BR0.drewN nd
  generalize wz.drewN nd = wy at hb0 h1 hC1 BR0 ⊢
  have c0 := hC1.at 0 rfl
  have c1 := hC1.at 1 rfl
  have c2 := hC1.at 2 rfl
  have c3 := hC1.at 3 rfl
  have c5 := hC1.at 5 rfl
  have c6 := hC1.at 6 rfl
  have hM := h1.below (Below.refl _ _).drew
  go_upto_region 8 with (fail)
  refine wp_region_held_drew (S := fun w' => w'.cell? ⟨t, 0, none⟩ = some (.pointer (some ⟨o, 0, none⟩)) ∧ w'.cell? ⟨t, 5, none⟩ = some (.int .i64 cell)) (by kernel_rfl) ?_ (fun hHeld => ?_)
  · exact ⟨c0, c5⟩
  refine wpAnyH_take (i := 0) (oi := ⟨_, _, _, _, _, _⟩) (v := ?_) rfl (by kernel_rfl) (by kernel_rfl) (by kernel_rfl) (fun _ _ _ h => h) (Or.inl ⟨by rfl, ?_⟩) (by assumption) ?_
  rotate_left
  · intro wS hSw
    try dsimp only at hSw
    go_simp
    try with_reducible rfl
  try simp only [Act.put, List.setIfInBounds_toArray, List.set_cons_zero, List.set_cons_succ]
  refine wpAnyH_take (i := 1) (oi := ⟨_, _, _, _, _, _⟩) (v := ?_) rfl (by kernel_rfl) (by kernel_rfl) (by kernel_rfl) (fun _ _ _ h => h) (Or.inl ⟨by rfl, ?_⟩) (by assumption) ?_
  rotate_left
  · intro wS hSw
    try dsimp only at hSw
    go_simp
    try with_reducible rfl
  try simp only [Act.put, List.setIfInBounds_toArray, List.set_cons_zero, List.set_cons_succ]
  refine wpAnyH_take (i := 2) (oi := ⟨_, _, _, _, _, _⟩) (v := ?_) rfl (by kernel_rfl) (by kernel_rfl) (by kernel_rfl) (fun _ _ _ h => h) (Or.inl ⟨by rfl, ?_⟩) (by assumption) ?_
  rotate_left
  · intro wS hSw
    try dsimp only at hSw
    go_simp
    try with_reducible rfl
  try simp only [Act.put, List.setIfInBounds_toArray, List.set_cons_zero, List.set_cons_succ]
  refine wpAnyH_take (i := 3) (oi := ⟨_, _, _, _, _, _⟩) (v := ?_) rfl (by kernel_rfl) (by kernel_rfl) (by kernel_rfl) (fun _ _ _ h => h) (Or.inl ⟨by rfl, ?_⟩) (by assumption) ?_
  rotate_left
  · intro wS hSw
    try dsimp only at hSw
    go_simp
    try with_reducible rfl
  try simp only [Act.put, List.setIfInBounds_toArray, List.set_cons_zero, List.set_cons_succ]
  refine wpAnyH_take (i := 4) (oi := ⟨_, _, _, _, _, _⟩) (v := ?_) rfl (by kernel_rfl) (by kernel_rfl) (by kernel_rfl) (fun _ _ _ h => h) (Or.inl ⟨by rfl, ?_⟩) (by assumption) ?_
  rotate_left
  · intro wS hSw
    try dsimp only at hSw
    go_simp
    try with_reducible rfl
  try simp only [Act.put, List.setIfInBounds_toArray, List.set_cons_zero, List.set_cons_succ]
  refine wpAnyH_take (i := 5) (oi := ⟨_, _, _, _, _, _⟩) (v := ?_) rfl (by kernel_rfl) (by kernel_rfl) (by kernel_rfl) (fun _ _ _ h => h) (Or.inl ⟨by rfl, ?_⟩) (by assumption) ?_
  rotate_left
  · intro wS hSw
    try dsimp only at hSw
    go_simp
    try with_reducible rfl
  try simp only [Act.put, List.setIfInBounds_toArray, List.set_cons_zero, List.set_cons_succ]
  refine wpAnyH_take (i := 6) (oi := ⟨_, _, _, _, _, _⟩) (v := ?_) rfl (by kernel_rfl) (by kernel_rfl) (by kernel_rfl) (fun _ _ _ h => h) (Or.inl ⟨by rfl, ?_⟩) (by assumption) ?_
  rotate_left
  · intro wS hSw
    try dsimp only at hSw
    go_simp
    try with_reducible rfl
  try simp only [Act.put, List.setIfInBounds_toArray, List.set_cons_zero, List.set_cons_succ]
  refine wpAnyH_take (i := 7) (oi := ⟨_, _, _, _, _, _⟩) (v := ?_) rfl (by kernel_rfl) (by kernel_rfl) (by kernel_rfl) (fun _ _ _ h => h) (Or.inl ⟨by rfl, ?_⟩) (by assumption) ?_
  rotate_left
  · intro wS hSw
    try dsimp only at hSw
    go_simp
    try with_reducible rfl
  try simp only [Act.put, List.setIfInBounds_toArray, List.set_cons_zero, List.set_cons_succ]
  refine wpAnyH_take (i := 8) (oi := ⟨_, _, _, _, _, _⟩) (v := ?_) rfl (by kernel_rfl) (by kernel_rfl) (by kernel_rfl) (fun _ _ _ h => h) (Or.inl ⟨by rfl, ?_⟩) (by assumption) ?_
  rotate_left
  · intro wS hSw
    try dsimp only at hSw
    go_simp
    try with_reducible rfl
  try simp only [Act.put, List.setIfInBounds_toArray, List.set_cons_zero, List.set_cons_succ]
  refine wpAnyH_ready (rs := [9]) (by kernel_rfl) (by simp) ?_
  refine AllReadyH.cons rfl (fun K hK => ?_) AllReadyH.nil
  go_simp
  refine (node_any cell _ hM (by omega) (by omega)).mono ?_
  rintro e w2 ⟨rfl, hb2⟩
  have hB2 := below_push2 hb0.drew hb2 (Nat.le_refl _)
  have B2 := (hC1.drew).below hb2
  have BR := (BR0.drew).below hb2
  refine hK.out _ _ ⟨B2.at 0 rfl, B2.at 5 rfl⟩ (fun hHeld => ?_)
  clear hK K hb2
  refine wpAnyH_take (i := 10) (oi := ⟨_, _, _, _, _, _⟩) (v := ?_) rfl (by kernel_rfl) (by kernel_rfl) (by kernel_rfl) (fun _ _ _ h => h) (Or.inl ⟨by rfl, ?_⟩) (by assumption) ?_
  rotate_left
  · intro wS hSw
    try dsimp only at hSw
    go_simp
    try with_reducible rfl
  try simp only [Act.put, List.setIfInBounds_toArray, List.set_cons_zero, List.set_cons_succ]
  have B3 := (Fr.row (S := [w.heap.size]) (w := w2) w.heap.size (accY 1 (atI A T 0 cell) 0 0) (by simp)).blk B2 (by simpa using hne')
  refine wpAnyH_ready (rs := [11]) (by kernel_rfl) (by simp) ?_
  refine AllReadyH.cons rfl (fun K hK => ?_) AllReadyH.nil
  rw [if_pos (by rfl)]
  refine wp_store_row 39 _ _ rfl w.heap.size _ rfl rfl 39 _ BR.h (by kernel_rfl) (by rfl) (by kernel_rfl) ?_
  refine hK.out _ _ ?_ (fun hHeld => ?_)
  · exact ⟨B3.at 0 rfl, B3.at 5 rfl⟩
  clear hK K
  refine wpAnyH_take (i := 12) (oi := ⟨_, _, _, _, _, _⟩) (v := ?_) rfl (by kernel_rfl) (by kernel_rfl) (by kernel_rfl) (fun _ _ _ h => h) (Or.inl ⟨by rfl, ?_⟩) (by assumption) ?_
  rotate_left
  · intro wS hSw
    try dsimp only at hSw
    go_simp
    try with_reducible rfl
  try simp only [Act.put, List.setIfInBounds_toArray, List.set_cons_zero, List.set_cons_succ]
  refine wpAnyH_done (by kernel_rfl) ?_ _
  go_wp2_with fail
  refine bodyPost_ret (v := .tuple #[.agg (accY 1 (atI A T 0 cell) 0 0), .bool true]) (results_cell_tmp rfl _ _ w.heap.size 39 (accY 1 (atI A T 0 cell) 0 0) (0, 0) _ (.bool true) rfl rfl (Blk.row BR (accY 1 (atI A T 0 cell) 0 0)).h Try.underlying39 rfl (by kernel_rfl)) rfl ⟨rfl, below_setRow hB2 (by omega) _⟩
set_option maxRecDepth 100000 in
set_option maxHeartbeats 3200000 in
theorem rdNext_1 {o oc g gb gr A T : Nat} {L : List (Int × Int)} {bs rs : List (List Value)} (t : Nat) (th : Int) (su : Bool) (cell word ver : Int) (n0 n1 n2 n3 n4 n5 n6 n7 : Value) (w : World) (h : MemAt w o oc g gb gr A T L bs rs) (B : Blk w t (rdA (some ⟨o, 0, none⟩) th 1 0 su cell word ver n0 n1 n2 n3 n4 n5 n6 n7) 95) (t0 : 0 ≤ th) (t1 : th < T) (l0 : 0 ≤ cell) (l1 : cell < A) :
    Calls Try.prog 45 #[.pointer (some ⟨t, 0, none⟩)] w fun e w' => e = .returned (.tuple #[.agg (accY 2 (hazI A T th 1) 0 word), .bool true]) ∧ Below w.heap.size w w' := by
  have hb0 : Below w.heap.size w (w.alloc (.cells (accY 0 0 0 0) 39)) := by (repeat (first | exact Below.refl _ _ | assumption | refine below_alloc2 ?_ (by first | exact Nat.le_refl _ | omega) _ | refine Below.drew ?_ | refine below_drewN ?_ _ | refine below_push2 ?_ ‹_› (by first | exact Nat.le_refl _ | omega) | refine Below.setCell ?_ (by first | (simp; done) | (simp; omega) | omega) _))
  have hlt := B.lt
  have hA := h.a1
  have h1 := h.below hb0
  have hC1 := B.below hb0
  have BR0 := Blk.new w (accY 0 0 0 0) 39
  have hne' : ¬ t = w.heap.size := by omega
  go_enter Try.func45, Try.ntmps45
  go_wp2_with fail
  generalize w.alloc (.cells (accY 0 0 0 0) 39) = wz at hb0 h1 hC1 BR0 ⊢
  refine (rdnone_on t th 1 0 su cell word ver n0 n1 n2 n3 n4 n5 n6 n7 _ h1 hC1 t0 t1 l0 l1).mono ?_
  rintro e w1 ⟨rfl, nd, rfl⟩
  replace hb0 := below_drewN hb0 nd
  replace h1 := h1.drewN nd
  replace hC1 := hC1.drewN nd
  replace BR0 := BR0.drewN nd
  generalize wz.drewN nd = wy at hb0 h1 hC1 BR0 ⊢
  have c0 := hC1.at 0 rfl
  have c1 := hC1.at 1 rfl
  have c2 := hC1.at 2 rfl
  have c3 := hC1.at 3 rfl
  have c5 := hC1.at 5 rfl
  have c6 := hC1.at 6 rfl
  have hM := h1.below (Below.refl _ _).drew
  go_upto_region 5 with (fail)
  refine wp_region_held_drew (S := fun w' => w'.cell? ⟨t, 0, none⟩ = some (.pointer (some ⟨o, 0, none⟩)) ∧ w'.cell? ⟨t, 1, none⟩ = some (.int .i64 th) ∧ w'.cell? ⟨t, 6, none⟩ = some (.int .u64 word)) (by kernel_rfl) ?_ (fun hHeld => ?_)
  · exact ⟨c0, c1, c6⟩
  refine wpAnyH_take (i := 0) (oi := ⟨_, _, _, _, _, _⟩) (v := ?_) rfl (by kernel_rfl) (by kernel_rfl) (by kernel_rfl) (fun _ _ _ h => h) (Or.inl ⟨by rfl, ?_⟩) (by assumption) ?_
  rotate_left
  · intro wS hSw
    try dsimp only at hSw
    go_simp
    try with_reducible rfl
  try simp only [Act.put, List.setIfInBounds_toArray, List.set_cons_zero, List.set_cons_succ]
  refine wpAnyH_take (i := 1) (oi := ⟨_, _, _, _, _, _⟩) (v := ?_) rfl (by kernel_rfl) (by kernel_rfl) (by kernel_rfl) (fun _ _ _ h => h) (Or.inl ⟨by rfl, ?_⟩) (by assumption) ?_
  rotate_left
  · intro wS hSw
    try dsimp only at hSw
    go_simp
    try with_reducible rfl
  try simp only [Act.put, List.setIfInBounds_toArray, List.set_cons_zero, List.set_cons_succ]
  refine wpAnyH_take (i := 2) (oi := ⟨_, _, _, _, _, _⟩) (v := ?_) rfl (by kernel_rfl) (by kernel_rfl) (by kernel_rfl) (fun _ _ _ h => h) (Or.inl ⟨by rfl, ?_⟩) (by assumption) ?_
  rotate_left
  · intro wS hSw
    try dsimp only at hSw
    go_simp
    try with_reducible rfl
  try simp only [Act.put, List.setIfInBounds_toArray, List.set_cons_zero, List.set_cons_succ]
  refine wpAnyH_take (i := 3) (oi := ⟨_, _, _, _, _, _⟩) (v := ?_) rfl (by kernel_rfl) (by kernel_rfl) (by kernel_rfl) (fun _ _ _ h => h) (Or.inl ⟨by rfl, ?_⟩) (by assumption) ?_
  rotate_left
  · intro wS hSw
    try dsimp only at hSw
    go_simp
    try with_reducible rfl
  try simp only [Act.put, List.setIfInBounds_toArray, List.set_cons_zero, List.set_cons_succ]
  refine wpAnyH_take (i := 4) (oi := ⟨_, _, _, _, _, _⟩) (v := ?_) rfl (by kernel_rfl) (by kernel_rfl) (by kernel_rfl) (fun _ _ _ h => h) (Or.inl ⟨by rfl, ?_⟩) (by assumption) ?_
  rotate_left
  · intro wS hSw
    try dsimp only at hSw
    go_simp
    try with_reducible rfl
  try simp only [Act.put, List.setIfInBounds_toArray, List.set_cons_zero, List.set_cons_succ]
  refine wpAnyH_take (i := 5) (oi := ⟨_, _, _, _, _, _⟩) (v := ?_) rfl (by kernel_rfl) (by kernel_rfl) (by kernel_rfl) (fun _ _ _ h => h) (Or.inl ⟨by rfl, ?_⟩) (by assumption) ?_
  rotate_left
  · intro wS hSw
    try dsimp only at hSw
    go_simp
    try with_reducible rfl
  try simp only [Act.put, List.setIfInBounds_toArray, List.set_cons_zero, List.set_cons_succ]
  refine wpAnyH_take (i := 6) (oi := ⟨_, _, _, _, _, _⟩) (v := ?_) rfl (by kernel_rfl) (by kernel_rfl) (by kernel_rfl) (fun _ _ _ h => h) (Or.inl ⟨by rfl, ?_⟩) (by assumption) ?_
  rotate_left
  · intro wS hSw
    try dsimp only at hSw
    go_simp
    try with_reducible rfl
  try simp only [Act.put, List.setIfInBounds_toArray, List.set_cons_zero, List.set_cons_succ]
  refine wpAnyH_take (i := 7) (oi := ⟨_, _, _, _, _, _⟩) (v := ?_) rfl (by kernel_rfl) (by kernel_rfl) (by kernel_rfl) (fun _ _ _ h => h) (Or.inl ⟨by rfl, ?_⟩) (by assumption) ?_
  rotate_left
  · intro wS hSw
    try dsimp only at hSw
    go_simp
    try with_reducible rfl
  try simp only [Act.put, List.setIfInBounds_toArray, List.set_cons_zero, List.set_cons_succ]
  refine wpAnyH_take (i := 9) (oi := ⟨_, _, _, _, _, _⟩) (v := ?_) rfl (by kernel_rfl) (by kernel_rfl) (by kernel_rfl) (fun _ _ _ h => h) (Or.inl ⟨by rfl, ?_⟩) (by assumption) ?_
  rotate_left
  · intro wS hSw
    try dsimp only at hSw
    go_simp
    try with_reducible rfl
  try simp only [Act.put, List.setIfInBounds_toArray, List.set_cons_zero, List.set_cons_succ]
  refine wpAnyH_take (i := 10) (oi := ⟨_, _, _, _, _, _⟩) (v := ?_) rfl (by kernel_rfl) (by kernel_rfl) (by kernel_rfl) (fun _ _ _ h => h) (Or.inl ⟨by rfl, ?_⟩) (by assumption) ?_
  rotate_left
  · intro wS hSw
    try dsimp only at hSw
    go_simp
    try with_reducible rfl
  try simp only [Act.put, List.setIfInBounds_toArray, List.set_cons_zero, List.set_cons_succ]
  refine wpAnyH_take (i := 11) (oi := ⟨_, _, _, _, _, _⟩) (v := ?_) rfl (by kernel_rfl) (by kernel_rfl) (by kernel_rfl) (fun _ _ _ h => h) (Or.inl ⟨by rfl, ?_⟩) (by assumption) ?_
  rotate_left
  · intro wS hSw
    try dsimp only at hSw
    go_simp
    try with_reducible rfl
  try simp only [Act.put, List.setIfInBounds_toArray, List.set_cons_zero, List.set_cons_succ]
  refine wpAnyH_take (i := 12) (oi := ⟨_, _, _, _, _, _⟩) (v := ?_) rfl (by kernel_rfl) (by kernel_rfl) (by kernel_rfl) (fun _ _ _ h => h) (Or.inl ⟨by rfl, ?_⟩) (by assumption) ?_
  rotate_left
  · intro wS hSw
    try dsimp only at hSw
    go_simp
    try with_reducible rfl
  try simp only [Act.put, List.setIfInBounds_toArray, List.set_cons_zero, List.set_cons_succ]
  refine wpAnyH_take (i := 13) (oi := ⟨_, _, _, _, _, _⟩) (v := ?_) rfl (by kernel_rfl) (by kernel_rfl) (by kernel_rfl) (fun _ _ _ h => h) (Or.inl ⟨by rfl, ?_⟩) (by assumption) ?_
  rotate_left
  · intro wS hSw
    try dsimp only at hSw
    go_simp
    try with_reducible rfl
  try simp only [Act.put, List.setIfInBounds_toArray, List.set_cons_zero, List.set_cons_succ]
  refine wpAnyH_ready (rs := [8]) (by kernel_rfl) (by simp) ?_
  refine AllReadyH.cons rfl (fun K hK => ?_) AllReadyH.nil
  go_simp
  refine (haz_any th 1 _ hM).mono ?_
  rintro e w2 ⟨rfl, hb2⟩
  have hB2 := below_push2 hb0.drew hb2 (Nat.le_refl _)
  have B2 := (hC1.drew).below hb2
  have BR := (BR0.drew).below hb2
  refine hK.out _ _ ⟨B2.at 0 rfl, B2.at 1 rfl, B2.at 6 rfl⟩ (fun hHeld => ?_)
  clear hK K hb2
  refine wpAnyH_take (i := 14) (oi := ⟨_, _, _, _, _, _⟩) (v := ?_) rfl (by kernel_rfl) (by kernel_rfl) (by kernel_rfl) (fun _ _ _ h => h) (Or.inl ⟨by rfl, ?_⟩) (by assumption) ?_
  rotate_left
  · intro wS hSw
    try dsimp only at hSw
    go_simp
    try with_reducible rfl
  try simp only [Act.put, List.setIfInBounds_toArray, List.set_cons_zero, List.set_cons_succ]
  have B3 := (Fr.row (S := [w.heap.size]) (w := w2) w.heap.size (accY 2 (hazI A T th 1) 0 word) (by simp)).blk B2 (by simpa using hne')
  refine wpAnyH_ready (rs := [15]) (by kernel_rfl) (by simp) ?_
  refine AllReadyH.cons rfl (fun K hK => ?_) AllReadyH.nil
  rw [if_pos (by rfl)]
  refine wp_store_row 39 _ _ rfl w.heap.size _ rfl rfl 39 _ BR.h (by kernel_rfl) (by rfl) (by kernel_rfl) ?_
  refine hK.out _ _ ?_ (fun hHeld => ?_)
  · exact ⟨B3.at 0 rfl, B3.at 1 rfl, B3.at 6 rfl⟩
  clear hK K
  refine wpAnyH_take (i := 16) (oi := ⟨_, _, _, _, _, _⟩) (v := ?_) rfl (by kernel_rfl) (by kernel_rfl) (by kernel_rfl) (fun _ _ _ h => h) (Or.inl ⟨by rfl, ?_⟩) (by assumption) ?_
  rotate_left
  · intro wS hSw
    try dsimp only at hSw
    go_simp
    try with_reducible rfl
  try simp only [Act.put, List.setIfInBounds_toArray, List.set_cons_zero, List.set_cons_succ]
  refine wpAnyH_done (by kernel_rfl) ?_ _
  go_wp2_with fail
  refine bodyPost_ret (v := .tuple #[.agg (accY 2 (hazI A T th 1) 0 word), .bool true]) (results_cell_tmp rfl _ _ w.heap.size 39 (accY 2 (hazI A T th 1) 0 word) (0, 0) _ (.bool true) rfl rfl (Blk.row BR (accY 2 (hazI A T th 1) 0 word)).h Try.underlying39 rfl (by kernel_rfl)) rfl ⟨rfl, below_setRow hB2 (by omega) _⟩
set_option maxRecDepth 100000 in
set_option maxHeartbeats 3200000 in
theorem rdNext_3 {o oc g gb gr A T : Nat} {L : List (Int × Int)} {bs rs : List (List Value)} (t : Nat) (th : Int) (su : Bool) (cell word ver : Int) (n0 n1 n2 n3 n4 n5 n6 n7 : Value) (w : World) (h : MemAt w o oc g gb gr A T L bs rs) (B : Blk w t (rdA (some ⟨o, 0, none⟩) th 3 0 su cell word ver n0 n1 n2 n3 n4 n5 n6 n7) 95) (t0 : 0 ≤ th) (t1 : th < T) (l0 : 0 ≤ cell) (l1 : cell < A) :
    Calls Try.prog 45 #[.pointer (some ⟨t, 0, none⟩)] w fun e w' => e = .returned (.tuple #[.agg (accY 4 0 0 word), .bool true]) ∧ Below w.heap.size w w' := by
  have hb0 : Below w.heap.size w (w.alloc (.cells (accY 0 0 0 0) 39)) := by (repeat (first | exact Below.refl _ _ | assumption | refine below_alloc2 ?_ (by first | exact Nat.le_refl _ | omega) _ | refine Below.drew ?_ | refine below_drewN ?_ _ | refine below_push2 ?_ ‹_› (by first | exact Nat.le_refl _ | omega) | refine Below.setCell ?_ (by first | (simp; done) | (simp; omega) | omega) _))
  have hlt := B.lt
  have hA := h.a1
  have h1 := h.below hb0
  have hC1 := B.below hb0
  have BR0 := Blk.new w (accY 0 0 0 0) 39
  have hne' : ¬ t = w.heap.size := by omega
  go_enter Try.func45, Try.ntmps45
  go_wp2_with fail
  generalize w.alloc (.cells (accY 0 0 0 0) 39) = wz at hb0 h1 hC1 BR0 ⊢
  refine (rdnone_on t th 3 0 su cell word ver n0 n1 n2 n3 n4 n5 n6 n7 _ h1 hC1 t0 t1 l0 l1).mono ?_
  rintro e w1 ⟨rfl, nd, rfl⟩
  replace hb0 := below_drewN hb0 nd
  replace h1 := h1.drewN nd
  replace hC1 := hC1.drewN nd
  replace BR0 := BR0.drewN nd
  generalize wz.drewN nd = wy at hb0 h1 hC1 BR0 ⊢
  have c0 := hC1.at 0 rfl
  have c1 := hC1.at 1 rfl
  have c2 := hC1.at 2 rfl
  have c3 := hC1.at 3 rfl
  have c5 := hC1.at 5 rfl
  have c6 := hC1.at 6 rfl
  have hM := h1.below (Below.refl _ _).drew
  go_wp2_with (refine wpList_store_row rfl 39 _ _ rfl w.heap.size _ rfl rfl 39 _ BR0.h (by kernel_rfl) (by rfl) (by kernel_rfl) ?_)
  refine bodyPost_ret (v := .tuple #[.agg (accY 4 0 0 word), .bool true]) (results_cell_tmp rfl _ _ w.heap.size 39 (accY 4 0 0 word) (0, 0) _ (.bool true) rfl rfl (Blk.row BR0 (accY 4 0 0 word)).h Try.underlying39 rfl (by kernel_rfl)) rfl ⟨rfl, below_setRow hb0 (by omega) _⟩
end Go.Proofs.Ytpmlbdnhgeeaoaa.MemP
