/-
  claim: Back: Next and Tell: contracts.
-/
import Derived.Test.YtppclnnkleebkaaClaimB
namespace Go.Proofs.Ytppclnnkleebkaa.MemP
open Go.RowKit RefP CellP
set_option linter.unusedVariables false
set_option linter.unusedSimpArgs false
def rest1 (a : Option Addr) (c : Nat) : Option Addr := if c = 1 then a else a.map (·.add 1)
theorem U64s.rest {w : World} {a : Option Addr} {c : Nat} {l : List Int} (h : U64s w a l) (hc : l.length ≤ c) : U64s w (rest1 a c) l.tail := by
  refine ⟨⟨fun h0 => ?_⟩, fun x hx => h.rng x (List.mem_of_mem_tail hx), by have := h.len; simp; omega⟩
  simp only [List.length_tail] at h0
  obtain ⟨b, off, rfl, hb, hcell⟩ := h.row.get (by omega)
  refine ⟨b, off + 1, ?_, hb, fun i hi => ?_⟩
  · unfold rest1
    rw [if_neg (by omega)]
    simp [add_plain']
  · simp only [List.length_tail] at hi
    have := hcell (i + 1) (by omega)
    rw [show off + 1 + i = off + (i + 1) by omega, this]
    simp [u64F, at0, List.getElem?_tail]
theorem run_rest (a : Option Addr) (n c : Nat) (hn : 1 ≤ n) (w : World) : (Instr.slice 33 (.slice a n c) (some (.int .i64 1)) none none).run Try.prog w = .ok (.slice (rest1 a c) (n - 1) (c - 1)) w := by
  obtain ⟨i0, hi, hz0, hz1, hz2⟩ := info_parts' infoWord
  have hel : Try.prog.elem 33 = 27 := by kernel_rfl
  rw [run_slice_l w 33 a n c (by rw [hel]; exact Try.underlying33) .i64 1 (by omega) (by omega), hel]
  simp [sizeOf, typeInfo, hi, hz1, Result.andThen, sliced, rest1]
theorem use_gd {A T : Nat} {x : Int} (h : GdW A x = true) : atI A T 1 (openP x) = A + openP x := by
  have := GdW_rng h
  rw [atI_yes (by omega) (by simp [sizeI]; omega)]
  simp [fromI]
theorem BkAt.cells {w : World} {base o t : Nat} {b off c : Nat} {x : Int} {l : List Int} (h : BkAt w base o t (some ⟨b, off, none⟩) c (x :: l)) : w.cell? ⟨t, 0, none⟩ = some (.pointer (some ⟨o, 0, none⟩)) ∧ w.cell? ⟨t, 1, none⟩ = some (.slice (some ⟨b, off, none⟩) (l.length + 1) c) ∧ w.cell? ⟨b, off, none⟩ = some (.int .u64 x) := by
  refine ⟨h.head.at 0 rfl, h.head.at 1 rfl, ?_⟩
  obtain ⟨b', off', e, hbl, hcell⟩ := h.words.row.get (show 0 < (x :: l).length by simp)
  simp only [Option.some.injEq, Addr.mk.injEq, and_true] at e
  obtain ⟨rfl, rfl⟩ := e
  have := hcell 0 (by simp); simpa [u64F, at0] using this
set_option maxRecDepth 100000 in
set_option maxHeartbeats 6400000 in
theorem bkNext_any {base o oc g gb gr A T : Nat} {L : List (Int × Int)} {bs rs : List (List Value)} {bb t : Nat} {a : Option Addr} {c : Nat} {x : Int} {l : List Int} (w : World) (h : MemAt w o oc g gb gr A T L bs rs) (hK0 : BkAt w bb o t a c (x :: l)) (hx : GdW A x = true) :
    Calls Try.prog 17 #[.pointer (some ⟨t, 0, none⟩)] w fun e w' => e = .returned (.tuple #[.agg (accY 2 ((A : Int) + openP x) 0 (HazP.freedI x)), .bool true]) ∧ Below w.heap.size w w' := by
  have hxr := hK0.words.rng x (by simp)
  obtain ⟨b, off, e, hbl, _⟩ := hK0.words.row.get (show 0 < (x :: l).length by simp)
  subst e
  have hb0 : Below w.heap.size w (w.alloc (.cells (accY 0 0 0 0) 48)) := by (repeat (first | exact Below.refl _ _ | assumption | refine below_alloc2 ?_ (by first | exact Nat.le_refl _ | omega) _ | refine Below.drew ?_ | refine below_drewN ?_ _ | refine below_push2 ?_ ‹_› (by first | exact Nat.le_refl _ | omega) | refine Below.setCell ?_ (by first | (simp; done) | (simp; omega) | omega) _))
  have BR0 := Blk.new w (accY 0 0 0 0) 48
  have htl := hK0.head.lt
  have hne' : ¬ t = w.heap.size := by omega
  have h1 := h.below hb0
  have K1 := hK0.under hb0
  have hop := fun W' => open_any x W' hxr.1 hxr.2
  rw [(GdW_rng hx).1] at hop
  have hpr := (GdW_rng hx).2
  have hA := h.a1
  have hbN : b ≠ w.heap.size := by omega
  obtain ⟨n, hn⟩ : ∃ n, n = l.length + 1 := ⟨_, rfl⟩
  have hn1 : (0 : Int) < (n : Int) := by omega
  have hn0 : 0 < n := by omega
  have hnz : ((n : Int) == 0) = false := by simp; omega
  have hcells : ∀ w', BkAt w' bb o t (some ⟨b, off, none⟩) c (x :: l) → w'.cell? ⟨t, 0, none⟩ = some (.pointer (some ⟨o, 0, none⟩)) ∧ w'.cell? ⟨t, 1, none⟩ = some (.slice (some ⟨b, off, none⟩) n c) ∧ w'.cell? ⟨b, off, none⟩ = some (.int .u64 x) := fun w' K' => by rw [hn]; exact K'.cells
  replace hn := Lib.hid hn
  go_enter Try.func17, Try.ntmps17
  go_upto_region 1 with (fail)
  generalize w.alloc (.cells (accY 0 0 0 0) 48) = w1 at hb0 BR0 h1 K1 ⊢
  have d := hcells _ K1
  have d0 := d.1
  have d1 := d.2.1
  have d2 := d.2.2
  clear d
  go_wp2_with fail
  refine (hop _).mono ?_
  rintro e w2 ⟨rfl, hb2⟩
  have hB2 := below_push2 hb0 hb2 (Nat.le_refl _)
  have K2 := K1.under hb2
  have h2 := h1.below hb2
  have BR2 := BR0.below hb2
  clear d0 d1 d2 hop hb0 hb2 K1 h1 BR0
  have d := hcells _ K2
  have hM := h2.below (Below.refl _ _).drew
  go_upto_region 4 with (fail)
  refine wp_region_held_drew (S := fun w' => w'.cell? ⟨t, 0, none⟩ = some (.pointer (some ⟨o, 0, none⟩)) ∧ w'.cell? ⟨t, 1, none⟩ = some (.slice (some ⟨b, off, none⟩) n c) ∧ w'.cell? ⟨b, off, none⟩ = some (.int .u64 x)) (by kernel_rfl) ?_ (fun hHeld => ?_)
  · exact d
  refine wpAnyH_take (i := 0) (oi := ⟨_, _, _, _, _, _⟩) (v := ?_) rfl (by kernel_rfl) (by kernel_rfl) (by kernel_rfl) (fun _ _ _ h => h) (Or.inl ⟨by rfl, ?_⟩) (by assumption) ?_
  rotate_left
  · intro wS hSw
    try dsimp only at hSw
    go_simp
    try with_reducible rfl
  try simp only [Act.put, List.setIfInBounds_toArray, List.set_cons_zero, List.set_cons_succ]
  refine wpAnyH_take (i := 1) (oi := ⟨_, _, _, _, _, _⟩) (v := ?_) rfl (by kernel_rfl) (by kernel_rfl) (by kernel_rfl) (fun _ _ _ h => h) (Or.inl ⟨by rfl, ?_⟩) (by assumption) ?_
  rotate_left
  · intro wS hSw
    try dsimp only at hSw
    go_simp
    try with_reducible rfl
  try simp only [Act.put, List.setIfInBounds_toArray, List.set_cons_zero, List.set_cons_succ]
  refine wpAnyH_take (i := 2) (oi := ⟨_, _, _, _, _, _⟩) (v := ?_) rfl (by kernel_rfl) (by kernel_rfl) (by kernel_rfl) (fun _ _ _ h => h) (Or.inl ⟨by rfl, ?_⟩) (by assumption) ?_
  rotate_left
  · intro wS hSw
    try dsimp only at hSw
    go_simp
    try with_reducible rfl
  try simp only [Act.put, List.setIfInBounds_toArray, List.set_cons_zero, List.set_cons_succ]
  refine wpAnyH_take (i := 3) (oi := ⟨_, _, _, _, _, _⟩) (v := ?_) rfl (by kernel_rfl) (by kernel_rfl) (by kernel_rfl) (fun _ _ _ h => h) (Or.inl ⟨by rfl, ?_⟩) (by assumption) ?_
  rotate_left
  · intro wS hSw
    try dsimp only at hSw
    go_simp
    try with_reducible rfl
  try simp only [Act.put, List.setIfInBounds_toArray, List.set_cons_zero, List.set_cons_succ]
  refine wpAnyH_take (i := 4) (oi := ⟨_, _, _, _, _, _⟩) (v := ?_) rfl (by kernel_rfl) (by kernel_rfl) (by kernel_rfl) (fun _ _ _ h => h) (Or.inl ⟨by rfl, ?_⟩) (by assumption) ?_
  rotate_left
  · intro wS hSw
    try dsimp only at hSw
    go_simp
    try with_reducible rfl
  try simp only [Act.put, List.setIfInBounds_toArray, List.set_cons_zero, List.set_cons_succ]
  refine wpAnyH_take (i := 5) (oi := ⟨_, _, _, _, _, _⟩) (v := ?_) rfl (by kernel_rfl) (by kernel_rfl) (by kernel_rfl) (fun _ _ _ h => h) (Or.inl ⟨by rfl, ?_⟩) (by assumption) ?_
  rotate_left
  · intro wS hSw
    try dsimp only at hSw
    go_simp
    try with_reducible rfl
  try simp only [Act.put, List.setIfInBounds_toArray, List.set_cons_zero, List.set_cons_succ]
  refine wpAnyH_take (i := 7) (oi := ⟨_, _, _, _, _, _⟩) (v := ?_) rfl (by kernel_rfl) (by kernel_rfl) (by kernel_rfl) (fun _ _ _ h => h) (Or.inl ⟨by rfl, ?_⟩) (by assumption) ?_
  rotate_left
  · intro wS hSw
    try dsimp only at hSw
    go_simp
    try with_reducible rfl
  try simp only [Act.put, List.setIfInBounds_toArray, List.set_cons_zero, List.set_cons_succ]
  refine wpAnyH_take (i := 8) (oi := ⟨_, _, _, _, _, _⟩) (v := ?_) rfl (by kernel_rfl) (by kernel_rfl) (by kernel_rfl) (fun _ _ _ h => h) (Or.inl ⟨by rfl, ?_⟩) (by assumption) ?_
  rotate_left
  · intro wS hSw
    try dsimp only at hSw
    go_simp
    try with_reducible rfl
  try simp only [Act.put, List.setIfInBounds_toArray, List.set_cons_zero, List.set_cons_succ]
  refine wpAnyH_take (i := 9) (oi := ⟨_, _, _, _, _, _⟩) (v := ?_) rfl (by kernel_rfl) (by kernel_rfl) (by kernel_rfl) (fun _ _ _ h => h) (Or.inl ⟨by rfl, ?_⟩) (by assumption) ?_
  rotate_left
  · intro wS hSw
    try dsimp only at hSw
    go_simp
    try with_reducible rfl
  try simp only [Act.put, List.setIfInBounds_toArray, List.set_cons_zero, List.set_cons_succ]
  refine wpAnyH_take (i := 10) (oi := ⟨_, _, _, _, _, _⟩) (v := ?_) rfl (by kernel_rfl) (by kernel_rfl) (by kernel_rfl) (fun _ _ _ h => h) (Or.inl ⟨by rfl, ?_⟩) (by assumption) ?_
  rotate_left
  · intro wS hSw
    try dsimp only at hSw
    go_simp
    try with_reducible rfl
  try simp only [Act.put, List.setIfInBounds_toArray, List.set_cons_zero, List.set_cons_succ]
  refine wpAnyH_take (i := 11) (oi := ⟨_, _, _, _, _, _⟩) (v := ?_) rfl (by kernel_rfl) (by kernel_rfl) (by kernel_rfl) (fun _ _ _ h => h) (Or.inl ⟨by rfl, ?_⟩) (by assumption) ?_
  rotate_left
  · intro wS hSw
    try dsimp only at hSw
    go_simp
    try with_reducible rfl
  try simp only [Act.put, List.setIfInBounds_toArray, List.set_cons_zero, List.set_cons_succ]
  refine wpAnyH_take (i := 12) (oi := ⟨_, _, _, _, _, _⟩) (v := ?_) rfl (by kernel_rfl) (by kernel_rfl) (by kernel_rfl) (fun _ _ _ h => h) (Or.inl ⟨by rfl, ?_⟩) (by assumption) ?_
  rotate_left
  · intro wS hSw
    try dsimp only at hSw
    go_simp
    try with_reducible rfl
  try simp only [Act.put, List.setIfInBounds_toArray, List.set_cons_zero, List.set_cons_succ]
  refine wpAnyH_take (i := 13) (oi := ⟨_, _, _, _, _, _⟩) (v := ?_) rfl (by kernel_rfl) (by kernel_rfl) (by kernel_rfl) (fun _ _ _ h => h) (Or.inl ⟨by rfl, ?_⟩) (by assumption) ?_
  rotate_left
  · intro wS hSw
    try dsimp only at hSw
    go_simp
    try with_reducible rfl
  try simp only [Act.put, List.setIfInBounds_toArray, List.set_cons_zero, List.set_cons_succ]
  refine wpAnyH_ready (rs := [6]) (by kernel_rfl) (by simp) ?_
  refine AllReadyH.cons rfl (fun K hK => ?_) AllReadyH.nil
  go_simp
  have hmu := muse_any (openP x) _ hM (by omega) (by omega)
  rw [use_gd hx] at hmu
  refine hmu.mono ?_
  rintro e w3 ⟨rfl, hb3⟩
  have hB3 := below_push2 (Below.refl _ w2).drew hb3 (Nat.le_refl _)
  refine hK.out _ _ (hcells _ (K2.under hB3)) (fun hHeld => ?_)
  clear hK K hmu
  refine wpAnyH_ready (rs := [14]) (by kernel_rfl) (by simp) ?_
  refine AllReadyH.cons rfl (fun K hK => ?_) AllReadyH.nil
  go_simp
  refine (HazP.freed_any x _ hxr.1 hxr.2).mono ?_
  rintro e w4 ⟨rfl, hb4⟩
  have hB4 := below_push2 hB3 hb4 (Nat.le_refl _)
  have K4 := K2.under hB4
  have BR := BR2.below hB4
  have hBB := below_push2 hB2 hB4 (Nat.le_refl _)
  refine hK.out _ _ (hcells _ K4) (fun hHeld => ?_)
  clear hK K hb3 hb4
  refine wpAnyH_take (i := 15) (oi := ⟨_, _, _, _, _, _⟩) (v := ?_) rfl (by kernel_rfl) (by kernel_rfl) (by kernel_rfl) (fun _ _ _ h => h) (Or.inl ⟨by rfl, ?_⟩) (by assumption) ?_
  rotate_left
  · intro wS hSw
    try dsimp only at hSw
    go_simp
    try with_reducible rfl
  try simp only [Act.put, List.setIfInBounds_toArray, List.set_cons_zero, List.set_cons_succ]
  have dF := hcells _ K4
  have FR : Fr [w.heap.size] w4 (w4.setRow w.heap.size (accY 2 ((A : Int) + openP x) 0 (HazP.freedI x))) := Fr.row w.heap.size _ (by simp)
  have K5c : (w4.setRow w.heap.size (accY 2 ((A : Int) + openP x) 0 (HazP.freedI x))).cell? ⟨t, 0, none⟩ = some (.pointer (some ⟨o, 0, none⟩)) ∧ (w4.setRow w.heap.size (accY 2 ((A : Int) + openP x) 0 (HazP.freedI x))).cell? ⟨t, 1, none⟩ = some (.slice (some ⟨b, off, none⟩) n c) ∧ (w4.setRow w.heap.size (accY 2 ((A : Int) + openP x) 0 (HazP.freedI x))).cell? ⟨b, off, none⟩ = some (.int .u64 x) := by
    have e1 := FR.block t K4.head.lt (by simpa using hne')
    have e2 := FR.block b (by have := hBB.size; omega) (by simpa using hbN)
    exact ⟨(World.cell?_of_block e1).trans dF.1, (World.cell?_of_block e1).trans dF.2.1, (World.cell?_of_block e2).trans dF.2.2⟩
  refine wpAnyH_ready (rs := [16]) (by kernel_rfl) (by simp) ?_
  refine AllReadyH.cons rfl (fun K hK => ?_) AllReadyH.nil
  rw [if_pos (by rfl)]
  refine wp_store_row 48 _ _ rfl w.heap.size _ rfl rfl 48 _ BR.h (by kernel_rfl) (by rfl) (by kernel_rfl) ?_
  refine hK.out _ _ ?_ (fun hHeld => ?_)
  · exact K5c
  clear hK K
  refine wpAnyH_take (i := 17) (oi := ⟨_, _, _, _, _, _⟩) (v := ?_) rfl (by kernel_rfl) (by kernel_rfl) (by kernel_rfl) (fun _ _ _ h => h) (Or.inl ⟨by rfl, ?_⟩) (by assumption) ?_
  rotate_left
  · intro wS hSw
    try dsimp only at hSw
    go_simp
    try with_reducible rfl
  try simp only [Act.put, List.setIfInBounds_toArray, List.set_cons_zero, List.set_cons_succ]
  refine wpAnyH_done (by kernel_rfl) ?_ _
  go_wp2_with fail
  refine bodyPost_ret (v := .tuple #[.agg (accY 2 ((A : Int) + openP x) 0 (HazP.freedI x)), .bool true]) (results_cell_tmp rfl _ _ w.heap.size 48 (accY 2 ((A : Int) + openP x) 0 (HazP.freedI x)) (0, 0) _ (.bool true) rfl rfl (Blk.row BR (accY 2 ((A : Int) + openP x) 0 (HazP.freedI x))).h Try.underlying48 rfl (by kernel_rfl)) rfl ?_
  exact ⟨rfl, below_setRow hBB (by omega) _⟩
theorem bkNext_over (w : World) {bb o t : Nat} {a : Option Addr} {c : Nat} (hK0 : BkAt w bb o t a c []) : Calls Try.prog 17 #[.pointer (some ⟨t, 0, none⟩)] w fun e w' => e = .returned (.tuple #[.agg (accY 0 0 0 0), .bool false]) ∧ Below w.heap.size w w' := by
  have hb0 : Below w.heap.size w (w.alloc (.cells (accY 0 0 0 0) 48)) := by (repeat (first | exact Below.refl _ _ | assumption | refine below_alloc2 ?_ (by first | exact Nat.le_refl _ | omega) _ | refine Below.drew ?_ | refine below_drewN ?_ _ | refine below_push2 ?_ ‹_› (by first | exact Nat.le_refl _ | omega) | refine Below.setCell ?_ (by first | (simp; done) | (simp; omega) | omega) _))
  have c1 : (w.alloc (.cells (accY 0 0 0 0) 48)).cell? ⟨t, 1, none⟩ = some (.slice a 0 c) := (hK0.head.below hb0).at 1 rfl
  go_enter Try.func17, Try.ntmps17
  have BR := Blk.new w (accY 0 0 0 0) 48
  go_wp2_with (refine wpList_store_row rfl 48 _ _ rfl w.heap.size _ rfl rfl 48 _ BR.h (by kernel_rfl) (by rfl) (by kernel_rfl) ?_)
  refine bodyPost_ret (v := .tuple #[.agg (accY 0 0 0 0), .bool false]) (results_cell_tmp rfl _ _ w.heap.size 48 (accY 0 0 0 0) (0, 0) _ (.bool false) rfl rfl (Blk.row BR (accY 0 0 0 0)).h Try.underlying48 rfl (by kernel_rfl)) rfl ⟨rfl, below_setRow hb0 (by omega) _⟩
set_option maxRecDepth 100000 in
set_option maxHeartbeats 6400000 in
theorem bkTell_any {o oc g gb gr A T : Nat} {L : List (Int × Int)} {bs rs : List (List Value)} {bb t : Nat} {a : Option Addr} {c : Nat} {x : Int} {l : List Int} (w : World) (h : MemAt w o oc g gb gr A T L bs rs) (hK0 : BkAt w bb o t a c (x :: l)) (hx : GdW A x = true) (ok : Bool) (rw_ rv : Int) :
    Calls Try.prog 18 #[.pointer (some ⟨t, 0, none⟩), .agg #[.bool ok, .int .u64 rw_, .int .u64 rv, .int .i64 0, .int .i64 0, .string ⟨#[]⟩, .string ⟨#[]⟩, .bool false, .int .i64 0, .slice none 0 0, .slice none 0 0, .slice none 0 0, .int .i64 0, .int .i64 0, .string ⟨#[]⟩, .int .u64 0, .slice none 0 0, .slice none 0 0, .slice none 0 0, .slice none 0 0, .int .i64 0, .string ⟨#[]⟩, .string ⟨#[]⟩, .int .u64 0, .int .i64 0]] w fun e w' => (∃ a' c', e = .returned (.tuple #[]) ∧ BkAt w' bb o t a' c' l) ∧ Fr [t] w w' := by
  have hb0 : Below w.heap.size w (w.alloc (.cells #[.bool ok, .int .u64 rw_, .int .u64 rv, .int .i64 0, .int .i64 0, .string ⟨#[]⟩, .string ⟨#[]⟩, .bool false, .int .i64 0, .slice none 0 0, .slice none 0 0, .slice none 0 0, .int .i64 0, .int .i64 0, .string ⟨#[]⟩, .int .u64 0, .slice none 0 0, .slice none 0 0, .slice none 0 0, .slice none 0 0, .int .i64 0, .string ⟨#[]⟩, .string ⟨#[]⟩, .int .u64 0, .int .i64 0] 53)) := by (repeat (first | exact Below.refl _ _ | assumption | refine below_alloc2 ?_ (by first | exact Nat.le_refl _ | omega) _ | refine Below.drew ?_ | refine below_drewN ?_ _ | refine below_push2 ?_ ‹_› (by first | exact Nat.le_refl _ | omega) | refine Below.setCell ?_ (by first | (simp; done) | (simp; omega) | omega) _))
  have h1 := h.below hb0
  have K1 := hK0.under hb0
  go_enter Try.func18, Try.ntmps18
  go_wp2_with fail
  generalize w.alloc (.cells #[.bool ok, .int .u64 rw_, .int .u64 rv, .int .i64 0, .int .i64 0, .string ⟨#[]⟩, .string ⟨#[]⟩, .bool false, .int .i64 0, .slice none 0 0, .slice none 0 0, .slice none 0 0, .int .i64 0, .int .i64 0, .string ⟨#[]⟩, .int .u64 0, .slice none 0 0, .slice none 0 0, .slice none 0 0, .slice none 0 0, .int .i64 0, .string ⟨#[]⟩, .string ⟨#[]⟩, .int .u64 0, .int .i64 0] 53) = wz at hb0 h1 K1 ⊢
  refine (bkNext_any (base := bb) wz h1 K1 hx).mono ?_
  rintro e w1 ⟨rfl, hb1⟩
  have hbA : Below w1.heap.size w1 (w1.alloc (.cells (accY 2 ((A : Int) + openP x) 0 (HazP.freedI x)) 48)) := (Below.refl _ w1).alloc (Nat.le_refl _) _
  have K2 := (K1.under hb1).under hbA
  have hB2 := below_push2 (below_push2 hb0 hb1 (Nat.le_refl _)) hbA (Nat.le_refl _)
  clear hb0 hb1 hbA K1 h1
  generalize hW : w1.alloc (.cells (accY 2 ((A : Int) + openP x) 0 (HazP.freedI x)) 48) = w2 at K2 hB2
  replace hW := Lib.hid hW
  obtain ⟨n, hn⟩ : ∃ n, n = l.length + 1 := ⟨_, rfl⟩
  have hcap := K2.cap
  simp only [List.length_cons] at hcap
  have c1 : w2.cell? ⟨t, 1, none⟩ = some (.slice a n c) := by rw [hn]; exact K2.head.at 1 rfl
  have f1 := K2.head.free 1
  have hn0 : 1 ≤ n := by omega
  have hnI : (1 : Int) ≤ (n : Int) := by omega
  have hU := U64s.rest (l := x :: l) K2.words (by simpa using hcap)
  have e1 : n - 1 = l.length := by omega
  have hFr : Fr [t] w2 (w2.setCell ⟨t, 1, none⟩ (.slice (rest1 a c) l.length (c - 1))) := Fr.set (Fr.refl _ _) _ _ (.inl (by simp))
  have hB : Blk (w2.setCell ⟨t, 1, none⟩ (.slice (rest1 a c) l.length (c - 1))) t (bkZ (some ⟨o, 0, none⟩) (.slice (rest1 a c) l.length (c - 1))) 92 := by
    simpa [bkZ] using K2.head.set 1 (.slice (rest1 a c) l.length (c - 1))
  have hwb : ∀ p, rest1 a c = some p → bb ≤ p.block ∧ p.block < w2.heap.size ∧ p.block ≠ t := fun p hp => by
    unfold rest1 at hp
    split at hp
    · exact K2.wb p hp
    · cases a with
      | none => cases hp
      | some q =>
        simp only [Option.map_some, Option.some.injEq] at hp
        subst hp
        simpa [Addr.add] using K2.wb q rfl
  have KE : BkAt (w2.setCell ⟨t, 1, none⟩ (.slice (rest1 a c) l.length (c - 1))) bb o t (rest1 a c) (c - 1) l :=
    ⟨hB, U64s.heapq hU hFr.size (fun p e hl => hFr.block _ hl (by simpa using (hwb p e).2.2)), by omega, K2.ge, fun p e => ⟨(hwb p e).1, by simpa using (hwb p e).2.1, (hwb p e).2.2⟩⟩
  have FE := (Fr.of_below (S := [t]) hB2).trans hFr
  obtain ⟨b, off, e, _, _⟩ := K2.words.row.get (show 0 < (x :: l).length by simp)
  subst e
  clear hFr hB hU hwb K2 hB2 hcap
  by_cases hwc : c = 1
  · subst hwc
    have e2 : rest1 (some (⟨b, off, none⟩ : Addr)) 1 = some ⟨b, off, none⟩ := rfl
    simp only [e2, Nat.sub_self] at KE FE
    clear e2
    go_wp2_with (refine wpList_store_row rfl 48 _ _ rfl _ _ rfl rfl 48 _ (Blk.new w1 _ _).h (by kernel_rfl) (by rfl) (by kernel_rfl) ?_; rw [World.setRow_alloc_new, hW.out])
    go_end0
    exact ⟨⟨_, _, rfl, KE⟩, FE⟩
  · have e2 : rest1 (some (⟨b, off, none⟩ : Addr)) c = some ⟨b, off + 1, none⟩ := by simp [rest1, hwc, add_plain']
    rw [e2] at KE FE
    clear e2
    go_wp2_with (refine wpList_store_row rfl 48 _ _ rfl _ _ rfl rfl 48 _ (Blk.new w1 _ _).h (by kernel_rfl) (by rfl) (by kernel_rfl) ?_; rw [World.setRow_alloc_new, hW.out])
    go_end0
    exact ⟨⟨_, _, rfl, KE⟩, FE⟩
end Go.Proofs.Ytppclnnkleebkaa.MemP
