/-
  retire: sift: contract.
-/
import Derived.Test.YtchkiacmiljopaaRetX
namespace Go.Proofs.Ytchkiacmiljopaa.MemP
open Go.RowKit RefP CellP HazP
set_option linter.unusedVariables false
set_option linter.unusedSimpArgs false
theorem But.weak {w w' : World} {o : Nat} (h : But w w' o none) (a : Option Addr) : But w w' o a := ⟨h.os, h.tape, h.output, h.size, fun k h1 h2 h3 => h.block k h1 h2 (by simp)⟩
theorem Moved.weak {w : World} {a' : Option Addr} (h : Moved w none a') (a : Option Addr) : Moved w a a' := fun p hp => by
  rcases h p hp with ⟨q, hq, _⟩ | k
  · cases hq
  · exact .inr k
theorem useI_ge {A T : Nat} {x : Int} (h : GoodW A x) : decide (atI A T 1 (openP x) < 0) = false := by
  have := h.2.2
  rw [atI_yes (by omega) (by simp [sizeI]; omega)]
  simp [fromI]; omega
/-- in the rounds -/
structure SfR (w : World) (HS : Nat) (base o t lo : Nat) (r : Int) (A : Nat) (d0 d : RA) (s : RS) (ya : Option Addr) (K : List Int) (fa : Option Addr) (F : List Int) (wr : World) : Prop where
  S : Sf w HS base o t lo r A d0 d s wr
  Y : U64s wr ya K
  N : U64s wr fa F
  far : (∀ b ∈ blkS ya, b < HS ∧ b ≠ t) ∧ ∀ b ∈ blkS fa, b < HS ∧ b ≠ t
theorem SfR.under {w : World} {HS base o t lo : Nat} {r : Int} {A : Nat} {d0 d : RA} {s : RS} {ya : Option Addr} {K : List Int} {fa : Option Addr} {F : List Int} {wr wx : World} (h : SfR w HS base o t lo r A d0 d s ya K fa F wr) (hb : Below wr.heap.size wr wx) : SfR w HS base o t lo r A d0 d s ya K fa F wx := ⟨h.S.under hb, h.Y.below hb, h.N.below hb, h.far⟩
set_option maxRecDepth 100000 in
set_option maxHeartbeats 6400000 in
theorem rtsift_any {o oc g gb gr T : Nat} {L : List (Int × Int)} {bs rs : List (List Value)} {base t lo : Nat} {r : Int} {A : Nat} {d : RA} {s : RS} (w : World) (h : MemB w base o oc g gb gr A T L bs rs) (R : RtAt w base o t lo r A d s) (hbw : base ≤ w.heap.size) :
    Calls Try.prog 31 #[.pointer (some ⟨t, 0, none⟩)] w (RtEnd w base o t lo r A d (siftS s) (.tuple #[])) := by
  obtain ⟨W, st0, a0, nm, fr0, l⟩ := s
  obtain ⟨wa, wc, na, nc, fa0, fc0, la, lc⟩ := d
  have hlenr : (l.length : Int) ≤ r := R.list.len
  have hl60 : l.length ≤ 60000 := by have := R.list.room; omega
  have hnm20 : nm.length ≤ 2000 := R.sm.2.1
  have c1 : w.cell? ⟨t, 1, none⟩ = some (.pointer (some ⟨lo, 0, none⟩)) := R.head.at 1 rfl
  have c5 : w.cell? ⟨t, 5, none⟩ = some (.slice na nm.length nc) := R.head.at 5 rfl
  have R0 := R.under (Below.refl _ w).drew
  have hwords := words_any w.drew lo r la lc l R0.list.head R0.list.words hl60
  go_enter Try.func31, Try.ntmps31
  go_upto_region 0 with (fail)
  refine wp_region_held_drew (S := fun w' => w'.cell? ⟨t, 1, none⟩ = some (.pointer (some ⟨lo, 0, none⟩)) ∧ w'.cell? ⟨t, 5, none⟩ = some (.slice na nm.length nc)) (by kernel_rfl) ?_ (fun hHeld => ?_)
  · exact ⟨c1, c5⟩
  refine wpAnyH_take (i := 0) (oi := ⟨_, _, _, _, _, _⟩) (v := ?_) rfl (by kernel_rfl) (by kernel_rfl) (by kernel_rfl) (fun _ _ _ h => h) (Or.inl ⟨by rfl, ?_⟩) (by assumption) ?_
  rotate_left
  · intro wS hSw
    try dsimp only at hSw
    go_simp
    try with_reducible rfl
  try simp only [Act.put, List.setIfInBounds_toArray, List.set_cons_zero, List.set_cons_succ]
  refine wpAnyH_take (i := 1) (oi := ⟨_, _, _, _, _, _⟩) (v := ?_) rfl (by kernel_rfl) (by kernel_rfl) (by kernel_rfl) (fun _ _ _ h => h) (Or.inl ⟨by rfl, ?_⟩) (by assumption) ?_
  rotate_left
  · intro wS hSw
    try dsimp only at hSw
    go_simp
    try with_reducible rfl
  try simp only [Act.put, List.setIfInBounds_toArray, List.set_cons_zero, List.set_cons_succ]
  refine wpAnyH_take (i := 2) (oi := ⟨_, _, _, _, _, _⟩) (v := ?_) rfl (by kernel_rfl) (by kernel_rfl) (by kernel_rfl) (fun _ _ _ h => h) (Or.inl ⟨by rfl, ?_⟩) (by assumption) ?_
  rotate_left
  · intro wS hSw
    try dsimp only at hSw
    go_simp
    try with_reducible rfl
  try simp only [Act.put, List.setIfInBounds_toArray, List.set_cons_zero, List.set_cons_succ]
  refine wpAnyH_take (i := 3) (oi := ⟨_, _, _, _, _, _⟩) (v := ?_) rfl (by kernel_rfl) (by kernel_rfl) (by kernel_rfl) (fun _ _ _ h => h) (Or.inl ⟨by rfl, ?_⟩) (by assumption) ?_
  rotate_left
  · intro wS hSw
    try dsimp only at hSw
    go_simp
    try with_reducible rfl
  try simp only [Act.put, List.setIfInBounds_toArray, List.set_cons_zero, List.set_cons_succ]
  refine wpAnyH_take (i := 5) (oi := ⟨_, _, _, _, _, _⟩) (v := ?_) rfl (by kernel_rfl) (by kernel_rfl) (by kernel_rfl) (fun _ _ _ h => h) (Or.inl ⟨by rfl, ?_⟩) (by assumption) ?_
  rotate_left
  · intro wS hSw
    try dsimp only at hSw
    go_simp
    try with_reducible rfl
  try simp only [Act.put, List.setIfInBounds_toArray, List.set_cons_zero, List.set_cons_succ]
  refine wpAnyH_take (i := 6) (oi := ⟨_, _, _, _, _, _⟩) (v := ?_) rfl (by kernel_rfl) (by kernel_rfl) (by kernel_rfl) (fun _ _ _ h => h) (Or.inl ⟨by rfl, ?_⟩) (by assumption) ?_
  rotate_left
  · intro wS hSw
    try dsimp only at hSw
    go_simp
    try with_reducible rfl
  try simp only [Act.put, List.setIfInBounds_toArray, List.set_cons_zero, List.set_cons_succ]
  refine wpAnyH_take (i := 7) (oi := ⟨_, _, _, _, _, _⟩) (v := ?_) rfl (by kernel_rfl) (by kernel_rfl) (by kernel_rfl) (fun _ _ _ h => h) (Or.inl ⟨by rfl, ?_⟩) (by assumption) ?_
  rotate_left
  · intro wS hSw
    try dsimp only at hSw
    go_simp
    try with_reducible rfl
  try simp only [Act.put, List.setIfInBounds_toArray, List.set_cons_zero, List.set_cons_succ]
  refine wpAnyH_take (i := 8) (oi := ⟨_, _, _, _, _, _⟩) (v := ?_) rfl (by kernel_rfl) (by kernel_rfl) (by kernel_rfl) (fun _ _ _ h => h) (Or.inl ⟨by rfl, ?_⟩) (by assumption) ?_
  rotate_left
  · intro wS hSw
    try dsimp only at hSw
    go_simp
    try with_reducible rfl
  try simp only [Act.put, List.setIfInBounds_toArray, List.set_cons_zero, List.set_cons_succ]
  refine wpAnyH_ready (rs := [4]) (by kernel_rfl) (by simp) ?_
  refine AllReadyH.cons rfl (fun K hK => ?_) AllReadyH.nil
  go_simp
  refine hwords.mono ?_
  rintro e w2 ⟨a2, c2, rfl, O2, hb2⟩
  have R2 := R0.under hb2
  have hB2 : Below w.heap.size w w2 := below_push2 (Below.refl _ w).drew hb2 (Nat.le_refl _)
  refine hK.out _ _ ⟨R2.head.at 1 rfl, R2.head.at 5 rfl⟩ (fun hHeld => ?_)
  clear hK K hwords c1 c5 R0 hb2
  refine wpAnyH_ready (rs := [9]) (by kernel_rfl) (by simp) ?_
  refine AllReadyH.cons rfl (fun K hK => ?_) AllReadyH.nil
  go_simp
  refine (sift_any a2 na c2 nc l nm w2 (O2.words (by omega)) (R2.named.words (show nm.length ≤ 9223372036854775807 by omega)) hl60).mono ?_
  rintro e w3 ⟨ya, yc, fa, fc, rfl, Y, N, hb3⟩
  have R3 := R2.under hb3
  have hB3 : Below w.heap.size w w3 := below_push2 hB2 hb3 (Nat.le_refl _)
  refine hK.out _ _ ⟨R3.head.at 1 rfl, R3.head.at 5 rfl⟩ (fun hHeld => ?_)
  clear hK K O2
  refine wpAnyH_take (i := 10) (oi := ⟨_, _, _, _, _, _⟩) (v := ?_) rfl (by kernel_rfl) (by kernel_rfl) (by kernel_rfl) (fun _ _ _ h => h) (Or.inl ⟨by rfl, ?_⟩) (by assumption) ?_
  rotate_left
  · intro wS hSw
    try dsimp only at hSw
    go_simp
    try with_reducible rfl
  try simp only [Act.put, List.setIfInBounds_toArray, List.set_cons_zero, List.set_cons_succ]
  refine wpAnyH_take (i := 11) (oi := ⟨_, _, _, _, _, _⟩) (v := ?_) rfl (by kernel_rfl) (by kernel_rfl) (by kernel_rfl) (fun _ _ _ h => h) (Or.inl ⟨by rfl, ?_⟩) (by assumption) ?_
  rotate_left
  · intro wS hSw
    try dsimp only at hSw
    go_simp
    try with_reducible rfl
  try simp only [Act.put, List.setIfInBounds_toArray, List.set_cons_zero, List.set_cons_succ]
  refine wpAnyH_take (i := 12) (oi := ⟨_, _, _, _, _, _⟩) (v := ?_) rfl (by kernel_rfl) (by kernel_rfl) (by kernel_rfl) (fun _ _ _ h => h) (Or.inl ⟨by rfl, ?_⟩) (by assumption) ?_
  rotate_left
  · intro wS hSw
    try dsimp only at hSw
    go_simp
    try with_reducible rfl
  try simp only [Act.put, List.setIfInBounds_toArray, List.set_cons_zero, List.set_cons_succ]
  refine wpAnyH_take (i := 13) (oi := ⟨_, _, _, _, _, _⟩) (v := ?_) rfl (by kernel_rfl) (by kernel_rfl) (by kernel_rfl) (fun _ _ _ h => h) (Or.inl ⟨by rfl, ?_⟩) (by assumption) ?_
  rotate_left
  · intro wS hSw
    try dsimp only at hSw
    go_simp
    try with_reducible rfl
  try simp only [Act.put, List.setIfInBounds_toArray, List.set_cons_zero, List.set_cons_succ]
  refine wpAnyH_take (i := 14) (oi := ⟨_, _, _, _, _, _⟩) (v := ?_) rfl (by kernel_rfl) (by kernel_rfl) (by kernel_rfl) (fun _ _ _ h => h) (Or.inl ⟨by rfl, ?_⟩) (by assumption) ?_
  rotate_left
  · intro wS hSw
    try dsimp only at hSw
    go_simp
    try with_reducible rfl
  try simp only [Act.put, List.setIfInBounds_toArray, List.set_cons_zero, List.set_cons_succ]
  refine wpAnyH_done (by kernel_rfl) ?_ _
  have hKl : (siftL l nm true).length ≤ l.length := siftL_length _ _ _
  have hFl : (siftL l nm false).length ≤ l.length := siftL_length _ _ _
  have hKg : ∀ x ∈ siftL l nm true, GoodW A x := siftL_rng R.good.2.2
  have hFg : ∀ x ∈ siftL l nm false, GoodW A x := siftL_rng R.good.2.2
  have hsft : siftS ⟨W, st0, a0, nm, fr0, l⟩ = ⟨W, 2, a0, nm, siftL l nm false, siftL l nm true⟩ := rfl
  have hlen := R.list.len
  generalize siftL l nm true = K at Y hKl hKg hsft
  generalize siftL l nm false = F at N hFl hFg hsft
  replace hsft := Lib.hid hsft
  have f6 := R3.head.free 6
  have c6 : w3.cell? ⟨t, 6, none⟩ = some (.slice fa0 fr0.length fc0) := R3.head.at 6 rfl
  have hFr : Fr [t] w3 (w3.setCell ⟨t, 6, none⟩ (.slice none 0 0)) := Fr.set (Fr.refl _ _) _ _ (.inl (by simp))
  have hBk : Blk (w3.setCell ⟨t, 6, none⟩ (.slice none 0 0)) t (rtA o lo ⟨wa, wc, na, nc, none, 0, la, lc⟩ ⟨W, st0, a0, nm, [], l⟩) 77 := by
    simpa [rtA, rtZ] using R3.head.set 6 (.slice none 0 0)
  have K4 := R3.put hFr hBk ⟨rfl, rfl, rfl⟩ ⟨R3.words, fun b h => h⟩ ⟨U64s.nil _ none, fun b h => by simp [blkS] at h⟩ (.inl ⟨rfl, rfl, rfl⟩) ⟨R3.good.1, by simp⟩ R3.st ⟨R3.sm.1, R3.sm.2.2⟩ ⟨R3.cp.1, by simp⟩
  have hM4 : Mv (allB t lo ⟨wa, wc, na, nc, fa0, fc0, la, lc⟩) (allB t lo ⟨wa, wc, na, nc, none, 0, la, lc⟩) w (w3.setCell ⟨t, 6, none⟩ (.slice none 0 0)) := (Mv.new hB3).trans K4.2
  have htl := R2.head.lt
  have hsz3 := hb3.size
  have hwsz := hB3.size
  have hfarY : ∀ b ∈ blkS ya, b < w3.heap.size ∧ b ≠ t := fun b k => by have := Y.lt b (own_blkS k); exact ⟨this.2, by omega⟩
  have hfarN : ∀ b ∈ blkS fa, b < w3.heap.size ∧ b ≠ t := fun b k => by have := N.lt b (own_blkS k); exact ⟨this.2, by omega⟩
  have hY4 : U64s (w3.setCell ⟨t, 6, none⟩ (.slice none 0 0)) ya K := U64s.heap (Y.words (by omega)) hFr.size fun b k hl => hFr.block b hl (by simpa using (hfarY b k).2)
  have hN4 : U64s (w3.setCell ⟨t, 6, none⟩ (.slice none 0 0)) fa F := U64s.heap (N.words (by omega)) hFr.size fun b k hl => hFr.block b hl (by simpa using (hfarN b k).2)
  have S4 : SfR w w3.heap.size base o t lo r A ⟨wa, wc, na, nc, fa0, fc0, la, lc⟩ ⟨wa, wc, na, nc, none, 0, la, lc⟩ ⟨W, st0, a0, nm, [], l⟩ ya K fa F (w3.setCell ⟨t, 6, none⟩ (.slice none 0 0)) := by
    refine ⟨⟨K4.1, hM4, OwnsU.nil _ _, ⟨fun b hb => ?_, fun b hb => (R3.wb b hb).2.1⟩, by omega, hwsz, by simp⟩, hY4, hN4, hfarY, hfarN⟩
    refine (R3.own_ge b ?_).2
    simp only [ownB] at hb ⊢
    exact hb
  have hown0 := R.all_ge
  clear K4 hM4 hFr hBk Y N hfarY hfarN hY4 hN4 R2 R3 hB2 hb3 R htl hsz3
  go_upto_region 2 with (fail)
  generalize w3.setCell ⟨t, 6, none⟩ (.slice none 0 0) = w4 at S4 ⊢
  generalize w3.heap.size = HS at S4
  clear hB3 hwsz c6 f6
  go_wp2_with fail
  go_loopw [2, 24] (fun u2 i wr => ∃ k fa' fc', k ≤ F.length ∧ u2 = .slice ya K.length yc ∧ i = .int .i64 (k : Nat) ∧ SfR w HS base o t lo r A ⟨wa, wc, na, nc, fa0, fc0, la, lc⟩ ⟨wa, wc, na, nc, fa', fc', la, lc⟩ ⟨W, st0, a0, nm, F.take k, l⟩ ya K fa F wr) (fun _ i _ => F.length - (intOf i).toNat)
  case atStart => exact ⟨0, none, 0, Nat.zero_le _, rfl, rfl, S4⟩
  case round =>
    clear S4
    obtain ⟨k, fa', fc', hk, rfl, rfl, S⟩ := hrel
    have hMb : MemB wr base o oc g gb gr A T L bs rs := h.below (S.S.M.below (fun b hb => (hown0 b hb).1) hbw) hbw
    by_cases hlt : k < F.length
    · obtain ⟨b', off, rfl, hbl, hc⟩ := S.N.cell k hlt
      have hlt' : (k : Int) < (F.length : Int) := by omega
      have hxg := hFg (at0 F k) (at0_mem F k hlt)
      have hT := take_succ_at0 F k hlt
      have hx := hxg.1
      generalize at0 F k = x at hc hxg hx hT
      have hfl : (F.take k).length + 1 ≤ 65536 := by rw [List.length_take]; omega
      generalize F.take k = G at S hT hfl
      go_wp2_with fail
      refine (rtuse_any t x _ hMb.m S.S.R.head rfl hxg).mono ?_
      rintro e w5 ⟨rfl, hb5⟩
      have S5 := S.under hb5
      have q1 := useI_ge (T := T) hxg
      obtain ⟨g', cap, wA, KA⟩ := addOne HS S5.S.O x hx hfl S5.S.hs.2.2
      have hrun := Lib.hid KA.run
      have hbA : Below w5.heap.size w5 (w5.alloc (.cells #[.int .u64 x] 35)) := (Below.refl _ w5).alloc (Nat.le_refl _) _
      have S6 := S5.S.add hbA hxg KA (by omega)
      have hBA : Blk wA t (rtA o lo ⟨wa, wc, na, nc, fa', fc', la, lc⟩ ⟨W, st0, a0, nm, G, l⟩) 77 := (S5.S.R.head.below hbA).grown KA.grown (fun e => by have := (S5.S.O.lt t e.symm).1; have := S5.S.own.1 t (by simp [ownB]); omega)
      have f6 := hBA.free 6
      have d6 : wA.cell? ⟨t, 6, none⟩ = some (.slice fa' G.length fc') := hBA.at 6 rfl
      have c6 : w5.cell? ⟨t, 6, none⟩ = some (.slice fa' G.length fc') := S5.S.R.head.at 6 rfl
      have hfa : ∀ b ∈ blkS fa', HS ≤ b := fun b q => (S5.S.O.lt b (own_blkS q)).1
      have hS7 : SfR w HS base o t lo r A ⟨wa, wc, na, nc, fa0, fc0, la, lc⟩ ⟨wa, wc, na, nc, some ⟨g', 0, none⟩, cap, la, lc⟩ ⟨W, st0, a0, nm, F.take (k + 1), l⟩ ya K (some ⟨b', off, none⟩) F (wA.setCell ⟨t, 6, none⟩ (.slice (some ⟨g', 0, none⟩) (G.length + 1) cap)) := by
        rw [hT]
        have hno : ∀ b, b < HS ∧ b ≠ t → b ∉ t :: blkS fa' := fun b hb hm => by
          rcases List.mem_cons.1 hm with e | e
          · exact hb.2 e
          · have := hfa b e; omega
        exact ⟨S6.1, U64s.heap S5.Y S6.2.size fun b q hl => S6.2.block b hl (hno b (S5.far.1 b q)), U64s.heap S5.N S6.2.size fun b q hl => S6.2.block b hl (hno b (S5.far.2 b q)), S5.far⟩
      clear S S6 KA hBA hbA S5 hT
      go_wp2_with (at_builtin; refine wpList_append_run hrun.out rfl (by rfl) (by rfl) (by rfl) ?_)
      go_roundw
      case rel => exact ⟨k + 1, _, _, by omega, rfl, by go_num, hS7⟩
      case measure => simp [intOf]; omega
    · obtain rfl : k = F.length := by omega
      rw [List.take_length] at S
      have c1 : wr.cell? ⟨t, 1, none⟩ = some (.pointer (some ⟨lo, 0, none⟩)) := S.S.R.head.at 1 rfl
      have hbr : base ≤ wr.heap.size := Nat.le_trans hbw S.S.M.fr.size
      go_wp2_with fail
      refine (keep_yes wr base lo r la lc l ya yc K S.S.R.list S.Y (by omega) hbr).mono ?_
      rintro e w5 ⟨⟨a', c', rfl, L5, hmv⟩, B5⟩
      obtain ⟨R5, M5⟩ := S.S.R.listed L5 (But.weak B5 la) (Moved.weak hmv la) hKg
      have f3 := R5.head.free 3
      have c3 : w5.cell? ⟨t, 3, none⟩ = some (.int .i64 st0) := R5.head.at 3 rfl
      have hFr : Fr [t] w5 (w5.setCell ⟨t, 3, none⟩ (.int .i64 2)) := Fr.set (Fr.refl _ _) _ _ (.inl (by simp))
      have hBk : Blk (w5.setCell ⟨t, 3, none⟩ (.int .i64 2)) t (rtA o lo ⟨wa, wc, na, nc, fa', fc', a', c'⟩ ⟨W, 2, a0, nm, F, K⟩) 77 := by
        simpa [rtA, rtZ] using R5.head.set 3 (.int .i64 2)
      have K6 := R5.put hFr hBk ⟨rfl, rfl, rfl⟩ ⟨R5.words, fun b h => h⟩ ⟨R5.free, fun b h => h⟩ (.inl ⟨rfl, rfl, rfl⟩) ⟨R5.good.1, R5.good.2.1⟩ (by simp) ⟨R5.sm.1, R5.sm.2.2⟩ R5.cp
      have hM6 := (S.S.M.trans M5).trans K6.2
      clear hFr hBk S L5 hmv B5 M5 hMb c1
      go_wp2_with fail
      go_end0
      exact ⟨_, rfl, by rw [hsft.out]; exact K6.1, hM6⟩
end Go.Proofs.Ytchkiacmiljopaa.MemP
