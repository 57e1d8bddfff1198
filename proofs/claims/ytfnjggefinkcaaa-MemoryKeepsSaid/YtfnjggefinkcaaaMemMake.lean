/-
  memory.begin, memory.New: contracts.
-/
import Derived.Test.YtfnjggefinkcaaaMemNew
import Derived.Deep.RegionWith
namespace Go.Proofs.Ytfnjggefinkcaaa.MemP
open Go.RowKit RefP CellP
set_option linter.unusedVariables false
set_option linter.unusedSimpArgs false

/-- a memory whose cells were not made yet -/
structure PreAt (w : World) (o gb gr A T : Nat) (bs rs : List (List Value)) : Prop where
  head : Blk w o (memA (.pointer none) (fromI A T) gb A gr T) 48
  blocks : Blk w gb (rawA 17 bs) 35
  records : Blk w gr (rawA 5 rs) 37
  lb : bs.length = A
  lr : rs.length = T
  a1 : 1 ≤ A ∧ A ≤ 8192
  t1 : 1 ≤ T ∧ T ≤ 16
  ne : o ≠ gb ∧ o ≠ gr ∧ gb ≠ gr
theorem PreAt.below {w w' : World} {o gb gr A T : Nat} {bs rs : List (List Value)} (h : PreAt w o gb gr A T bs rs) (hb : Below w.heap.size w w') : PreAt w' o gb gr A T bs rs :=
  ⟨h.head.below hb, h.blocks.below hb, h.records.below hb, h.lb, h.lr, h.a1, h.t1, h.ne⟩
theorem PreAt.far {w : World} {o gb gr A T : Nat} {bs rs : List (List Value)} (h : PreAt w o gb gr A T bs rs) (p : Addr) (v : Value) (h1 : o ≠ p.block) (h2 : gb ≠ p.block) (h3 : gr ≠ p.block) : PreAt (w.setCell p v) o gb gr A T bs rs :=
  ⟨h.head.far p v h1, h.blocks.far p v h2, h.records.far p v h3, h.lb, h.lr, h.a1, h.t1, h.ne⟩
theorem PreAt.from {w : World} {o gb gr A T : Nat} {bs rs : List (List Value)} (h : PreAt w o gb gr A T bs rs) (j : Nat) (hj : j ≤ 7) : w.cell? ⟨o, 1 + j, none⟩ = some (.int .i64 (fromI A T j)) := by
  have : j = 0 ∨ j = 1 ∨ j = 2 ∨ j = 3 ∨ j = 4 ∨ j = 5 ∨ j = 6 ∨ j = 7 := by omega
  rcases this with e | e | e | e | e | e | e | e <;> subst e <;> exact h.head.at _ rfl
/-- the words behind k rounds -/
def fillL (A T : Nat) (gen : Int) (k : Nat) : List Int := (List.range (2 * A + 5 * T + 1)).map fun i => if A ≤ i ∧ i < A + k then useI 0 gen else 0
theorem fillL_length (A T : Nat) (gen : Int) (k : Nat) : (fillL A T gen k).length = 2 * A + 5 * T + 1 := by simp [fillL]
theorem fillL_zero (A T : Nat) (gen : Int) : fillL A T gen 0 = List.replicate (2 * A + 5 * T + 1) 0 := by
  apply List.ext_getElem?
  intro i
  simp only [fillL, List.getElem?_map, List.getElem?_range', List.getElem?_replicate]
  by_cases h : i < 2 * A + 5 * T + 1
  · have : ¬ (A ≤ i ∧ i < A) := by omega
    simp [h, this]
  · simp [h]
theorem fillL_succ (A T : Nat) (gen : Int) (k : Nat) (h : k < A) : (fillL A T gen k).set (A + k) (useI 0 gen) = fillL A T gen (k + 1) := by
  apply List.ext_getElem?
  intro i
  rw [List.getElem?_set, fillL_length]
  by_cases hi : i < 2 * A + 5 * T + 1
  · simp only [fillL, List.getElem?_map, List.getElem?_range hi, Option.map_some]
    by_cases e : A + k = i
    · subst e
      have h1 : A + k < 2 * A + 5 * T + 1 := hi
      simp [h1]
    · have e1 : (A ≤ i ∧ i < A + k) ↔ (A ≤ i ∧ i < A + (k + 1)) := by omega
      simp [e, e1]
  · have hn : ¬ A + k = i := by omega
    rw [if_neg hn, List.getElem?_eq_none (by rw [fillL_length]; omega), List.getElem?_eq_none (by rw [fillL_length]; omega)]
theorem fillL_rng (A T : Nat) (gen : Int) (k : Nat) (g0 : 0 ≤ gen) : ∀ x ∈ fillL A T gen k, 0 ≤ x ∧ x ≤ 18446744073709551615 := by
  intro x hx
  simp only [fillL, List.mem_map] at hx
  obtain ⟨i, _, rfl⟩ := hx
  split
  · exact ⟨useI_lo _ _ g0, useI_hi _ _⟩
  · omega
/-- all words at first -/
def firstL (A T : Nat) (gen : Int) : List Int := ((fillL A T gen A).set A (useI 1 (nextV gen))).set 0 (packI 0 (nextV gen))
theorem firstL_length (A T : Nat) (gen : Int) : (firstL A T gen).length = 2 * A + 5 * T + 1 := by simp [firstL, fillL_length]
theorem firstL_cells (A T : Nat) (gen : Int) (hA : 1 ≤ A) : asCells (firstL A T gen) = freshL A T gen := by
  apply List.ext_getElem?
  intro i
  simp only [asCells, freshL, List.getElem?_map, firstL, List.getElem?_set, List.length_set, fillL_length]
  by_cases hi : i < 2 * A + 5 * T + 1
  · simp only [fillL, List.getElem?_map, List.getElem?_range hi, Option.map_some]
    by_cases h0 : i = 0
    · subst h0; simp [freshW]
    · have h0' : ¬ 0 = i := fun e => h0 e.symm
      by_cases hA' : A = i
      · subst hA'
        simp [freshW, h0', h0, hi]
      · have e1 : (A ≤ i ∧ i < A + A) ↔ (A < i ∧ i < 2 * A) := by omega
        have hA2 : ¬ i = A := fun e => hA' e.symm
        simp [freshW, h0, h0', hA', hA2, e1]
  · have h0' : ¬ 0 = i := by omega
    have hA' : ¬ A = i := by omega
    simp only [h0', hA', if_false, fillL, List.getElem?_map]
    rw [List.getElem?_eq_none (by simp; omega)]
    simp
structure BegRel (w : World) (o gb gr A T : Nat) (bs rs : List (List Value)) (gen : Int) (k : Nat) (wr : World) : Prop where
  p : PreAt wr o gb gr A T bs rs
  f : Blk wr w.heap.size (wordsA (fillL A T gen k)) 22
  b : Below w.heap.size w wr
theorem infoW : (Try.prog.info? 22).map (fun i => (i.zero, i.size, i.bytes)) = some (some (.int .u64 0), 1, 8) := by kernel_rfl
/-- all is there at first -/
def BegunAt (w : World) (o gb gr A T : Nat) (bs rs : List (List Value)) (gen : Int) (w' : World) : Prop :=
  ∃ oc g, MemAt w' o oc g gb gr A T (freshL A T gen) (bs.set 0 eb) rs ∧ Fr [o, gb] w w' ∧ w.heap.size ≤ oc ∧ w.heap.size ≤ g

abbrev leafW (w : World) (gb : Nat) : World := put17z w gb (.int .i64 1) (.int .i64 0) (.string ⟨#[]⟩) (.string ⟨#[]⟩) (.bool true) (.int .i64 (-1)) (.slice none 0 0) (.slice none 0 0) (.slice none 0 0) (.int .i64 0) (.int .i64 0) (.string ⟨#[]⟩) (.int .u64 0) (.slice none 0 0) (.slice none 0 0) (.slice none 0 0) (.slice none 0 0)
theorem leaf_done {w0 w : World} {o gb gr A T f : Nat} {bs rs : List (List Value)} {ws : Array Value} {TT : TypeId} (hP : PreAt w o gb gr A T bs rs) (hS : Blk w f ws TT) (hf : f ≠ gb) (hF : Fr [o, gb] w0 w) :
    PreAt (leafW w gb) o gb gr A T (bs.set 0 eb) rs ∧ Blk (leafW w gb) f ws TT ∧ Fr [o, gb] w0 (leafW w gb) := by
  have hl : 0 < bs.length := by have := hP.lb; have := hP.a1; omega
  have hB := blk_put17 hP.blocks 0 hl (.int .i64 1) (.int .i64 0) (.string ⟨#[]⟩) (.string ⟨#[]⟩) (.bool true) (.int .i64 (-1)) (.slice none 0 0) (.slice none 0 0) (.slice none 0 0) (.int .i64 0) (.int .i64 0) (.string ⟨#[]⟩) (.int .u64 0) (.slice none 0 0) (.slice none 0 0) (.slice none 0 0) (.slice none 0 0)
  have hfr := fr_put17 w gb 0 (.int .i64 1) (.int .i64 0) (.string ⟨#[]⟩) (.string ⟨#[]⟩) (.bool true) (.int .i64 (-1)) (.slice none 0 0) (.slice none 0 0) (.slice none 0 0) (.int .i64 0) (.int .i64 0) (.string ⟨#[]⟩) (.int .u64 0) (.slice none 0 0) (.slice none 0 0) (.slice none 0 0) (.slice none 0 0)
  rw [put17_zero] at hB hfr
  have n1 := hP.ne
  exact ⟨⟨hfr.blk hP.head (by simp; omega), hB, hfr.blk hP.records (by simp; omega), by simpa using hP.lb, hP.lr, hP.a1, hP.t1, hP.ne⟩, hfr.blk hS (by simpa using hf), hF.trans (hfr.more (by simp))⟩
theorem firstL_rng (A T : Nat) (gen : Int) (g0 : 0 ≤ gen) : ∀ x ∈ firstL A T gen, 0 ≤ x ∧ x ≤ 18446744073709551615 := by
  intro x hx
  rcases List.mem_or_eq_of_mem_set hx with hx | rfl
  · rcases List.mem_or_eq_of_mem_set hx with hx | rfl
    · exact fillL_rng A T gen A g0 x hx
    · exact ⟨useI_lo _ _ (nextV_rng _).1, useI_hi _ _⟩
  · exact ⟨packI_lo _ _, packI_hi _ _⟩
theorem of_n (a : Option Addr) (c n : Nat) (l : List Int) (w : World) (h : U64s w a l) (hl : l.length ≤ 65536) (hn : l.length = n) : Calls Try.prog 62 #[.slice a n c] w (MadeAt w (asCells l)) := by
  subst hn; exact of_any a c l w h hl
theorem begun_done {w0 w w1 : World} {o gb gr A T oc g : Nat} {bs rs : List (List Value)} {gen : Int} (hP : PreAt w o gb gr A T bs rs) (hF : Fr [o, gb] w0 w) (hb : Below w.heap.size w w1) (hC : CellsAt w1 oc g (asCells (firstL A T gen))) (hO : w.heap.size ≤ oc) (hG : w.heap.size ≤ g) (h0 : o < w0.heap.size) :
    MemAt (w1.setCell ⟨o, 0, none⟩ (.pointer (some ⟨oc, 0, none⟩))) o oc g gb gr A T (freshL A T gen) bs rs ∧ Fr [o, gb] w0 (w1.setCell ⟨o, 0, none⟩ (.pointer (some ⟨oc, 0, none⟩))) ∧ w0.heap.size ≤ oc ∧ w0.heap.size ≤ g := by
  have h1 := hP.below hb
  have ho := hP.head.lt
  have hgb := hP.blocks.lt
  have hgr := hP.records.lt
  have n1 := hP.ne
  have hs := hF.size
  refine ⟨⟨?_, ?_, ?_, ?_, ?_, hP.lb, hP.lr, hP.a1, hP.t1, by omega⟩, ?_, by omega, by omega⟩
  · exact h1.head.set 0 (.pointer (some ⟨oc, 0, none⟩))
  · have := firstL_cells A T gen hP.a1.1
    rw [this] at hC
    exact ⟨hC.head.far _ _ (by show oc ≠ o; omega), hC.rows.far _ _ (by show g ≠ o; omega), hC.ne, hC.rng, hC.len⟩
  · exact h1.blocks.far _ _ (by show gb ≠ o; omega)
  · exact h1.records.far _ _ (by show gr ≠ o; omega)
  · simp [freshL]
  · exact (hF.trans (Fr.of_below hb)).set _ _ (.inl (by simp))
set_option maxRecDepth 100000 in
set_option maxHeartbeats 3200000 in
theorem begin_any (o gb gr A T : Nat) (bs rs : List (List Value)) (gen : Int) (w : World) (h : PreAt w o gb gr A T bs rs) (g0 : 0 ≤ gen) (g1 : gen < 4294967295) :
    Calls Try.prog 38 #[.pointer (some ⟨o, 0, none⟩), .int .u64 gen] w fun e w' => e = .returned (.tuple #[]) ∧ BegunAt w o gb gr A T bs rs gen w' := by
  obtain ⟨hA1, hA2⟩ := h.a1
  obtain ⟨hT1, hT2⟩ := h.t1
  obtain ⟨N, hN⟩ : ∃ N : Nat, N = 2 * A + 5 * T + 1 := ⟨_, rfl⟩
  have hNf : fromI A T 7 = (N : Int) := by simp [fromI]; omega
  obtain ⟨i0, hi, hz0, hz1, hz2⟩ := info_parts' infoW
  have hmk := fun W => run_make_rowN (P := Try.prog) 24 22 i0 _ Try.underlying24 hi hz0 .i64 .i64 N N (Nat.le_refl _) (by rw [hz2]; omega) (by omega) W
  have e0 : (Value.int .u64 0).cells = #[.int .u64 0] := by simp [Value.cells]
  rw [e0, hz1, Nat.mul_one, wordsA_made N, hN, ← fillL_zero A T gen, ← hN] at hmk
  clear e0 hz0 hz1 hz2 hi
  have c7 : w.cell? ⟨o, 8, none⟩ = some (.int .i64 N) := by rw [← hNf]; exact h.head.at 8 rfl
  have hos := h.head.lt
  have hgbs := h.blocks.lt
  have hgrs := h.records.lt
  have c9 : w.cell? ⟨o, 9, none⟩ = some (.slice (some ⟨gb, 0, none⟩) A A) := h.head.at 9 rfl
  have hN1 : 2 * A + 5 * T + 1 ≤ N := by omega
  have hN2 : N ≤ 2 * A + 5 * T + 1 := by omega
  clear hN hNf
  have hwr : IntKind.u64.wrap (gen + 1) = nextV gen := IntKind.wrap_u64 _
  have hnr := nextV_rng gen
  go_enter Try.func38, Try.ntmps38
  go_wp2_with fail
  have R0 : BegRel w o gb gr A T bs rs gen 0 (w.alloc (.cells (wordsA (fillL A T gen 0)) 22)) := ⟨h.below (by (repeat (first | exact Below.refl _ _ | assumption | refine below_alloc2 ?_ (by first | exact Nat.le_refl _ | omega) _ | refine Below.drew ?_ | refine below_drewN ?_ _ | refine below_push2 ?_ ‹_› (by first | exact Nat.le_refl _ | omega) | refine Below.setCell ?_ (by first | (simp; done) | (simp; omega) | omega) _))), Blk.new w _ _, by (repeat (first | exact Below.refl _ _ | assumption | refine below_alloc2 ?_ (by first | exact Nat.le_refl _ | omega) _ | refine Below.drew ?_ | refine below_drewN ?_ _ | refine below_push2 ?_ ‹_› (by first | exact Nat.le_refl _ | omega) | refine Below.setCell ?_ (by first | (simp; done) | (simp; omega) | omega) _))⟩
  clear hmk c7 c9
  go_loopw [17] (fun i wr => ∃ k : Nat, k ≤ A ∧ i = .int .i64 k ∧ BegRel w o gb gr A T bs rs gen k wr) (fun i _ => A - (intOf i).toNat)
  case atStart => exact ⟨0, Nat.zero_le _, rfl, R0⟩
  case round =>
    clear R0
    obtain ⟨k, hk, rfl, R⟩ := hrel
    have d1 : wr.cell? ⟨o, 2, none⟩ = some (.int .i64 A) := R.p.head.at 2 rfl
    have d0 : wr.cell? ⟨o, 1, none⟩ = some (.int .i64 0) := R.p.head.at 1 rfl
    by_cases hlt : k < A
    · have hlt' : (k : Int) < (A : Int) := by omega
      have y1 : ((A : Int) + (k : Int)).toNat = A + k := by omega
      have y2 : (0 : Int) ≤ (A : Int) + (k : Int) := by omega
      have y3 : (A : Int) + (k : Int) < (N : Int) := by omega
      have y4 : A + k < N := by omega
      have t0 := R.f.at _ (wordsA_at (fillL A T gen k) (A + k) (by rw [fillL_length]; omega))
      have tf := R.f.free (A + k)
      have hwA : IntKind.i64.wrap ((A : Int) + (k : Int)) = (A : Int) + (k : Int) := by rw [IntKind.wrap_i64]; omega
      go_upto_region 4 with (fail)
      go_still_tail 11, (by kernel_rfl)
      still_call ((use_any 0 gen _ (by omega) (by omega) g0 (by omega)).flip)
      repeat still_step
      refine wpStill_nil ?_
      go_wp2_with fail
      go_roundw
      case rel =>
        have hS := R.f.set (A + k) (.int .u64 (useI 0 gen))
        rw [wordsA_set, fillL_succ A T gen k hlt] at hS
        have hP := R.p.far ⟨w.heap.size, A + k, none⟩ (.int .u64 (useI 0 gen)) (by show o ≠ w.heap.size; omega) (by show gb ≠ w.heap.size; omega) (by show gr ≠ w.heap.size; omega)
        exact ⟨k + 1, by omega, by go_num, hP.below (Below.refl _ _).drew, hS.drew, (R.b.setCell (Nat.le_refl _) _).drew⟩
      case measure => simp [intOf]; omega
    · obtain rfl : k = A := by omega
      have hfl := fillL_length k T gen k
      have t0 := R.f.at _ (wordsA_at (fillL k T gen k) k (by omega))
      have tf := R.f.free k
      have hkN : (k : Int) < (N : Int) := by omega
      have hN0 : (0 : Int) < (N : Int) := by omega
      have hN0' : 0 < N := by omega
      have hkN' : k < N := by omega
      go_upto_region 6 with (fail)
      go_still_tail 10, (by kernel_rfl)
      still_call ((use_any 1 (nextV gen) _ (by omega) (by omega) hnr.1 hnr.2).flip)
      repeat still_step
      refine wpStill_nil ?_
      have hS1 := R.f.set k (.int .u64 (useI 1 (nextV gen)))
      rw [wordsA_set] at hS1
      have hP1 := R.p.far ⟨w.heap.size, k, none⟩ (.int .u64 (useI 1 (nextV gen))) (by show o ≠ w.heap.size; omega) (by show gb ≠ w.heap.size; omega) (by show gr ≠ w.heap.size; omega)
      have hB1 := R.b.setCell (p := ⟨w.heap.size, k, none⟩) (Nat.le_refl _) (.int .u64 (useI 1 (nextV gen)))
      go_upto_region 7 with (fail)
      clear R d1 d0 t0 tf
      generalize (wr.setCell ⟨w.heap.size, k, none⟩ (.int .u64 (useI 1 (nextV gen)))) = w1 at hS1 hP1 hB1 ⊢
      have hS1 := hS1.drew
      have hP1 := hP1.below (Below.refl _ _).drew
      have hB1 := hB1.drew
      generalize w1.drew = w2 at hS1 hP1 hB1 ⊢
      have d0 : w2.cell? ⟨o, 1, none⟩ = some (.int .i64 0) := hP1.head.at 1 rfl
      have t0 := hS1.at _ (wordsA_at ((fillL k T gen k).set k (useI 1 (nextV gen))) 0 (by rw [List.length_set]; omega))
      have tf := hS1.free 0
      go_still_tail 10, (by kernel_rfl)
      still_call ((pack_any 0 (nextV gen) _ (by omega) (by omega) hnr.1 hnr.2).flip)
      repeat still_step
      refine wpStill_nil ?_
      have hS2 := hS1.set 0 (.int .u64 (packI 0 (nextV gen)))
      rw [wordsA_set] at hS2
      have hP2 := hP1.far ⟨w.heap.size, 0, none⟩ (.int .u64 (packI 0 (nextV gen))) (by show o ≠ w.heap.size; omega) (by show gb ≠ w.heap.size; omega) (by show gr ≠ w.heap.size; omega)
      have hB2 := hB1.setCell (p := ⟨w.heap.size, 0, none⟩) (Nat.le_refl _) (.int .u64 (packI 0 (nextV gen)))
      go_upto_region 8 with (fail)
      clear hS1 hP1 hB1 d0 t0 tf
      generalize (w2.setCell ⟨w.heap.size, 0, none⟩ (.int .u64 (packI 0 (nextV gen)))) = w3 at hS2 hP2 hB2 ⊢
      have hS3 := hS2.drew
      have hP3 := hP2.below (Below.refl _ _).drew
      have hB3 := hB2.drew
      clear hS2 hP2 hB2
      generalize w3.drew = w4 at hS3 hP3 hB3 ⊢
      have c9 : w4.cell? ⟨o, 9, none⟩ = some (.slice (some ⟨gb, 0, none⟩) k k) := hP3.head.at 9 rfl
      have hfix : Fr [o, gb] w w4 := Fr.of_below hB3
      have hk0 : (0 : Int) < (k : Int) := by omega
      have hk0' : 0 < k := by omega
      go_cut [] (fun wx => PreAt wx o gb gr k T (bs.set 0 eb) rs ∧ Blk wx w.heap.size (wordsA (firstL k T gen)) 22 ∧ Fr [o, gb] w wx)
      case first =>
        go_region_with (refine (empty_any _).mono ?_; rintro e wx ⟨rfl, hbx⟩; have hP5 := (hP3.below (Below.refl _ _).drew).below hbx; have m9 : wx.cell? ⟨o, 9, none⟩ = some (.slice (some ⟨gb, 0, none⟩) k k) := hP5.head.at 9 rfl; (
            have hb0 : 0 < bs.length := by rw [hP5.lb]; omega
            have hB5 := hP5.blocks
            have e0 := hB5.at 0 (raw_at0 _ hb0 0 (by omega))
            have f0 := hB5.free 0
            have e1 := hB5.at 1 (raw_at0 _ hb0 1 (by omega))
            have f1 := hB5.free 1
            have e2 := hB5.at 2 (raw_at0 _ hb0 2 (by omega))
            have f2 := hB5.free 2
            have e3 := hB5.at 3 (raw_at0 _ hb0 3 (by omega))
            have f3 := hB5.free 3
            have e4 := hB5.at 4 (raw_at0 _ hb0 4 (by omega))
            have f4 := hB5.free 4
            have e5 := hB5.at 5 (raw_at0 _ hb0 5 (by omega))
            have f5 := hB5.free 5
            have e6 := hB5.at 6 (raw_at0 _ hb0 6 (by omega))
            have f6 := hB5.free 6
            have e7 := hB5.at 7 (raw_at0 _ hb0 7 (by omega))
            have f7 := hB5.free 7
            have e8 := hB5.at 8 (raw_at0 _ hb0 8 (by omega))
            have f8 := hB5.free 8
            have e9 := hB5.at 9 (raw_at0 _ hb0 9 (by omega))
            have f9 := hB5.free 9
            have e10 := hB5.at 10 (raw_at0 _ hb0 10 (by omega))
            have f10 := hB5.free 10
            have e11 := hB5.at 11 (raw_at0 _ hb0 11 (by omega))
            have f11 := hB5.free 11
            have e12 := hB5.at 12 (raw_at0 _ hb0 12 (by omega))
            have f12 := hB5.free 12
            have e13 := hB5.at 13 (raw_at0 _ hb0 13 (by omega))
            have f13 := hB5.free 13
            have e14 := hB5.at 14 (raw_at0 _ hb0 14 (by omega))
            have f14 := hB5.free 14
            have e15 := hB5.at 15 (raw_at0 _ hb0 15 (by omega))
            have f15 := hB5.free 15
            have e16 := hB5.at 16 (raw_at0 _ hb0 16 (by omega))
            have f16 := hB5.free 16))
        all_goals
          go_wp2_with fail
          go_meet
          exact leaf_done hP5 ((hS3.below (Below.refl _ _).drew).below hbx) (by omega) ((hfix.trans (Fr.of_below (Below.refl _ _).drew)).trans (Fr.of_below hbx))
      case rest =>
        obtain ⟨hP5, hS5, hF5⟩ := hcut
        have hfl1 := firstL_length k T gen
        have hU5 := wordsA_row hS5 (firstL_rng k T gen g0) (by omega)
        clear hP3 hS3 hB3 c9 hfix hfl
        go_wp2_with fail
        refine (of_n _ _ N _ _ hU5 (by omega) (by omega)).mono ?_
        rintro e w6 ⟨oc, g, rfl, hC, hb6, hO, hG⟩
        have c0 : w6.cell? ⟨o, 0, none⟩ = some (.pointer none) := (hP5.below hb6).head.at 0 rfl
        have f0 := (hP5.below hb6).head.free 0
        have hD := begun_done hP5 hF5 hb6 hC hO hG hos
        clear hU5 hC
        go_wp2_with fail
        go_end0
        exact ⟨rfl, _, _, hD⟩
end Go.Proofs.Ytfnjggefinkcaaa.MemP
