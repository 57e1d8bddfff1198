/-
  bowerref26: Do: contracts (get and read).
-/
import Derived.Test.YtpempcefgfmniaaMemoryDoesPack6

namespace Go.Proofs.Ytpempcefgfmniaa.MemP
open Go.RowKit RefP CellP Dp
set_option linter.unusedVariables false
set_option linter.unusedSimpArgs false
theorem nameI_yes {M : MemV} {x : Int} (h : nameB M.A M.T M.L x = true) : nameI M x = openP x ∧ 0 ≤ openP x ∧ openP x < (M.A : Int) ∧ nameP M.A x = openP x := by
  have h1 := h
  unfold nameB at h1
  simp only [Bool.and_eq_true, decide_eq_true_eq] at h1
  refine ⟨by simp [nameI, h], openP_ge x, h1.2.1, ?_⟩
  unfold nameP
  rw [if_pos ⟨h1.1, h1.2.1⟩]
theorem DMem.block {w : World} {S : List Nat} {d : DH} {M : MemV} (h : DMem w S d M) (p : Nat) (hp : p < M.A) : ∃ b off q, d.h2.a = some ⟨b, off, none⟩ ∧ b < w.heap.size ∧ b ∉ S ∧ w.rangeAt b (off + p * 17) (blockA q (M.B.getD p blockZ)).toList ∧ BlockOk w S q (M.B.getD p blockZ) := by
  have hl := h.lb
  obtain ⟨b, off, ha, hb, hS, hc⟩ := h.blocks (by omega)
  obtain ⟨cs, h1, h2⟩ := hc p (M.B[p]'(by omega)) (List.getElem?_eq_getElem (by omega))
  have e : M.B.getD p blockZ = M.B[p]'(by omega) := by simp [List.getD_eq_getElem?_getD, List.getElem?_eq_getElem (show p < M.B.length by omega)]
  obtain ⟨q, rfl, h3⟩ := blockT_of h1
  rw [e]
  exact ⟨b, off, q, ha, hb, hS, fun j v hj => h2 j v hj, h3⟩
theorem DMem.recd {w : World} {S : List Nat} {d : DH} {M : MemV} (h : DMem w S d M) (p : Nat) (hp : p < M.T) : ∃ b off, d.h3.a = some ⟨b, off, none⟩ ∧ b < w.heap.size ∧ b ∉ S ∧ w.rangeAt b (off + p * 5) (opL (M.R.getD p opZ)) ∧ OpOk (M.R.getD p opZ) := by
  have hl := h.lr
  obtain ⟨b, off, ha, hb, hS, hc⟩ := h.recs (by omega)
  obtain ⟨cs, h1, h2⟩ := hc p (M.R[p]'(by omega)) (List.getElem?_eq_getElem (by omega))
  have e : M.R.getD p opZ = M.R[p]'(by omega) := by simp [List.getD_eq_getElem?_getD, List.getElem?_eq_getElem (show p < M.R.length by omega)]
  obtain ⟨rfl, h3⟩ := opT_of h1
  rw [e]
  exact ⟨b, off, ha, hb, hS, fun j v hj => h2 j v hj, h3⟩
theorem Fr.range {S : List Nat} {w w' : World} (F : Fr S w w') {b o : Nat} {cs : List Value} (h : w.rangeAt b o cs) (hb : b < w.heap.size) (hS : b ∉ S) : w'.rangeAt b o cs :=
  fun j v hj => (F.keeps.cell (p := ⟨b, o + j, none⟩) hb hS).trans (h j v hj)
set_option maxRecDepth 100000 in
set_option maxHeartbeats 3200000 in
theorem ddo_get_yes {S : List Nat} (M : MemV) (d : DH) (i kd : Int) (ver word : Int) (q : BlockH) (b : BlockV) (x : OpV) (w : World) (h : DMem w S d M) (hW : U64 word) (hN : nameB M.A M.T M.L word = true) :
    Calls Try.prog 30 #[.agg (dmX M d), .agg (acc26 q ⟨4, i, ver, word, b, x⟩).toArray] w (DidD w S M ⟨4, i, ver, word, b, x⟩) := by
  obtain ⟨hN1, hp0, hpA', hN2⟩ := nameI_yes hN
  obtain ⟨p, hp⟩ : ∃ p : Nat, openP word = (p : Int) := ⟨(openP word).toNat, by omega⟩
  have hpA : p < M.A := by omega
  rw [hp] at hN2
  clear hp0
  have hlen : 2 * M.A + 5 * M.T + 1 ≤ M.L.length := by have := h.len; omega
  have hT16 := h.t1
  have hA16 := h.a1
  by_cases i0 : i < 0
  · have hB : Below w.heap.size w ((((w.alloc (.cells (dmX M d) 69)).alloc (.cells (acc26 q ⟨4, i, ver, word, b, x⟩).toArray 39)).alloc (.cells #[.int .i64 0, .int .i64 0, .slice none 0 0, .slice none 0 0, .slice none 0 0] 69)).alloc (.cells #[.bool false, .int .u64 0, .int .u64 0, .int .i64 0, .int .i64 0, .string ⟨#[]⟩, .string ⟨#[]⟩, .bool false, .int .i64 0, .slice none 0 0, .slice none 0 0, .slice none 0 0, .int .i64 0, .int .i64 0, .string ⟨#[]⟩, .int .u64 0, .slice none 0 0, .slice none 0 0, .slice none 0 0, .slice none 0 0, .int .i64 0, .string ⟨#[]⟩, .string ⟨#[]⟩, .int .u64 0, .int .i64 0] 50)) := by (repeat (first | exact Below.refl _ _ | assumption | refine below_alloc2 ?_ (by first | exact Nat.le_refl _ | omega) _ | refine Below.drew ?_ | refine below_drewN ?_ _ | refine below_push2 ?_ ‹_› (by first | exact Nat.le_refl _ | omega) | refine Below.setCell ?_ (by first | (simp; done) | (simp; omega) | omega) _))
    have BX := (((Blk.new w (dmX M d) 69).alloc (.cells (acc26 q ⟨4, i, ver, word, b, x⟩).toArray 39)).alloc (.cells #[.int .i64 0, .int .i64 0, .slice none 0 0, .slice none 0 0, .slice none 0 0] 69)).alloc (.cells #[.bool false, .int .u64 0, .int .u64 0, .int .i64 0, .int .i64 0, .string ⟨#[]⟩, .string ⟨#[]⟩, .bool false, .int .i64 0, .slice none 0 0, .slice none 0 0, .slice none 0 0, .int .i64 0, .int .i64 0, .string ⟨#[]⟩, .int .u64 0, .slice none 0 0, .slice none 0 0, .slice none 0 0, .slice none 0 0, .int .i64 0, .string ⟨#[]⟩, .string ⟨#[]⟩, .int .u64 0, .int .i64 0] 50)
    have BA : Blk ((((w.alloc (.cells (dmX M d) 69)).alloc (.cells (acc26 q ⟨4, i, ver, word, b, x⟩).toArray 39)).alloc (.cells #[.int .i64 0, .int .i64 0, .slice none 0 0, .slice none 0 0, .slice none 0 0] 69)).alloc (.cells #[.bool false, .int .u64 0, .int .u64 0, .int .i64 0, .int .i64 0, .string ⟨#[]⟩, .string ⟨#[]⟩, .bool false, .int .i64 0, .slice none 0 0, .slice none 0 0, .slice none 0 0, .int .i64 0, .int .i64 0, .string ⟨#[]⟩, .int .u64 0, .slice none 0 0, .slice none 0 0, .slice none 0 0, .slice none 0 0, .int .i64 0, .string ⟨#[]⟩, .string ⟨#[]⟩, .int .u64 0, .int .i64 0] 50)) (w.heap.size + 1) (acc26 q ⟨4, i, ver, word, b, x⟩).toArray 39 := by
      have := ((Blk.new (w.alloc (.cells (dmX M d) 69)) (acc26 q ⟨4, i, ver, word, b, x⟩).toArray 39).alloc (.cells #[.int .i64 0, .int .i64 0, .slice none 0 0, .slice none 0 0, .slice none 0 0] 69)).alloc (.cells #[.bool false, .int .u64 0, .int .u64 0, .int .i64 0, .int .i64 0, .string ⟨#[]⟩, .string ⟨#[]⟩, .bool false, .int .i64 0, .slice none 0 0, .slice none 0 0, .slice none 0 0, .int .i64 0, .int .i64 0, .string ⟨#[]⟩, .int .u64 0, .slice none 0 0, .slice none 0 0, .slice none 0 0, .slice none 0 0, .int .i64 0, .string ⟨#[]⟩, .string ⟨#[]⟩, .int .u64 0, .int .i64 0] 50)
      simpa using this
    have BM : Blk ((((w.alloc (.cells (dmX M d) 69)).alloc (.cells (acc26 q ⟨4, i, ver, word, b, x⟩).toArray 39)).alloc (.cells #[.int .i64 0, .int .i64 0, .slice none 0 0, .slice none 0 0, .slice none 0 0] 69)).alloc (.cells #[.bool false, .int .u64 0, .int .u64 0, .int .i64 0, .int .i64 0, .string ⟨#[]⟩, .string ⟨#[]⟩, .bool false, .int .i64 0, .slice none 0 0, .slice none 0 0, .slice none 0 0, .int .i64 0, .int .i64 0, .string ⟨#[]⟩, .int .u64 0, .slice none 0 0, .slice none 0 0, .slice none 0 0, .slice none 0 0, .int .i64 0, .string ⟨#[]⟩, .string ⟨#[]⟩, .int .u64 0, .int .i64 0] 50)) (w.heap.size + 2) #[.int .i64 0, .int .i64 0, .slice none 0 0, .slice none 0 0, .slice none 0 0] 69 := by
      have := (Blk.new ((w.alloc (.cells (dmX M d) 69)).alloc (.cells (acc26 q ⟨4, i, ver, word, b, x⟩).toArray 39)) #[.int .i64 0, .int .i64 0, .slice none 0 0, .slice none 0 0, .slice none 0 0] 69).alloc (.cells #[.bool false, .int .u64 0, .int .u64 0, .int .i64 0, .int .i64 0, .string ⟨#[]⟩, .string ⟨#[]⟩, .bool false, .int .i64 0, .slice none 0 0, .slice none 0 0, .slice none 0 0, .int .i64 0, .int .i64 0, .string ⟨#[]⟩, .int .u64 0, .slice none 0 0, .slice none 0 0, .slice none 0 0, .slice none 0 0, .int .i64 0, .string ⟨#[]⟩, .string ⟨#[]⟩, .int .u64 0, .int .i64 0] 50)
      simpa using this
    have BR : Blk ((((w.alloc (.cells (dmX M d) 69)).alloc (.cells (acc26 q ⟨4, i, ver, word, b, x⟩).toArray 39)).alloc (.cells #[.int .i64 0, .int .i64 0, .slice none 0 0, .slice none 0 0, .slice none 0 0] 69)).alloc (.cells #[.bool false, .int .u64 0, .int .u64 0, .int .i64 0, .int .i64 0, .string ⟨#[]⟩, .string ⟨#[]⟩, .bool false, .int .i64 0, .slice none 0 0, .slice none 0 0, .slice none 0 0, .int .i64 0, .int .i64 0, .string ⟨#[]⟩, .int .u64 0, .slice none 0 0, .slice none 0 0, .slice none 0 0, .slice none 0 0, .int .i64 0, .string ⟨#[]⟩, .string ⟨#[]⟩, .int .u64 0, .int .i64 0] 50)) (w.heap.size + 3) #[.bool false, .int .u64 0, .int .u64 0, .int .i64 0, .int .i64 0, .string ⟨#[]⟩, .string ⟨#[]⟩, .bool false, .int .i64 0, .slice none 0 0, .slice none 0 0, .slice none 0 0, .int .i64 0, .int .i64 0, .string ⟨#[]⟩, .int .u64 0, .slice none 0 0, .slice none 0 0, .slice none 0 0, .slice none 0 0, .int .i64 0, .string ⟨#[]⟩, .string ⟨#[]⟩, .int .u64 0, .int .i64 0] 50 := by
      have := Blk.new (((w.alloc (.cells (dmX M d) 69)).alloc (.cells (acc26 q ⟨4, i, ver, word, b, x⟩).toArray 39)).alloc (.cells #[.int .i64 0, .int .i64 0, .slice none 0 0, .slice none 0 0, .slice none 0 0] 69)) #[.bool false, .int .u64 0, .int .u64 0, .int .i64 0, .int .i64 0, .string ⟨#[]⟩, .string ⟨#[]⟩, .bool false, .int .i64 0, .slice none 0 0, .slice none 0 0, .slice none 0 0, .int .i64 0, .int .i64 0, .string ⟨#[]⟩, .int .u64 0, .slice none 0 0, .slice none 0 0, .slice none 0 0, .slice none 0 0, .int .i64 0, .string ⟨#[]⟩, .string ⟨#[]⟩, .int .u64 0, .int .i64 0] 50
      simpa using this
    go_enter Try.func30, Try.ntmps30
    go_upto_region 1 with (fail)
    generalize ((((w.alloc (.cells (dmX M d) 69)).alloc (.cells (acc26 q ⟨4, i, ver, word, b, x⟩).toArray 39)).alloc (.cells #[.int .i64 0, .int .i64 0, .slice none 0 0, .slice none 0 0, .slice none 0 0] 69)).alloc (.cells #[.bool false, .int .u64 0, .int .u64 0, .int .i64 0, .int .i64 0, .string ⟨#[]⟩, .string ⟨#[]⟩, .bool false, .int .i64 0, .slice none 0 0, .slice none 0 0, .slice none 0 0, .int .i64 0, .int .i64 0, .string ⟨#[]⟩, .int .u64 0, .slice none 0 0, .slice none 0 0, .slice none 0 0, .slice none 0 0, .int .i64 0, .string ⟨#[]⟩, .string ⟨#[]⟩, .int .u64 0, .int .i64 0] 50)) = w1 at hB BX BA BM BR ⊢
    have h1 := h.below hB
    have c0 : w1.cell? ⟨w.heap.size, 0, none⟩ = some (.int .i64 M.A) := BX.at 0 rfl
    have c1 : w1.cell? ⟨w.heap.size, 1, none⟩ = some (.int .i64 M.T) := BX.at 1 rfl
    have c2 : w1.cell? ⟨w.heap.size, 2, none⟩ = some (.slice d.h1.a M.L.length d.h1.c) := BX.at 2 rfl
    have c3 : w1.cell? ⟨w.heap.size, 3, none⟩ = some (.slice d.h2.a M.B.length d.h2.c) := BX.at 3 rfl
    have c4 : w1.cell? ⟨w.heap.size, 4, none⟩ = some (.slice d.h3.a M.R.length d.h3.c) := BX.at 4 rfl
    have a0 : w1.cell? ⟨w.heap.size + 1, 0, none⟩ = some (.int .i64 4) := BA.at 0 rfl
    have a1 : w1.cell? ⟨w.heap.size + 1, 1, none⟩ = some (.int .i64 i) := BA.at 1 rfl
    have a2 : w1.cell? ⟨w.heap.size + 1, 2, none⟩ = some (.int .u64 ver) := BA.at 2 rfl
    have a3 : w1.cell? ⟨w.heap.size + 1, 3, none⟩ = some (.int .u64 word) := BA.at 3 rfl
    go_wp2_with (refine wpList_load_row rfl 69 _ rfl w.heap.size rfl 69 _ (0, 0) _ (BX).h Try.underlying69 rfl (by kernel_rfl) ?_)
    refine (dnamed_any M d word w1 h1 hW.1 hW.2).mono ?_
    rintro e w2 ⟨rfl, hb2⟩
    rw [hN1, hp]
    replace hB := below_push2 hB hb2 (Nat.le_refl _)
    replace BX := BX.below hb2
    replace BA := BA.below hb2
    replace BM := BM.below hb2
    replace BR := BR.below hb2
    clear h1 hb2 c0 c1 c2 c3 c4 a0 a1 a2 a3
    have c0 : w2.cell? ⟨w.heap.size, 0, none⟩ = some (.int .i64 M.A) := BX.at 0 rfl
    have c1 : w2.cell? ⟨w.heap.size, 1, none⟩ = some (.int .i64 M.T) := BX.at 1 rfl
    have c2 : w2.cell? ⟨w.heap.size, 2, none⟩ = some (.slice d.h1.a M.L.length d.h1.c) := BX.at 2 rfl
    have c3 : w2.cell? ⟨w.heap.size, 3, none⟩ = some (.slice d.h2.a M.B.length d.h2.c) := BX.at 3 rfl
    have c4 : w2.cell? ⟨w.heap.size, 4, none⟩ = some (.slice d.h3.a M.R.length d.h3.c) := BX.at 4 rfl
    have a1 : w2.cell? ⟨w.heap.size + 1, 1, none⟩ = some (.int .i64 i) := BA.at 1 rfl
    have hs0 : w.heap.size < w2.heap.size := BX.lt
    have hs1 : w.heap.size + 1 < w2.heap.size := BA.lt
    obtain ⟨bb, off, q', ha, hbb, _, hrg0, hok⟩ := h.block p hpA
    have hbl : bb < w2.heap.size := Nat.lt_of_lt_of_le hbb hB.size
    have hrg := (Fr.of_below (S := []) hB).range hrg0 hbb (by simp)
    clear hrg0
    rw [ha] at c3
    have hR : repV M ⟨4, i, ver, word, b, x⟩ = ⟨true, 0, 0, M.B.getD p blockZ, opZ⟩ := by simp [repV, hN, hN2]
    generalize M.B.getD p blockZ = bv at hrg hok hR
    have hS : ∀ w', Fr [w.heap.size + 2, w.heap.size + 3] w2 w' → w'.cell? ⟨w.heap.size, 0, none⟩ = some (.int .i64 M.A) ∧ w'.cell? ⟨w.heap.size, 1, none⟩ = some (.int .i64 M.T) ∧ w'.cell? ⟨w.heap.size, 2, none⟩ = some (.slice d.h1.a M.L.length d.h1.c) ∧ w'.cell? ⟨w.heap.size, 3, none⟩ = some (.slice (some ⟨bb, off, none⟩) M.B.length d.h2.c) ∧ w'.cell? ⟨w.heap.size, 4, none⟩ = some (.slice d.h3.a M.R.length d.h3.c) ∧ w'.cell? ⟨w.heap.size + 1, 1, none⟩ = some (.int .i64 i) ∧ Hid (w'.rangeAt bb (off + p * 17) (blockA q' bv).toList) := fun w' F =>
      ⟨((F.keeps.cell (p := ⟨w.heap.size, 0, none⟩) hs0 (by simp)).trans c0), ((F.keeps.cell (p := ⟨w.heap.size, 1, none⟩) hs0 (by simp)).trans c1), ((F.keeps.cell (p := ⟨w.heap.size, 2, none⟩) hs0 (by simp)).trans c2), ((F.keeps.cell (p := ⟨w.heap.size, 3, none⟩) hs0 (by simp)).trans c3), ((F.keeps.cell (p := ⟨w.heap.size, 4, none⟩) hs0 (by simp)).trans c4), ((F.keeps.cell (p := ⟨w.heap.size + 1, 1, none⟩) hs1 (by simp)).trans a1), Lib.hid (F.range hrg hbl (by simp; omega))⟩
    have hD : doV M ⟨4, i, ver, word, b, x⟩ = M := by simp [doV]
    have hfin : ∀ w', Fr [w.heap.size + 2, w.heap.size + 3] w2 w' → DidD w S M ⟨4, i, ver, word, b, x⟩ (.returned (.tuple #[.agg #[.int .i64 M.A, .int .i64 M.T, .slice d.h1.a M.L.length d.h1.c, .slice (some ⟨bb, off, none⟩) M.B.length d.h2.c, .slice d.h3.a M.R.length d.h3.c], .agg (repA q' ⟨true, 0, 0, bv, opZ⟩)])) w' := fun w' F => by
      have hb' := F.below hB (Nat.le_refl _) (by simp)
      refine ⟨d, q', ?_, ?_, ?_, hb'⟩
      · rw [hR, hD]; simp [ha]
      · rw [hD]; exact h.below hb'
      · rw [hR]; exact hok.keep (Keeps.of_below hb')
    have kk : (p : Int) < (M.B.length : Int) := by have := h.lb; omega
    go_upto_region 17 with (fail)
    clear h hR hD hN hN1 hN2
    refine wp_region_held_drew (S := fun w' => w'.cell? ⟨w.heap.size, 0, none⟩ = some (.int .i64 M.A) ∧ w'.cell? ⟨w.heap.size, 1, none⟩ = some (.int .i64 M.T) ∧ w'.cell? ⟨w.heap.size, 2, none⟩ = some (.slice d.h1.a M.L.length d.h1.c) ∧ w'.cell? ⟨w.heap.size, 3, none⟩ = some (.slice (some ⟨bb, off, none⟩) M.B.length d.h2.c) ∧ w'.cell? ⟨w.heap.size, 4, none⟩ = some (.slice d.h3.a M.R.length d.h3.c) ∧ w'.cell? ⟨w.heap.size + 1, 1, none⟩ = some (.int .i64 i) ∧ Hid (w'.rangeAt bb (off + p * 17) (blockA q' bv).toList)) (by kernel_rfl) (hS _ (Fr.of_below (Below.refl _ _).drew)) (fun hHeld => ?_)
    clear c0 c1 c2 c3 c4 a1
    refine wpAnyH_take (i := 0) (oi := ⟨_, _, _, _, _, _⟩) (v := ?_) rfl (by kernel_rfl) (by kernel_rfl) (by kernel_rfl) (fun _ _ _ h => h) (Or.inl ⟨by rfl, ?_⟩) (by assumption) ?_
    rotate_left
    · intro wS hSw
      try dsimp only at hSw
      go_simp
      try with_reducible rfl
    try simp only [Act.put, List.setIfInBounds_toArray, List.set_cons_zero, List.set_cons_succ]
    refine wpAnyH_take (i := 1) (oi := ⟨_, _, _, _, _, _⟩) (v := ?_) rfl (by kernel_rfl) (by kernel_rfl) (by kernel_rfl) (fun _ _ _ h => h) (Or.inl ⟨by rfl, ?_⟩) (by assumption) ?_
    rotate_left
    · intro wS hSw
      try dsimp only at hSw
      go_simp
      try with_reducible rfl
    try simp only [Act.put, List.setIfInBounds_toArray, List.set_cons_zero, List.set_cons_succ]
    refine wpAnyH_take (i := 2) (oi := ⟨_, _, _, _, _, _⟩) (v := ?_) rfl (by kernel_rfl) (by kernel_rfl) (by kernel_rfl) (fun _ _ _ h => h) (Or.inl ⟨by rfl, ?_⟩) (by assumption) ?_
    rotate_left
    · intro wS hSw
      try dsimp only at hSw
      go_simp
      try with_reducible rfl
    try simp only [Act.put, List.setIfInBounds_toArray, List.set_cons_zero, List.set_cons_succ]
    refine wpAnyH_take (i := 3) (oi := ⟨_, _, _, _, _, _⟩) (v := ?_) rfl (by kernel_rfl) (by kernel_rfl) (by kernel_rfl) (fun _ _ _ h => h) (Or.inl ⟨by rfl, ?_⟩) (by assumption) ?_
    rotate_left
    · intro wS hSw
      try dsimp only at hSw
      go_simp
      try with_reducible rfl
    try simp only [Act.put, List.setIfInBounds_toArray, List.set_cons_zero, List.set_cons_succ]
    refine wpAnyH_take (i := 4) (oi := ⟨_, _, _, _, _, _⟩) (v := ?_) rfl (by kernel_rfl) (by kernel_rfl) (by kernel_rfl) (fun _ _ _ h => h) (Or.inl ⟨by rfl, ?_⟩) (by assumption) ?_
    rotate_left
    · intro wS hSw
      try dsimp only at hSw
      go_simp
      try with_reducible rfl
    try simp only [Act.put, List.setIfInBounds_toArray, List.set_cons_zero, List.set_cons_succ]
    refine wpAnyH_take (i := 5) (oi := ⟨_, _, _, _, _, _⟩) rfl (by kernel_rfl) (by kernel_rfl) (by kernel_rfl) (fun _ _ _ h => h) (yieldsIf_load_mid (by rfl) 35 _ rfl bb (off + p * 17) rfl (blockA q' bv).toList _ (fun w' hw' => hw'.2.2.2.2.2.2.out) Try.underlying35 rfl (by kernel_rfl)) (by assumption) ?_
    try simp only [Act.put, List.setIfInBounds_toArray, List.set_cons_zero, List.set_cons_succ]
    refine wpAnyH_take (i := 6) (oi := ⟨_, _, _, _, _, _⟩) (v := ?_) rfl (by kernel_rfl) (by kernel_rfl) (by kernel_rfl) (fun _ _ _ h => h) (Or.inl ⟨by rfl, ?_⟩) (by assumption) ?_
    rotate_left
    · intro wS hSw
      try dsimp only at hSw
      go_simp
      try with_reducible rfl
    try simp only [Act.put, List.setIfInBounds_toArray, List.set_cons_zero, List.set_cons_succ]
    have F0 : Fr [w.heap.size + 2, w.heap.size + 3] w2 w2.drew := Fr.of_below (Below.refl _ _).drew
    have FA := F0.trans (Fr.row (S := [w.heap.size + 2, w.heap.size + 3]) (w := w2.drew) (w.heap.size + 2) (#[.int .i64 M.A, .int .i64 M.T, .slice d.h1.a M.L.length d.h1.c, .slice (some ⟨bb, off, none⟩) M.B.length d.h2.c, .slice d.h3.a M.R.length d.h3.c]) (by simp))
    have FAB := FA.trans (Fr.row (S := [w.heap.size + 2, w.heap.size + 3]) (w.heap.size + 3) (repA q' ⟨true, 0, 0, bv, opZ⟩) (by simp))
    have MA := Blk.row BM.drew (#[.int .i64 M.A, .int .i64 M.T, .slice d.h1.a M.L.length d.h1.c, .slice (some ⟨bb, off, none⟩) M.B.length d.h2.c, .slice d.h3.a M.R.length d.h3.c])
    have RA := (Fr.row (S := [w.heap.size + 2]) (w := w2.drew) (w.heap.size + 2) (#[.int .i64 M.A, .int .i64 M.T, .slice d.h1.a M.L.length d.h1.c, .slice (some ⟨bb, off, none⟩) M.B.length d.h2.c, .slice d.h3.a M.R.length d.h3.c]) (by simp)).blk BR.drew (by simp)
    have RAB := Blk.row RA (repA q' ⟨true, 0, 0, bv, opZ⟩)
    have MAB := (Fr.row (S := [w.heap.size + 3]) (w.heap.size + 3) (repA q' ⟨true, 0, 0, bv, opZ⟩) (by simp)).blk MA (by simp)
    refine wpAnyH_ready (rs := [7]) (by kernel_rfl) (by simp) ?_
    refine AllReadyH.cons rfl (fun K hK => ?_) AllReadyH.nil
    rw [if_pos (by rfl)]
    refine wp_store_row 69 _ _ rfl (w.heap.size + 2) _ rfl rfl 69 _ (BM.drew).h (by kernel_rfl) (by rfl) (by kernel_rfl) ?_
    refine hK.out _ _ (hS _ (FA)) (fun hHeld => ?_)
    clear hK K
    refine wpAnyH_ready (rs := [8]) (by kernel_rfl) (by simp) ?_
    refine AllReadyH.cons rfl (fun K hK => ?_) AllReadyH.nil
    rw [if_pos (by rfl)]
    refine wp_store_row 50 _ _ rfl (w.heap.size + 3) _ rfl rfl 50 _ (RA).h (by kernel_rfl) (by rfl) (by kernel_rfl) ?_
    refine hK.out _ _ (hS _ (FAB)) (fun hHeld => ?_)
    clear hK K
    have FF := FAB
    refine wpAnyH_done (by kernel_rfl) ?_ _
    go_wp2_with fail
    refine bodyPost_ret (res_cc rfl _ _ (w.heap.size + 2) 69 (#[.int .i64 M.A, .int .i64 M.T, .slice d.h1.a M.L.length d.h1.c, .slice (some ⟨bb, off, none⟩) M.B.length d.h2.c, .slice d.h3.a M.R.length d.h3.c]) (0, 0) _ (w.heap.size + 3) 50 (repA q' ⟨true, 0, 0, bv, opZ⟩) (0, 0) _ rfl (MAB).h Try.underlying69 rfl (by kernel_rfl) rfl (RAB).h Try.underlying50 rfl (by kernel_rfl)) rfl ?_
    exact hfin _ FF
  by_cases i1 : (M.L.length : Int) ≤ i
  · have i0' : 0 ≤ i := by omega
    have i2' : (M.T : Int) ≤ i := by omega
    have j1 : decide (i < (M.L.length : Int)) = false := by simp; omega
    have j2 : decide (i < (M.T : Int)) = false := by simp; omega
    have hB : Below w.heap.size w ((((w.alloc (.cells (dmX M d) 69)).alloc (.cells (acc26 q ⟨4, i, ver, word, b, x⟩).toArray 39)).alloc (.cells #[.int .i64 0, .int .i64 0, .slice none 0 0, .slice none 0 0, .slice none 0 0] 69)).alloc (.cells #[.bool false, .int .u64 0, .int .u64 0, .int .i64 0, .int .i64 0, .string ⟨#[]⟩, .string ⟨#[]⟩, .bool false, .int .i64 0, .slice none 0 0, .slice none 0 0, .slice none 0 0, .int .i64 0, .int .i64 0, .string ⟨#[]⟩, .int .u64 0, .slice none 0 0, .slice none 0 0, .slice none 0 0, .slice none 0 0, .int .i64 0, .string ⟨#[]⟩, .string ⟨#[]⟩, .int .u64 0, .int .i64 0] 50)) := by (repeat (first | exact Below.refl _ _ | assumption | refine below_alloc2 ?_ (by first | exact Nat.le_refl _ | omega) _ | refine Below.drew ?_ | refine below_drewN ?_ _ | refine below_push2 ?_ ‹_› (by first | exact Nat.le_refl _ | omega) | refine Below.setCell ?_ (by first | (simp; done) | (simp; omega) | omega) _))
    have BX := (((Blk.new w (dmX M d) 69).alloc (.cells (acc26 q ⟨4, i, ver, word, b, x⟩).toArray 39)).alloc (.cells #[.int .i64 0, .int .i64 0, .slice none 0 0, .slice none 0 0, .slice none 0 0] 69)).alloc (.cells #[.bool false, .int .u64 0, .int .u64 0, .int .i64 0, .int .i64 0, .string ⟨#[]⟩, .string ⟨#[]⟩, .bool false, .int .i64 0, .slice none 0 0, .slice none 0 0, .slice none 0 0, .int .i64 0, .int .i64 0, .string ⟨#[]⟩, .int .u64 0, .slice none 0 0, .slice none 0 0, .slice none 0 0, .slice none 0 0, .int .i64 0, .string ⟨#[]⟩, .string ⟨#[]⟩, .int .u64 0, .int .i64 0] 50)
    have BA : Blk ((((w.alloc (.cells (dmX M d) 69)).alloc (.cells (acc26 q ⟨4, i, ver, word, b, x⟩).toArray 39)).alloc (.cells #[.int .i64 0, .int .i64 0, .slice none 0 0, .slice none 0 0, .slice none 0 0] 69)).alloc (.cells #[.bool false, .int .u64 0, .int .u64 0, .int .i64 0, .int .i64 0, .string ⟨#[]⟩, .string ⟨#[]⟩, .bool false, .int .i64 0, .slice none 0 0, .slice none 0 0, .slice none 0 0, .int .i64 0, .int .i64 0, .string ⟨#[]⟩, .int .u64 0, .slice none 0 0, .slice none 0 0, .slice none 0 0, .slice none 0 0, .int .i64 0, .string ⟨#[]⟩, .string ⟨#[]⟩, .int .u64 0, .int .i64 0] 50)) (w.heap.size + 1) (acc26 q ⟨4, i, ver, word, b, x⟩).toArray 39 := by
      have := ((Blk.new (w.alloc (.cells (dmX M d) 69)) (acc26 q ⟨4, i, ver, word, b, x⟩).toArray 39).alloc (.cells #[.int .i64 0, .int .i64 0, .slice none 0 0, .slice none 0 0, .slice none 0 0] 69)).alloc (.cells #[.bool false, .int .u64 0, .int .u64 0, .int .i64 0, .int .i64 0, .string ⟨#[]⟩, .string ⟨#[]⟩, .bool false, .int .i64 0, .slice none 0 0, .slice none 0 0, .slice none 0 0, .int .i64 0, .int .i64 0, .string ⟨#[]⟩, .int .u64 0, .slice none 0 0, .slice none 0 0, .slice none 0 0, .slice none 0 0, .int .i64 0, .string ⟨#[]⟩, .string ⟨#[]⟩, .int .u64 0, .int .i64 0] 50)
      simpa using this
    have BM : Blk ((((w.alloc (.cells (dmX M d) 69)).alloc (.cells (acc26 q ⟨4, i, ver, word, b, x⟩).toArray 39)).alloc (.cells #[.int .i64 0, .int .i64 0, .slice none 0 0, .slice none 0 0, .slice none 0 0] 69)).alloc (.cells #[.bool false, .int .u64 0, .int .u64 0, .int .i64 0, .int .i64 0, .string ⟨#[]⟩, .string ⟨#[]⟩, .bool false, .int .i64 0, .slice none 0 0, .slice none 0 0, .slice none 0 0, .int .i64 0, .int .i64 0, .string ⟨#[]⟩, .int .u64 0, .slice none 0 0, .slice none 0 0, .slice none 0 0, .slice none 0 0, .int .i64 0, .string ⟨#[]⟩, .string ⟨#[]⟩, .int .u64 0, .int .i64 0] 50)) (w.heap.size + 2) #[.int .i64 0, .int .i64 0, .slice none 0 0, .slice none 0 0, .slice none 0 0] 69 := by
      have := (Blk.new ((w.alloc (.cells (dmX M d) 69)).alloc (.cells (acc26 q ⟨4, i, ver, word, b, x⟩).toArray 39)) #[.int .i64 0, .int .i64 0, .slice none 0 0, .slice none 0 0, .slice none 0 0] 69).alloc (.cells #[.bool false, .int .u64 0, .int .u64 0, .int .i64 0, .int .i64 0, .string ⟨#[]⟩, .string ⟨#[]⟩, .bool false, .int .i64 0, .slice none 0 0, .slice none 0 0, .slice none 0 0, .int .i64 0, .int .i64 0, .string ⟨#[]⟩, .int .u64 0, .slice none 0 0, .slice none 0 0, .slice none 0 0, .slice none 0 0, .int .i64 0, .string ⟨#[]⟩, .string ⟨#[]⟩, .int .u64 0, .int .i64 0] 50)
      simpa using this
    have BR : Blk ((((w.alloc (.cells (dmX M d) 69)).alloc (.cells (acc26 q ⟨4, i, ver, word, b, x⟩).toArray 39)).alloc (.cells #[.int .i64 0, .int .i64 0, .slice none 0 0, .slice none 0 0, .slice none 0 0] 69)).alloc (.cells #[.bool false, .int .u64 0, .int .u64 0, .int .i64 0, .int .i64 0, .string ⟨#[]⟩, .string ⟨#[]⟩, .bool false, .int .i64 0, .slice none 0 0, .slice none 0 0, .slice none 0 0, .int .i64 0, .int .i64 0, .string ⟨#[]⟩, .int .u64 0, .slice none 0 0, .slice none 0 0, .slice none 0 0, .slice none 0 0, .int .i64 0, .string ⟨#[]⟩, .string ⟨#[]⟩, .int .u64 0, .int .i64 0] 50)) (w.heap.size + 3) #[.bool false, .int .u64 0, .int .u64 0, .int .i64 0, .int .i64 0, .string ⟨#[]⟩, .string ⟨#[]⟩, .bool false, .int .i64 0, .slice none 0 0, .slice none 0 0, .slice none 0 0, .int .i64 0, .int .i64 0, .string ⟨#[]⟩, .int .u64 0, .slice none 0 0, .slice none 0 0, .slice none 0 0, .slice none 0 0, .int .i64 0, .string ⟨#[]⟩, .string ⟨#[]⟩, .int .u64 0, .int .i64 0] 50 := by
      have := Blk.new (((w.alloc (.cells (dmX M d) 69)).alloc (.cells (acc26 q ⟨4, i, ver, word, b, x⟩).toArray 39)).alloc (.cells #[.int .i64 0, .int .i64 0, .slice none 0 0, .slice none 0 0, .slice none 0 0] 69)) #[.bool false, .int .u64 0, .int .u64 0, .int .i64 0, .int .i64 0, .string ⟨#[]⟩, .string ⟨#[]⟩, .bool false, .int .i64 0, .slice none 0 0, .slice none 0 0, .slice none 0 0, .int .i64 0, .int .i64 0, .string ⟨#[]⟩, .int .u64 0, .slice none 0 0, .slice none 0 0, .slice none 0 0, .slice none 0 0, .int .i64 0, .string ⟨#[]⟩, .string ⟨#[]⟩, .int .u64 0, .int .i64 0] 50
      simpa using this
    go_enter Try.func30, Try.ntmps30
    go_upto_region 1 with (fail)
    generalize ((((w.alloc (.cells (dmX M d) 69)).alloc (.cells (acc26 q ⟨4, i, ver, word, b, x⟩).toArray 39)).alloc (.cells #[.int .i64 0, .int .i64 0, .slice none 0 0, .slice none 0 0, .slice none 0 0] 69)).alloc (.cells #[.bool false, .int .u64 0, .int .u64 0, .int .i64 0, .int .i64 0, .string ⟨#[]⟩, .string ⟨#[]⟩, .bool false, .int .i64 0, .slice none 0 0, .slice none 0 0, .slice none 0 0, .int .i64 0, .int .i64 0, .string ⟨#[]⟩, .int .u64 0, .slice none 0 0, .slice none 0 0, .slice none 0 0, .slice none 0 0, .int .i64 0, .string ⟨#[]⟩, .string ⟨#[]⟩, .int .u64 0, .int .i64 0] 50)) = w1 at hB BX BA BM BR ⊢
    have h1 := h.below hB
    have c0 : w1.cell? ⟨w.heap.size, 0, none⟩ = some (.int .i64 M.A) := BX.at 0 rfl
    have c1 : w1.cell? ⟨w.heap.size, 1, none⟩ = some (.int .i64 M.T) := BX.at 1 rfl
    have c2 : w1.cell? ⟨w.heap.size, 2, none⟩ = some (.slice d.h1.a M.L.length d.h1.c) := BX.at 2 rfl
    have c3 : w1.cell? ⟨w.heap.size, 3, none⟩ = some (.slice d.h2.a M.B.length d.h2.c) := BX.at 3 rfl
    have c4 : w1.cell? ⟨w.heap.size, 4, none⟩ = some (.slice d.h3.a M.R.length d.h3.c) := BX.at 4 rfl
    have a0 : w1.cell? ⟨w.heap.size + 1, 0, none⟩ = some (.int .i64 4) := BA.at 0 rfl
    have a1 : w1.cell? ⟨w.heap.size + 1, 1, none⟩ = some (.int .i64 i) := BA.at 1 rfl
    have a2 : w1.cell? ⟨w.heap.size + 1, 2, none⟩ = some (.int .u64 ver) := BA.at 2 rfl
    have a3 : w1.cell? ⟨w.heap.size + 1, 3, none⟩ = some (.int .u64 word) := BA.at 3 rfl
    go_wp2_with (refine wpList_load_row rfl 69 _ rfl w.heap.size rfl 69 _ (0, 0) _ (BX).h Try.underlying69 rfl (by kernel_rfl) ?_)
    refine (dnamed_any M d word w1 h1 hW.1 hW.2).mono ?_
    rintro e w2 ⟨rfl, hb2⟩
    rw [hN1, hp]
    replace hB := below_push2 hB hb2 (Nat.le_refl _)
    replace BX := BX.below hb2
    replace BA := BA.below hb2
    replace BM := BM.below hb2
    replace BR := BR.below hb2
    clear h1 hb2 c0 c1 c2 c3 c4 a0 a1 a2 a3
    have c0 : w2.cell? ⟨w.heap.size, 0, none⟩ = some (.int .i64 M.A) := BX.at 0 rfl
    have c1 : w2.cell? ⟨w.heap.size, 1, none⟩ = some (.int .i64 M.T) := BX.at 1 rfl
    have c2 : w2.cell? ⟨w.heap.size, 2, none⟩ = some (.slice d.h1.a M.L.length d.h1.c) := BX.at 2 rfl
    have c3 : w2.cell? ⟨w.heap.size, 3, none⟩ = some (.slice d.h2.a M.B.length d.h2.c) := BX.at 3 rfl
    have c4 : w2.cell? ⟨w.heap.size, 4, none⟩ = some (.slice d.h3.a M.R.length d.h3.c) := BX.at 4 rfl
    have a1 : w2.cell? ⟨w.heap.size + 1, 1, none⟩ = some (.int .i64 i) := BA.at 1 rfl
    have hs0 : w.heap.size < w2.heap.size := BX.lt
    have hs1 : w.heap.size + 1 < w2.heap.size := BA.lt
    obtain ⟨bb, off, q', ha, hbb, _, hrg0, hok⟩ := h.block p hpA
    have hbl : bb < w2.heap.size := Nat.lt_of_lt_of_le hbb hB.size
    have hrg := (Fr.of_below (S := []) hB).range hrg0 hbb (by simp)
    clear hrg0
    rw [ha] at c3
    have hR : repV M ⟨4, i, ver, word, b, x⟩ = ⟨true, 0, 0, M.B.getD p blockZ, opZ⟩ := by simp [repV, hN, hN2]
    generalize M.B.getD p blockZ = bv at hrg hok hR
    have hS : ∀ w', Fr [w.heap.size + 2, w.heap.size + 3] w2 w' → w'.cell? ⟨w.heap.size, 0, none⟩ = some (.int .i64 M.A) ∧ w'.cell? ⟨w.heap.size, 1, none⟩ = some (.int .i64 M.T) ∧ w'.cell? ⟨w.heap.size, 2, none⟩ = some (.slice d.h1.a M.L.length d.h1.c) ∧ w'.cell? ⟨w.heap.size, 3, none⟩ = some (.slice (some ⟨bb, off, none⟩) M.B.length d.h2.c) ∧ w'.cell? ⟨w.heap.size, 4, none⟩ = some (.slice d.h3.a M.R.length d.h3.c) ∧ w'.cell? ⟨w.heap.size + 1, 1, none⟩ = some (.int .i64 i) ∧ Hid (w'.rangeAt bb (off + p * 17) (blockA q' bv).toList) := fun w' F =>
      ⟨((F.keeps.cell (p := ⟨w.heap.size, 0, none⟩) hs0 (by simp)).trans c0), ((F.keeps.cell (p := ⟨w.heap.size, 1, none⟩) hs0 (by simp)).trans c1), ((F.keeps.cell (p := ⟨w.heap.size, 2, none⟩) hs0 (by simp)).trans c2), ((F.keeps.cell (p := ⟨w.heap.size, 3, none⟩) hs0 (by simp)).trans c3), ((F.keeps.cell (p := ⟨w.heap.size, 4, none⟩) hs0 (by simp)).trans c4), ((F.keeps.cell (p := ⟨w.heap.size + 1, 1, none⟩) hs1 (by simp)).trans a1), Lib.hid (F.range hrg hbl (by simp; omega))⟩
    have hD : doV M ⟨4, i, ver, word, b, x⟩ = M := by simp [doV]
    have hfin : ∀ w', Fr [w.heap.size + 2, w.heap.size + 3] w2 w' → DidD w S M ⟨4, i, ver, word, b, x⟩ (.returned (.tuple #[.agg #[.int .i64 M.A, .int .i64 M.T, .slice d.h1.a M.L.length d.h1.c, .slice (some ⟨bb, off, none⟩) M.B.length d.h2.c, .slice d.h3.a M.R.length d.h3.c], .agg (repA q' ⟨true, 0, 0, bv, opZ⟩)])) w' := fun w' F => by
      have hb' := F.below hB (Nat.le_refl _) (by simp)
      refine ⟨d, q', ?_, ?_, ?_, hb'⟩
      · rw [hR, hD]; simp [ha]
      · rw [hD]; exact h.below hb'
      · rw [hR]; exact hok.keep (Keeps.of_below hb')
    have kk : (p : Int) < (M.B.length : Int) := by have := h.lb; omega
    go_upto_region 17 with (fail)
    clear h hR hD hN hN1 hN2
    refine wp_region_held_drew (S := fun w' => w'.cell? ⟨w.heap.size, 0, none⟩ = some (.int .i64 M.A) ∧ w'.cell? ⟨w.heap.size, 1, none⟩ = some (.int .i64 M.T) ∧ w'.cell? ⟨w.heap.size, 2, none⟩ = some (.slice d.h1.a M.L.length d.h1.c) ∧ w'.cell? ⟨w.heap.size, 3, none⟩ = some (.slice (some ⟨bb, off, none⟩) M.B.length d.h2.c) ∧ w'.cell? ⟨w.heap.size, 4, none⟩ = some (.slice d.h3.a M.R.length d.h3.c) ∧ w'.cell? ⟨w.heap.size + 1, 1, none⟩ = some (.int .i64 i) ∧ Hid (w'.rangeAt bb (off + p * 17) (blockA q' bv).toList)) (by kernel_rfl) (hS _ (Fr.of_below (Below.refl _ _).drew)) (fun hHeld => ?_)
    clear c0 c1 c2 c3 c4 a1
    refine wpAnyH_take (i := 0) (oi := ⟨_, _, _, _, _, _⟩) (v := ?_) rfl (by kernel_rfl) (by kernel_rfl) (by kernel_rfl) (fun _ _ _ h => h) (Or.inl ⟨by rfl, ?_⟩) (by assumption) ?_
    rotate_left
    · intro wS hSw
      try dsimp only at hSw
      go_simp
      try with_reducible rfl
    try simp only [Act.put, List.setIfInBounds_toArray, List.set_cons_zero, List.set_cons_succ]
    refine wpAnyH_take (i := 1) (oi := ⟨_, _, _, _, _, _⟩) (v := ?_) rfl (by kernel_rfl) (by kernel_rfl) (by kernel_rfl) (fun _ _ _ h => h) (Or.inl ⟨by rfl, ?_⟩) (by assumption) ?_
    rotate_left
    · intro wS hSw
      try dsimp only at hSw
      go_simp
      try with_reducible rfl
    try simp only [Act.put, List.setIfInBounds_toArray, List.set_cons_zero, List.set_cons_succ]
    refine wpAnyH_take (i := 2) (oi := ⟨_, _, _, _, _, _⟩) (v := ?_) rfl (by kernel_rfl) (by kernel_rfl) (by kernel_rfl) (fun _ _ _ h => h) (Or.inl ⟨by rfl, ?_⟩) (by assumption) ?_
    rotate_left
    · intro wS hSw
      try dsimp only at hSw
      go_simp
      try with_reducible rfl
    try simp only [Act.put, List.setIfInBounds_toArray, List.set_cons_zero, List.set_cons_succ]
    refine wpAnyH_take (i := 3) (oi := ⟨_, _, _, _, _, _⟩) (v := ?_) rfl (by kernel_rfl) (by kernel_rfl) (by kernel_rfl) (fun _ _ _ h => h) (Or.inl ⟨by rfl, ?_⟩) (by assumption) ?_
    rotate_left
    · intro wS hSw
      try dsimp only at hSw
      go_simp
      try with_reducible rfl
    try simp only [Act.put, List.setIfInBounds_toArray, List.set_cons_zero, List.set_cons_succ]
    refine wpAnyH_take (i := 4) (oi := ⟨_, _, _, _, _, _⟩) (v := ?_) rfl (by kernel_rfl) (by kernel_rfl) (by kernel_rfl) (fun _ _ _ h => h) (Or.inl ⟨by rfl, ?_⟩) (by assumption) ?_
    rotate_left
    · intro wS hSw
      try dsimp only at hSw
      go_simp
      try with_reducible rfl
    try simp only [Act.put, List.setIfInBounds_toArray, List.set_cons_zero, List.set_cons_succ]
    refine wpAnyH_take (i := 5) (oi := ⟨_, _, _, _, _, _⟩) rfl (by kernel_rfl) (by kernel_rfl) (by kernel_rfl) (fun _ _ _ h => h) (yieldsIf_load_mid (by rfl) 35 _ rfl bb (off + p * 17) rfl (blockA q' bv).toList _ (fun w' hw' => hw'.2.2.2.2.2.2.out) Try.underlying35 rfl (by kernel_rfl)) (by assumption) ?_
    try simp only [Act.put, List.setIfInBounds_toArray, List.set_cons_zero, List.set_cons_succ]
    refine wpAnyH_take (i := 6) (oi := ⟨_, _, _, _, _, _⟩) (v := ?_) rfl (by kernel_rfl) (by kernel_rfl) (by kernel_rfl) (fun _ _ _ h => h) (Or.inl ⟨by rfl, ?_⟩) (by assumption) ?_
    rotate_left
    · intro wS hSw
      try dsimp only at hSw
      go_simp
      try with_reducible rfl
    try simp only [Act.put, List.setIfInBounds_toArray, List.set_cons_zero, List.set_cons_succ]
    have F0 : Fr [w.heap.size + 2, w.heap.size + 3] w2 w2.drew := Fr.of_below (Below.refl _ _).drew
    have FA := F0.trans (Fr.row (S := [w.heap.size + 2, w.heap.size + 3]) (w := w2.drew) (w.heap.size + 2) (#[.int .i64 M.A, .int .i64 M.T, .slice d.h1.a M.L.length d.h1.c, .slice (some ⟨bb, off, none⟩) M.B.length d.h2.c, .slice d.h3.a M.R.length d.h3.c]) (by simp))
    have FAB := FA.trans (Fr.row (S := [w.heap.size + 2, w.heap.size + 3]) (w.heap.size + 3) (repA q' ⟨true, 0, 0, bv, opZ⟩) (by simp))
    have MA := Blk.row BM.drew (#[.int .i64 M.A, .int .i64 M.T, .slice d.h1.a M.L.length d.h1.c, .slice (some ⟨bb, off, none⟩) M.B.length d.h2.c, .slice d.h3.a M.R.length d.h3.c])
    have RA := (Fr.row (S := [w.heap.size + 2]) (w := w2.drew) (w.heap.size + 2) (#[.int .i64 M.A, .int .i64 M.T, .slice d.h1.a M.L.length d.h1.c, .slice (some ⟨bb, off, none⟩) M.B.length d.h2.c, .slice d.h3.a M.R.length d.h3.c]) (by simp)).blk BR.drew (by simp)
    have RAB := Blk.row RA (repA q' ⟨true, 0, 0, bv, opZ⟩)
    have MAB := (Fr.row (S := [w.heap.size + 3]) (w.heap.size + 3) (repA q' ⟨true, 0, 0, bv, opZ⟩) (by simp)).blk MA (by simp)
    refine wpAnyH_ready (rs := [7]) (by kernel_rfl) (by simp) ?_
    refine AllReadyH.cons rfl (fun K hK => ?_) AllReadyH.nil
    rw [if_pos (by rfl)]
    refine wp_store_row 69 _ _ rfl (w.heap.size + 2) _ rfl rfl 69 _ (BM.drew).h (by kernel_rfl) (by rfl) (by kernel_rfl) ?_
    refine hK.out _ _ (hS _ (FA)) (fun hHeld => ?_)
    clear hK K
    refine wpAnyH_ready (rs := [8]) (by kernel_rfl) (by simp) ?_
    refine AllReadyH.cons rfl (fun K hK => ?_) AllReadyH.nil
    rw [if_pos (by rfl)]
    refine wp_store_row 50 _ _ rfl (w.heap.size + 3) _ rfl rfl 50 _ (RA).h (by kernel_rfl) (by rfl) (by kernel_rfl) ?_
    refine hK.out _ _ (hS _ (FAB)) (fun hHeld => ?_)
    clear hK K
    have FF := FAB
    refine wpAnyH_done (by kernel_rfl) ?_ _
    go_wp2_with fail
    refine bodyPost_ret (res_cc rfl _ _ (w.heap.size + 2) 69 (#[.int .i64 M.A, .int .i64 M.T, .slice d.h1.a M.L.length d.h1.c, .slice (some ⟨bb, off, none⟩) M.B.length d.h2.c, .slice d.h3.a M.R.length d.h3.c]) (0, 0) _ (w.heap.size + 3) 50 (repA q' ⟨true, 0, 0, bv, opZ⟩) (0, 0) _ rfl (MAB).h Try.underlying69 rfl (by kernel_rfl) rfl (RAB).h Try.underlying50 rfl (by kernel_rfl)) rfl ?_
    exact hfin _ FF
  by_cases i2 : (M.T : Int) ≤ i
  · have i0' : 0 ≤ i := by omega
    have i1' : i < (M.L.length : Int) := by omega
    have j1 : decide (i < (M.L.length : Int)) = true := by simp; omega
    have j2 : decide (i < (M.T : Int)) = false := by simp; omega
    have hB : Below w.heap.size w ((((w.alloc (.cells (dmX M d) 69)).alloc (.cells (acc26 q ⟨4, i, ver, word, b, x⟩).toArray 39)).alloc (.cells #[.int .i64 0, .int .i64 0, .slice none 0 0, .slice none 0 0, .slice none 0 0] 69)).alloc (.cells #[.bool false, .int .u64 0, .int .u64 0, .int .i64 0, .int .i64 0, .string ⟨#[]⟩, .string ⟨#[]⟩, .bool false, .int .i64 0, .slice none 0 0, .slice none 0 0, .slice none 0 0, .int .i64 0, .int .i64 0, .string ⟨#[]⟩, .int .u64 0, .slice none 0 0, .slice none 0 0, .slice none 0 0, .slice none 0 0, .int .i64 0, .string ⟨#[]⟩, .string ⟨#[]⟩, .int .u64 0, .int .i64 0] 50)) := by (repeat (first | exact Below.refl _ _ | assumption | refine below_alloc2 ?_ (by first | exact Nat.le_refl _ | omega) _ | refine Below.drew ?_ | refine below_drewN ?_ _ | refine below_push2 ?_ ‹_› (by first | exact Nat.le_refl _ | omega) | refine Below.setCell ?_ (by first | (simp; done) | (simp; omega) | omega) _))
    have BX := (((Blk.new w (dmX M d) 69).alloc (.cells (acc26 q ⟨4, i, ver, word, b, x⟩).toArray 39)).alloc (.cells #[.int .i64 0, .int .i64 0, .slice none 0 0, .slice none 0 0, .slice none 0 0] 69)).alloc (.cells #[.bool false, .int .u64 0, .int .u64 0, .int .i64 0, .int .i64 0, .string ⟨#[]⟩, .string ⟨#[]⟩, .bool false, .int .i64 0, .slice none 0 0, .slice none 0 0, .slice none 0 0, .int .i64 0, .int .i64 0, .string ⟨#[]⟩, .int .u64 0, .slice none 0 0, .slice none 0 0, .slice none 0 0, .slice none 0 0, .int .i64 0, .string ⟨#[]⟩, .string ⟨#[]⟩, .int .u64 0, .int .i64 0] 50)
    have BA : Blk ((((w.alloc (.cells (dmX M d) 69)).alloc (.cells (acc26 q ⟨4, i, ver, word, b, x⟩).toArray 39)).alloc (.cells #[.int .i64 0, .int .i64 0, .slice none 0 0, .slice none 0 0, .slice none 0 0] 69)).alloc (.cells #[.bool false, .int .u64 0, .int .u64 0, .int .i64 0, .int .i64 0, .string ⟨#[]⟩, .string ⟨#[]⟩, .bool false, .int .i64 0, .slice none 0 0, .slice none 0 0, .slice none 0 0, .int .i64 0, .int .i64 0, .string ⟨#[]⟩, .int .u64 0, .slice none 0 0, .slice none 0 0, .slice none 0 0, .slice none 0 0, .int .i64 0, .string ⟨#[]⟩, .string ⟨#[]⟩, .int .u64 0, .int .i64 0] 50)) (w.heap.size + 1) (acc26 q ⟨4, i, ver, word, b, x⟩).toArray 39 := by
      have := ((Blk.new (w.alloc (.cells (dmX M d) 69)) (acc26 q ⟨4, i, ver, word, b, x⟩).toArray 39).alloc (.cells #[.int .i64 0, .int .i64 0, .slice none 0 0, .slice none 0 0, .slice none 0 0] 69)).alloc (.cells #[.bool false, .int .u64 0, .int .u64 0, .int .i64 0, .int .i64 0, .string ⟨#[]⟩, .string ⟨#[]⟩, .bool false, .int .i64 0, .slice none 0 0, .slice none 0 0, .slice none 0 0, .int .i64 0, .int .i64 0, .string ⟨#[]⟩, .int .u64 0, .slice none 0 0, .slice none 0 0, .slice none 0 0, .slice none 0 0, .int .i64 0, .string ⟨#[]⟩, .string ⟨#[]⟩, .int .u64 0, .int .i64 0] 50)
      simpa using this
    have BM : Blk ((((w.alloc (.cells (dmX M d) 69)).alloc (.cells (acc26 q ⟨4, i, ver, word, b, x⟩).toArray 39)).alloc (.cells #[.int .i64 0, .int .i64 0, .slice none 0 0, .slice none 0 0, .slice none 0 0] 69)).alloc (.cells #[.bool false, .int .u64 0, .int .u64 0, .int .i64 0, .int .i64 0, .string ⟨#[]⟩, .string ⟨#[]⟩, .bool false, .int .i64 0, .slice none 0 0, .slice none 0 0, .slice none 0 0, .int .i64 0, .int .i64 0, .string ⟨#[]⟩, .int .u64 0, .slice none 0 0, .slice none 0 0, .slice none 0 0, .slice none 0 0, .int .i64 0, .string ⟨#[]⟩, .string ⟨#[]⟩, .int .u64 0, .int .i64 0] 50)) (w.heap.size + 2) #[.int .i64 0, .int .i64 0, .slice none 0 0, .slice none 0 0, .slice none 0 0] 69 := by
      have := (Blk.new ((w.alloc (.cells (dmX M d) 69)).alloc (.cells (acc26 q ⟨4, i, ver, word, b, x⟩).toArray 39)) #[.int .i64 0, .int .i64 0, .slice none 0 0, .slice none 0 0, .slice none 0 0] 69).alloc (.cells #[.bool false, .int .u64 0, .int .u64 0, .int .i64 0, .int .i64 0, .string ⟨#[]⟩, .string ⟨#[]⟩, .bool false, .int .i64 0, .slice none 0 0, .slice none 0 0, .slice none 0 0, .int .i64 0, .int .i64 0, .string ⟨#[]⟩, .int .u64 0, .slice none 0 0, .slice none 0 0, .slice none 0 0, .slice none 0 0, .int .i64 0, .string ⟨#[]⟩, .string ⟨#[]⟩, .int .u64 0, .int .i64 0] 50)
      simpa using this
    have BR : Blk ((((w.alloc (.cells (dmX M d) 69)).alloc (.cells (acc26 q ⟨4, i, ver, word, b, x⟩).toArray 39)).alloc (.cells #[.int .i64 0, .int .i64 0, .slice none 0 0, .slice none 0 0, .slice none 0 0] 69)).alloc (.cells #[.bool false, .int .u64 0, .int .u64 0, .int .i64 0, .int .i64 0, .string ⟨#[]⟩, .string ⟨#[]⟩, .bool false, .int .i64 0, .slice none 0 0, .slice none 0 0, .slice none 0 0, .int .i64 0, .int .i64 0, .string ⟨#[]⟩, .int .u64 0, .slice none 0 0, .slice none 0 0, .slice none 0 0, .slice none 0 0, .int .i64 0, .string ⟨#[]⟩, .string ⟨#[]⟩, .int .u64 0, .int .i64 0] 50)) (w.heap.size + 3) #[.bool false, .int .u64 0, .int .u64 0, .int .i64 0, .int .i64 0, .string ⟨#[]⟩, .string ⟨#[]⟩, .bool false, .int .i64 0, .slice none 0 0, .slice none 0 0, .slice none 0 0, .int .i64 0, .int .i64 0, .string ⟨#[]⟩, .int .u64 0, .slice none 0 0, .slice none 0 0, .slice none 0 0, .slice none 0 0, .int .i64 0, .string ⟨#[]⟩, .string ⟨#[]⟩, .int .u64 0, .int .i64 0] 50 := by
      have := Blk.new (((w.alloc (.cells (dmX M d) 69)).alloc (.cells (acc26 q ⟨4, i, ver, word, b, x⟩).toArray 39)).alloc (.cells #[.int .i64 0, .int .i64 0, .slice none 0 0, .slice none 0 0, .slice none 0 0] 69)) #[.bool false, .int .u64 0, .int .u64 0, .int .i64 0, .int .i64 0, .string ⟨#[]⟩, .string ⟨#[]⟩, .bool false, .int .i64 0, .slice none 0 0, .slice none 0 0, .slice none 0 0, .int .i64 0, .int .i64 0, .string ⟨#[]⟩, .int .u64 0, .slice none 0 0, .slice none 0 0, .slice none 0 0, .slice none 0 0, .int .i64 0, .string ⟨#[]⟩, .string ⟨#[]⟩, .int .u64 0, .int .i64 0] 50
      simpa using this
    go_enter Try.func30, Try.ntmps30
    go_upto_region 1 with (fail)
    generalize ((((w.alloc (.cells (dmX M d) 69)).alloc (.cells (acc26 q ⟨4, i, ver, word, b, x⟩).toArray 39)).alloc (.cells #[.int .i64 0, .int .i64 0, .slice none 0 0, .slice none 0 0, .slice none 0 0] 69)).alloc (.cells #[.bool false, .int .u64 0, .int .u64 0, .int .i64 0, .int .i64 0, .string ⟨#[]⟩, .string ⟨#[]⟩, .bool false, .int .i64 0, .slice none 0 0, .slice none 0 0, .slice none 0 0, .int .i64 0, .int .i64 0, .string ⟨#[]⟩, .int .u64 0, .slice none 0 0, .slice none 0 0, .slice none 0 0, .slice none 0 0, .int .i64 0, .string ⟨#[]⟩, .string ⟨#[]⟩, .int .u64 0, .int .i64 0] 50)) = w1 at hB BX BA BM BR ⊢
    have h1 := h.below hB
    have c0 : w1.cell? ⟨w.heap.size, 0, none⟩ = some (.int .i64 M.A) := BX.at 0 rfl
    have c1 : w1.cell? ⟨w.heap.size, 1, none⟩ = some (.int .i64 M.T) := BX.at 1 rfl
    have c2 : w1.cell? ⟨w.heap.size, 2, none⟩ = some (.slice d.h1.a M.L.length d.h1.c) := BX.at 2 rfl
    have c3 : w1.cell? ⟨w.heap.size, 3, none⟩ = some (.slice d.h2.a M.B.length d.h2.c) := BX.at 3 rfl
    have c4 : w1.cell? ⟨w.heap.size, 4, none⟩ = some (.slice d.h3.a M.R.length d.h3.c) := BX.at 4 rfl
    have a0 : w1.cell? ⟨w.heap.size + 1, 0, none⟩ = some (.int .i64 4) := BA.at 0 rfl
    have a1 : w1.cell? ⟨w.heap.size + 1, 1, none⟩ = some (.int .i64 i) := BA.at 1 rfl
    have a2 : w1.cell? ⟨w.heap.size + 1, 2, none⟩ = some (.int .u64 ver) := BA.at 2 rfl
    have a3 : w1.cell? ⟨w.heap.size + 1, 3, none⟩ = some (.int .u64 word) := BA.at 3 rfl
    go_wp2_with (refine wpList_load_row rfl 69 _ rfl w.heap.size rfl 69 _ (0, 0) _ (BX).h Try.underlying69 rfl (by kernel_rfl) ?_)
    refine (dnamed_any M d word w1 h1 hW.1 hW.2).mono ?_
    rintro e w2 ⟨rfl, hb2⟩
    rw [hN1, hp]
    replace hB := below_push2 hB hb2 (Nat.le_refl _)
    replace BX := BX.below hb2
    replace BA := BA.below hb2
    replace BM := BM.below hb2
    replace BR := BR.below hb2
    clear h1 hb2 c0 c1 c2 c3 c4 a0 a1 a2 a3
    have c0 : w2.cell? ⟨w.heap.size, 0, none⟩ = some (.int .i64 M.A) := BX.at 0 rfl
    have c1 : w2.cell? ⟨w.heap.size, 1, none⟩ = some (.int .i64 M.T) := BX.at 1 rfl
    have c2 : w2.cell? ⟨w.heap.size, 2, none⟩ = some (.slice d.h1.a M.L.length d.h1.c) := BX.at 2 rfl
    have c3 : w2.cell? ⟨w.heap.size, 3, none⟩ = some (.slice d.h2.a M.B.length d.h2.c) := BX.at 3 rfl
    have c4 : w2.cell? ⟨w.heap.size, 4, none⟩ = some (.slice d.h3.a M.R.length d.h3.c) := BX.at 4 rfl
    have a1 : w2.cell? ⟨w.heap.size + 1, 1, none⟩ = some (.int .i64 i) := BA.at 1 rfl
    have hs0 : w.heap.size < w2.heap.size := BX.lt
    have hs1 : w.heap.size + 1 < w2.heap.size := BA.lt
    obtain ⟨bb, off, q', ha, hbb, _, hrg0, hok⟩ := h.block p hpA
    have hbl : bb < w2.heap.size := Nat.lt_of_lt_of_le hbb hB.size
    have hrg := (Fr.of_below (S := []) hB).range hrg0 hbb (by simp)
    clear hrg0
    rw [ha] at c3
    have hR : repV M ⟨4, i, ver, word, b, x⟩ = ⟨true, 0, 0, M.B.getD p blockZ, opZ⟩ := by simp [repV, hN, hN2]
    generalize M.B.getD p blockZ = bv at hrg hok hR
    have hS : ∀ w', Fr [w.heap.size + 2, w.heap.size + 3] w2 w' → w'.cell? ⟨w.heap.size, 0, none⟩ = some (.int .i64 M.A) ∧ w'.cell? ⟨w.heap.size, 1, none⟩ = some (.int .i64 M.T) ∧ w'.cell? ⟨w.heap.size, 2, none⟩ = some (.slice d.h1.a M.L.length d.h1.c) ∧ w'.cell? ⟨w.heap.size, 3, none⟩ = some (.slice (some ⟨bb, off, none⟩) M.B.length d.h2.c) ∧ w'.cell? ⟨w.heap.size, 4, none⟩ = some (.slice d.h3.a M.R.length d.h3.c) ∧ w'.cell? ⟨w.heap.size + 1, 1, none⟩ = some (.int .i64 i) ∧ Hid (w'.rangeAt bb (off + p * 17) (blockA q' bv).toList) := fun w' F =>
      ⟨((F.keeps.cell (p := ⟨w.heap.size, 0, none⟩) hs0 (by simp)).trans c0), ((F.keeps.cell (p := ⟨w.heap.size, 1, none⟩) hs0 (by simp)).trans c1), ((F.keeps.cell (p := ⟨w.heap.size, 2, none⟩) hs0 (by simp)).trans c2), ((F.keeps.cell (p := ⟨w.heap.size, 3, none⟩) hs0 (by simp)).trans c3), ((F.keeps.cell (p := ⟨w.heap.size, 4, none⟩) hs0 (by simp)).trans c4), ((F.keeps.cell (p := ⟨w.heap.size + 1, 1, none⟩) hs1 (by simp)).trans a1), Lib.hid (F.range hrg hbl (by simp; omega))⟩
    have hD : doV M ⟨4, i, ver, word, b, x⟩ = M := by simp [doV]
    have hfin : ∀ w', Fr [w.heap.size + 2, w.heap.size + 3] w2 w' → DidD w S M ⟨4, i, ver, word, b, x⟩ (.returned (.tuple #[.agg #[.int .i64 M.A, .int .i64 M.T, .slice d.h1.a M.L.length d.h1.c, .slice (some ⟨bb, off, none⟩) M.B.length d.h2.c, .slice d.h3.a M.R.length d.h3.c], .agg (repA q' ⟨true, 0, 0, bv, opZ⟩)])) w' := fun w' F => by
      have hb' := F.below hB (Nat.le_refl _) (by simp)
      refine ⟨d, q', ?_, ?_, ?_, hb'⟩
      · rw [hR, hD]; simp [ha]
      · rw [hD]; exact h.below hb'
      · rw [hR]; exact hok.keep (Keeps.of_below hb')
    have kk : (p : Int) < (M.B.length : Int) := by have := h.lb; omega
    go_upto_region 17 with (fail)
    clear h hR hD hN hN1 hN2
    refine wp_region_held_drew (S := fun w' => w'.cell? ⟨w.heap.size, 0, none⟩ = some (.int .i64 M.A) ∧ w'.cell? ⟨w.heap.size, 1, none⟩ = some (.int .i64 M.T) ∧ w'.cell? ⟨w.heap.size, 2, none⟩ = some (.slice d.h1.a M.L.length d.h1.c) ∧ w'.cell? ⟨w.heap.size, 3, none⟩ = some (.slice (some ⟨bb, off, none⟩) M.B.length d.h2.c) ∧ w'.cell? ⟨w.heap.size, 4, none⟩ = some (.slice d.h3.a M.R.length d.h3.c) ∧ w'.cell? ⟨w.heap.size + 1, 1, none⟩ = some (.int .i64 i) ∧ Hid (w'.rangeAt bb (off + p * 17) (blockA q' bv).toList)) (by kernel_rfl) (hS _ (Fr.of_below (Below.refl _ _).drew)) (fun hHeld => ?_)
    clear c0 c1 c2 c3 c4 a1
    refine wpAnyH_take (i := 0) (oi := ⟨_, _, _, _, _, _⟩) (v := ?_) rfl (by kernel_rfl) (by kernel_rfl) (by kernel_rfl) (fun _ _ _ h => h) (Or.inl ⟨by rfl, ?_⟩) (by assumption) ?_
    rotate_left
    · intro wS hSw
      try dsimp only at hSw
      go_simp
      try with_reducible rfl
    try simp only [Act.put, List.setIfInBounds_toArray, List.set_cons_zero, List.set_cons_succ]
    refine wpAnyH_take (i := 1) (oi := ⟨_, _, _, _, _, _⟩) (v := ?_) rfl (by kernel_rfl) (by kernel_rfl) (by kernel_rfl) (fun _ _ _ h => h) (Or.inl ⟨by rfl, ?_⟩) (by assumption) ?_
    rotate_left
    · intro wS hSw
      try dsimp only at hSw
      go_simp
      try with_reducible rfl
    try simp only [Act.put, List.setIfInBounds_toArray, List.set_cons_zero, List.set_cons_succ]
    refine wpAnyH_take (i := 2) (oi := ⟨_, _, _, _, _, _⟩) (v := ?_) rfl (by kernel_rfl) (by kernel_rfl) (by kernel_rfl) (fun _ _ _ h => h) (Or.inl ⟨by rfl, ?_⟩) (by assumption) ?_
    rotate_left
    · intro wS hSw
      try dsimp only at hSw
      go_simp
      try with_reducible rfl
    try simp only [Act.put, List.setIfInBounds_toArray, List.set_cons_zero, List.set_cons_succ]
    refine wpAnyH_take (i := 3) (oi := ⟨_, _, _, _, _, _⟩) (v := ?_) rfl (by kernel_rfl) (by kernel_rfl) (by kernel_rfl) (fun _ _ _ h => h) (Or.inl ⟨by rfl, ?_⟩) (by assumption) ?_
    rotate_left
    · intro wS hSw
      try dsimp only at hSw
      go_simp
      try with_reducible rfl
    try simp only [Act.put, List.setIfInBounds_toArray, List.set_cons_zero, List.set_cons_succ]
    refine wpAnyH_take (i := 4) (oi := ⟨_, _, _, _, _, _⟩) (v := ?_) rfl (by kernel_rfl) (by kernel_rfl) (by kernel_rfl) (fun _ _ _ h => h) (Or.inl ⟨by rfl, ?_⟩) (by assumption) ?_
    rotate_left
    · intro wS hSw
      try dsimp only at hSw
      go_simp
      try with_reducible rfl
    try simp only [Act.put, List.setIfInBounds_toArray, List.set_cons_zero, List.set_cons_succ]
    refine wpAnyH_take (i := 5) (oi := ⟨_, _, _, _, _, _⟩) rfl (by kernel_rfl) (by kernel_rfl) (by kernel_rfl) (fun _ _ _ h => h) (yieldsIf_load_mid (by rfl) 35 _ rfl bb (off + p * 17) rfl (blockA q' bv).toList _ (fun w' hw' => hw'.2.2.2.2.2.2.out) Try.underlying35 rfl (by kernel_rfl)) (by assumption) ?_
    try simp only [Act.put, List.setIfInBounds_toArray, List.set_cons_zero, List.set_cons_succ]
    refine wpAnyH_take (i := 6) (oi := ⟨_, _, _, _, _, _⟩) (v := ?_) rfl (by kernel_rfl) (by kernel_rfl) (by kernel_rfl) (fun _ _ _ h => h) (Or.inl ⟨by rfl, ?_⟩) (by assumption) ?_
    rotate_left
    · intro wS hSw
      try dsimp only at hSw
      go_simp
      try with_reducible rfl
    try simp only [Act.put, List.setIfInBounds_toArray, List.set_cons_zero, List.set_cons_succ]
    have F0 : Fr [w.heap.size + 2, w.heap.size + 3] w2 w2.drew := Fr.of_below (Below.refl _ _).drew
    have FA := F0.trans (Fr.row (S := [w.heap.size + 2, w.heap.size + 3]) (w := w2.drew) (w.heap.size + 2) (#[.int .i64 M.A, .int .i64 M.T, .slice d.h1.a M.L.length d.h1.c, .slice (some ⟨bb, off, none⟩) M.B.length d.h2.c, .slice d.h3.a M.R.length d.h3.c]) (by simp))
    have FAB := FA.trans (Fr.row (S := [w.heap.size + 2, w.heap.size + 3]) (w.heap.size + 3) (repA q' ⟨true, 0, 0, bv, opZ⟩) (by simp))
    have MA := Blk.row BM.drew (#[.int .i64 M.A, .int .i64 M.T, .slice d.h1.a M.L.length d.h1.c, .slice (some ⟨bb, off, none⟩) M.B.length d.h2.c, .slice d.h3.a M.R.length d.h3.c])
    have RA := (Fr.row (S := [w.heap.size + 2]) (w := w2.drew) (w.heap.size + 2) (#[.int .i64 M.A, .int .i64 M.T, .slice d.h1.a M.L.length d.h1.c, .slice (some ⟨bb, off, none⟩) M.B.length d.h2.c, .slice d.h3.a M.R.length d.h3.c]) (by simp)).blk BR.drew (by simp)
    have RAB := Blk.row RA (repA q' ⟨true, 0, 0, bv, opZ⟩)
    have MAB := (Fr.row (S := [w.heap.size + 3]) (w.heap.size + 3) (repA q' ⟨true, 0, 0, bv, opZ⟩) (by simp)).blk MA (by simp)
    refine wpAnyH_ready (rs := [7]) (by kernel_rfl) (by simp) ?_
    refine AllReadyH.cons rfl (fun K hK => ?_) AllReadyH.nil
    rw [if_pos (by rfl)]
    refine wp_store_row 69 _ _ rfl (w.heap.size + 2) _ rfl rfl 69 _ (BM.drew).h (by kernel_rfl) (by rfl) (by kernel_rfl) ?_
    refine hK.out _ _ (hS _ (FA)) (fun hHeld => ?_)
    clear hK K
    refine wpAnyH_ready (rs := [8]) (by kernel_rfl) (by simp) ?_
    refine AllReadyH.cons rfl (fun K hK => ?_) AllReadyH.nil
    rw [if_pos (by rfl)]
    refine wp_store_row 50 _ _ rfl (w.heap.size + 3) _ rfl rfl 50 _ (RA).h (by kernel_rfl) (by rfl) (by kernel_rfl) ?_
    refine hK.out _ _ (hS _ (FAB)) (fun hHeld => ?_)
    clear hK K
    have FF := FAB
    refine wpAnyH_done (by kernel_rfl) ?_ _
    go_wp2_with fail
    refine bodyPost_ret (res_cc rfl _ _ (w.heap.size + 2) 69 (#[.int .i64 M.A, .int .i64 M.T, .slice d.h1.a M.L.length d.h1.c, .slice (some ⟨bb, off, none⟩) M.B.length d.h2.c, .slice d.h3.a M.R.length d.h3.c]) (0, 0) _ (w.heap.size + 3) 50 (repA q' ⟨true, 0, 0, bv, opZ⟩) (0, 0) _ rfl (MAB).h Try.underlying69 rfl (by kernel_rfl) rfl (RAB).h Try.underlying50 rfl (by kernel_rfl)) rfl ?_
    exact hfin _ FF
  have i0' : 0 ≤ i := by omega
  have i1' : i < (M.L.length : Int) := by omega
  have i2' : i < (M.T : Int) := by omega
  have j1 : decide (i < (M.L.length : Int)) = true := by simp; omega
  have j2 : decide (i < (M.T : Int)) = true := by simp; omega
  have hB : Below w.heap.size w ((((w.alloc (.cells (dmX M d) 69)).alloc (.cells (acc26 q ⟨4, i, ver, word, b, x⟩).toArray 39)).alloc (.cells #[.int .i64 0, .int .i64 0, .slice none 0 0, .slice none 0 0, .slice none 0 0] 69)).alloc (.cells #[.bool false, .int .u64 0, .int .u64 0, .int .i64 0, .int .i64 0, .string ⟨#[]⟩, .string ⟨#[]⟩, .bool false, .int .i64 0, .slice none 0 0, .slice none 0 0, .slice none 0 0, .int .i64 0, .int .i64 0, .string ⟨#[]⟩, .int .u64 0, .slice none 0 0, .slice none 0 0, .slice none 0 0, .slice none 0 0, .int .i64 0, .string ⟨#[]⟩, .string ⟨#[]⟩, .int .u64 0, .int .i64 0] 50)) := by (repeat (first | exact Below.refl _ _ | assumption | refine below_alloc2 ?_ (by first | exact Nat.le_refl _ | omega) _ | refine Below.drew ?_ | refine below_drewN ?_ _ | refine below_push2 ?_ ‹_› (by first | exact Nat.le_refl _ | omega) | refine Below.setCell ?_ (by first | (simp; done) | (simp; omega) | omega) _))
  have BX := (((Blk.new w (dmX M d) 69).alloc (.cells (acc26 q ⟨4, i, ver, word, b, x⟩).toArray 39)).alloc (.cells #[.int .i64 0, .int .i64 0, .slice none 0 0, .slice none 0 0, .slice none 0 0] 69)).alloc (.cells #[.bool false, .int .u64 0, .int .u64 0, .int .i64 0, .int .i64 0, .string ⟨#[]⟩, .string ⟨#[]⟩, .bool false, .int .i64 0, .slice none 0 0, .slice none 0 0, .slice none 0 0, .int .i64 0, .int .i64 0, .string ⟨#[]⟩, .int .u64 0, .slice none 0 0, .slice none 0 0, .slice none 0 0, .slice none 0 0, .int .i64 0, .string ⟨#[]⟩, .string ⟨#[]⟩, .int .u64 0, .int .i64 0] 50)
  have BA : Blk ((((w.alloc (.cells (dmX M d) 69)).alloc (.cells (acc26 q ⟨4, i, ver, word, b, x⟩).toArray 39)).alloc (.cells #[.int .i64 0, .int .i64 0, .slice none 0 0, .slice none 0 0, .slice none 0 0] 69)).alloc (.cells #[.bool false, .int .u64 0, .int .u64 0, .int .i64 0, .int .i64 0, .string ⟨#[]⟩, .string ⟨#[]⟩, .bool false, .int .i64 0, .slice none 0 0, .slice none 0 0, .slice none 0 0, .int .i64 0, .int .i64 0, .string ⟨#[]⟩, .int .u64 0, .slice none 0 0, .slice none 0 0, .slice none 0 0, .slice none 0 0, .int .i64 0, .string ⟨#[]⟩, .string ⟨#[]⟩, .int .u64 0, .int .i64 0] 50)) (w.heap.size + 1) (acc26 q ⟨4, i, ver, word, b, x⟩).toArray 39 := by
    have := ((Blk.new (w.alloc (.cells (dmX M d) 69)) (acc26 q ⟨4, i, ver, word, b, x⟩).toArray 39).alloc (.cells #[.int .i64 0, .int .i64 0, .slice none 0 0, .slice none 0 0, .slice none 0 0] 69)).alloc (.cells #[.bool false, .int .u64 0, .int .u64 0, .int .i64 0, .int .i64 0, .string ⟨#[]⟩, .string ⟨#[]⟩, .bool false, .int .i64 0, .slice none 0 0, .slice none 0 0, .slice none 0 0, .int .i64 0, .int .i64 0, .string ⟨#[]⟩, .int .u64 0, .slice none 0 0, .slice none 0 0, .slice none 0 0, .slice none 0 0, .int .i64 0, .string ⟨#[]⟩, .string ⟨#[]⟩, .int .u64 0, .int .i64 0] 50)
    simpa using this
  have BM : Blk ((((w.alloc (.cells (dmX M d) 69)).alloc (.cells (acc26 q ⟨4, i, ver, word, b, x⟩).toArray 39)).alloc (.cells #[.int .i64 0, .int .i64 0, .slice none 0 0, .slice none 0 0, .slice none 0 0] 69)).alloc (.cells #[.bool false, .int .u64 0, .int .u64 0, .int .i64 0, .int .i64 0, .string ⟨#[]⟩, .string ⟨#[]⟩, .bool false, .int .i64 0, .slice none 0 0, .slice none 0 0, .slice none 0 0, .int .i64 0, .int .i64 0, .string ⟨#[]⟩, .int .u64 0, .slice none 0 0, .slice none 0 0, .slice none 0 0, .slice none 0 0, .int .i64 0, .string ⟨#[]⟩, .string ⟨#[]⟩, .int .u64 0, .int .i64 0] 50)) (w.heap.size + 2) #[.int .i64 0, .int .i64 0, .slice none 0 0, .slice none 0 0, .slice none 0 0] 69 := by
    have := (Blk.new ((w.alloc (.cells (dmX M d) 69)).alloc (.cells (acc26 q ⟨4, i, ver, word, b, x⟩).toArray 39)) #[.int .i64 0, .int .i64 0, .slice none 0 0, .slice none 0 0, .slice none 0 0] 69).alloc (.cells #[.bool false, .int .u64 0, .int .u64 0, .int .i64 0, .int .i64 0, .string ⟨#[]⟩, .string ⟨#[]⟩, .bool false, .int .i64 0, .slice none 0 0, .slice none 0 0, .slice none 0 0, .int .i64 0, .int .i64 0, .string ⟨#[]⟩, .int .u64 0, .slice none 0 0, .slice none 0 0, .slice none 0 0, .slice none 0 0, .int .i64 0, .string ⟨#[]⟩, .string ⟨#[]⟩, .int .u64 0, .int .i64 0] 50)
    simpa using this
  have BR : Blk ((((w.alloc (.cells (dmX M d) 69)).alloc (.cells (acc26 q ⟨4, i, ver, word, b, x⟩).toArray 39)).alloc (.cells #[.int .i64 0, .int .i64 0, .slice none 0 0, .slice none 0 0, .slice none 0 0] 69)).alloc (.cells #[.bool false, .int .u64 0, .int .u64 0, .int .i64 0, .int .i64 0, .string ⟨#[]⟩, .string ⟨#[]⟩, .bool false, .int .i64 0, .slice none 0 0, .slice none 0 0, .slice none 0 0, .int .i64 0, .int .i64 0, .string ⟨#[]⟩, .int .u64 0, .slice none 0 0, .slice none 0 0, .slice none 0 0, .slice none 0 0, .int .i64 0, .string ⟨#[]⟩, .string ⟨#[]⟩, .int .u64 0, .int .i64 0] 50)) (w.heap.size + 3) #[.bool false, .int .u64 0, .int .u64 0, .int .i64 0, .int .i64 0, .string ⟨#[]⟩, .string ⟨#[]⟩, .bool false, .int .i64 0, .slice none 0 0, .slice none 0 0, .slice none 0 0, .int .i64 0, .int .i64 0, .string ⟨#[]⟩, .int .u64 0, .slice none 0 0, .slice none 0 0, .slice none 0 0, .slice none 0 0, .int .i64 0, .string ⟨#[]⟩, .string ⟨#[]⟩, .int .u64 0, .int .i64 0] 50 := by
    have := Blk.new (((w.alloc (.cells (dmX M d) 69)).alloc (.cells (acc26 q ⟨4, i, ver, word, b, x⟩).toArray 39)).alloc (.cells #[.int .i64 0, .int .i64 0, .slice none 0 0, .slice none 0 0, .slice none 0 0] 69)) #[.bool false, .int .u64 0, .int .u64 0, .int .i64 0, .int .i64 0, .string ⟨#[]⟩, .string ⟨#[]⟩, .bool false, .int .i64 0, .slice none 0 0, .slice none 0 0, .slice none 0 0, .int .i64 0, .int .i64 0, .string ⟨#[]⟩, .int .u64 0, .slice none 0 0, .slice none 0 0, .slice none 0 0, .slice none 0 0, .int .i64 0, .string ⟨#[]⟩, .string ⟨#[]⟩, .int .u64 0, .int .i64 0] 50
    simpa using this
  go_enter Try.func30, Try.ntmps30
  go_upto_region 1 with (fail)
  generalize ((((w.alloc (.cells (dmX M d) 69)).alloc (.cells (acc26 q ⟨4, i, ver, word, b, x⟩).toArray 39)).alloc (.cells #[.int .i64 0, .int .i64 0, .slice none 0 0, .slice none 0 0, .slice none 0 0] 69)).alloc (.cells #[.bool false, .int .u64 0, .int .u64 0, .int .i64 0, .int .i64 0, .string ⟨#[]⟩, .string ⟨#[]⟩, .bool false, .int .i64 0, .slice none 0 0, .slice none 0 0, .slice none 0 0, .int .i64 0, .int .i64 0, .string ⟨#[]⟩, .int .u64 0, .slice none 0 0, .slice none 0 0, .slice none 0 0, .slice none 0 0, .int .i64 0, .string ⟨#[]⟩, .string ⟨#[]⟩, .int .u64 0, .int .i64 0] 50)) = w1 at hB BX BA BM BR ⊢
  have h1 := h.below hB
  have c0 : w1.cell? ⟨w.heap.size, 0, none⟩ = some (.int .i64 M.A) := BX.at 0 rfl
  have c1 : w1.cell? ⟨w.heap.size, 1, none⟩ = some (.int .i64 M.T) := BX.at 1 rfl
  have c2 : w1.cell? ⟨w.heap.size, 2, none⟩ = some (.slice d.h1.a M.L.length d.h1.c) := BX.at 2 rfl
  have c3 : w1.cell? ⟨w.heap.size, 3, none⟩ = some (.slice d.h2.a M.B.length d.h2.c) := BX.at 3 rfl
  have c4 : w1.cell? ⟨w.heap.size, 4, none⟩ = some (.slice d.h3.a M.R.length d.h3.c) := BX.at 4 rfl
  have a0 : w1.cell? ⟨w.heap.size + 1, 0, none⟩ = some (.int .i64 4) := BA.at 0 rfl
  have a1 : w1.cell? ⟨w.heap.size + 1, 1, none⟩ = some (.int .i64 i) := BA.at 1 rfl
  have a2 : w1.cell? ⟨w.heap.size + 1, 2, none⟩ = some (.int .u64 ver) := BA.at 2 rfl
  have a3 : w1.cell? ⟨w.heap.size + 1, 3, none⟩ = some (.int .u64 word) := BA.at 3 rfl
  go_wp2_with (refine wpList_load_row rfl 69 _ rfl w.heap.size rfl 69 _ (0, 0) _ (BX).h Try.underlying69 rfl (by kernel_rfl) ?_)
  refine (dnamed_any M d word w1 h1 hW.1 hW.2).mono ?_
  rintro e w2 ⟨rfl, hb2⟩
  rw [hN1, hp]
  replace hB := below_push2 hB hb2 (Nat.le_refl _)
  replace BX := BX.below hb2
  replace BA := BA.below hb2
  replace BM := BM.below hb2
  replace BR := BR.below hb2
  clear h1 hb2 c0 c1 c2 c3 c4 a0 a1 a2 a3
  have c0 : w2.cell? ⟨w.heap.size, 0, none⟩ = some (.int .i64 M.A) := BX.at 0 rfl
  have c1 : w2.cell? ⟨w.heap.size, 1, none⟩ = some (.int .i64 M.T) := BX.at 1 rfl
  have c2 : w2.cell? ⟨w.heap.size, 2, none⟩ = some (.slice d.h1.a M.L.length d.h1.c) := BX.at 2 rfl
  have c3 : w2.cell? ⟨w.heap.size, 3, none⟩ = some (.slice d.h2.a M.B.length d.h2.c) := BX.at 3 rfl
  have c4 : w2.cell? ⟨w.heap.size, 4, none⟩ = some (.slice d.h3.a M.R.length d.h3.c) := BX.at 4 rfl
  have a1 : w2.cell? ⟨w.heap.size + 1, 1, none⟩ = some (.int .i64 i) := BA.at 1 rfl
  have hs0 : w.heap.size < w2.heap.size := BX.lt
  have hs1 : w.heap.size + 1 < w2.heap.size := BA.lt
  obtain ⟨bb, off, q', ha, hbb, _, hrg0, hok⟩ := h.block p hpA
  have hbl : bb < w2.heap.size := Nat.lt_of_lt_of_le hbb hB.size
  have hrg := (Fr.of_below (S := []) hB).range hrg0 hbb (by simp)
  clear hrg0
  rw [ha] at c3
  have hR : repV M ⟨4, i, ver, word, b, x⟩ = ⟨true, 0, 0, M.B.getD p blockZ, opZ⟩ := by simp [repV, hN, hN2]
  generalize M.B.getD p blockZ = bv at hrg hok hR
  have hS : ∀ w', Fr [w.heap.size + 2, w.heap.size + 3] w2 w' → w'.cell? ⟨w.heap.size, 0, none⟩ = some (.int .i64 M.A) ∧ w'.cell? ⟨w.heap.size, 1, none⟩ = some (.int .i64 M.T) ∧ w'.cell? ⟨w.heap.size, 2, none⟩ = some (.slice d.h1.a M.L.length d.h1.c) ∧ w'.cell? ⟨w.heap.size, 3, none⟩ = some (.slice (some ⟨bb, off, none⟩) M.B.length d.h2.c) ∧ w'.cell? ⟨w.heap.size, 4, none⟩ = some (.slice d.h3.a M.R.length d.h3.c) ∧ w'.cell? ⟨w.heap.size + 1, 1, none⟩ = some (.int .i64 i) ∧ Hid (w'.rangeAt bb (off + p * 17) (blockA q' bv).toList) := fun w' F =>
    ⟨((F.keeps.cell (p := ⟨w.heap.size, 0, none⟩) hs0 (by simp)).trans c0), ((F.keeps.cell (p := ⟨w.heap.size, 1, none⟩) hs0 (by simp)).trans c1), ((F.keeps.cell (p := ⟨w.heap.size, 2, none⟩) hs0 (by simp)).trans c2), ((F.keeps.cell (p := ⟨w.heap.size, 3, none⟩) hs0 (by simp)).trans c3), ((F.keeps.cell (p := ⟨w.heap.size, 4, none⟩) hs0 (by simp)).trans c4), ((F.keeps.cell (p := ⟨w.heap.size + 1, 1, none⟩) hs1 (by simp)).trans a1), Lib.hid (F.range hrg hbl (by simp; omega))⟩
  have hD : doV M ⟨4, i, ver, word, b, x⟩ = M := by simp [doV]
  have hfin : ∀ w', Fr [w.heap.size + 2, w.heap.size + 3] w2 w' → DidD w S M ⟨4, i, ver, word, b, x⟩ (.returned (.tuple #[.agg #[.int .i64 M.A, .int .i64 M.T, .slice d.h1.a M.L.length d.h1.c, .slice (some ⟨bb, off, none⟩) M.B.length d.h2.c, .slice d.h3.a M.R.length d.h3.c], .agg (repA q' ⟨true, 0, 0, bv, opZ⟩)])) w' := fun w' F => by
    have hb' := F.below hB (Nat.le_refl _) (by simp)
    refine ⟨d, q', ?_, ?_, ?_, hb'⟩
    · rw [hR, hD]; simp [ha]
    · rw [hD]; exact h.below hb'
    · rw [hR]; exact hok.keep (Keeps.of_below hb')
  have kk : (p : Int) < (M.B.length : Int) := by have := h.lb; omega
  go_upto_region 17 with (fail)
  clear h hR hD hN hN1 hN2
  refine wp_region_held_drew (S := fun w' => w'.cell? ⟨w.heap.size, 0, none⟩ = some (.int .i64 M.A) ∧ w'.cell? ⟨w.heap.size, 1, none⟩ = some (.int .i64 M.T) ∧ w'.cell? ⟨w.heap.size, 2, none⟩ = some (.slice d.h1.a M.L.length d.h1.c) ∧ w'.cell? ⟨w.heap.size, 3, none⟩ = some (.slice (some ⟨bb, off, none⟩) M.B.length d.h2.c) ∧ w'.cell? ⟨w.heap.size, 4, none⟩ = some (.slice d.h3.a M.R.length d.h3.c) ∧ w'.cell? ⟨w.heap.size + 1, 1, none⟩ = some (.int .i64 i) ∧ Hid (w'.rangeAt bb (off + p * 17) (blockA q' bv).toList)) (by kernel_rfl) (hS _ (Fr.of_below (Below.refl _ _).drew)) (fun hHeld => ?_)
  clear c0 c1 c2 c3 c4 a1
  refine wpAnyH_take (i := 0) (oi := ⟨_, _, _, _, _, _⟩) (v := ?_) rfl (by kernel_rfl) (by kernel_rfl) (by kernel_rfl) (fun _ _ _ h => h) (Or.inl ⟨by rfl, ?_⟩) (by assumption) ?_
  rotate_left
  · intro wS hSw
    try dsimp only at hSw
    go_simp
    try with_reducible rfl
  try simp only [Act.put, List.setIfInBounds_toArray, List.set_cons_zero, List.set_cons_succ]
  refine wpAnyH_take (i := 1) (oi := ⟨_, _, _, _, _, _⟩) (v := ?_) rfl (by kernel_rfl) (by kernel_rfl) (by kernel_rfl) (fun _ _ _ h => h) (Or.inl ⟨by rfl, ?_⟩) (by assumption) ?_
  rotate_left
  · intro wS hSw
    try dsimp only at hSw
    go_simp
    try with_reducible rfl
  try simp only [Act.put, List.setIfInBounds_toArray, List.set_cons_zero, List.set_cons_succ]
  refine wpAnyH_take (i := 2) (oi := ⟨_, _, _, _, _, _⟩) (v := ?_) rfl (by kernel_rfl) (by kernel_rfl) (by kernel_rfl) (fun _ _ _ h => h) (Or.inl ⟨by rfl, ?_⟩) (by assumption) ?_
  rotate_left
  · intro wS hSw
    try dsimp only at hSw
    go_simp
    try with_reducible rfl
  try simp only [Act.put, List.setIfInBounds_toArray, List.set_cons_zero, List.set_cons_succ]
  refine wpAnyH_take (i := 3) (oi := ⟨_, _, _, _, _, _⟩) (v := ?_) rfl (by kernel_rfl) (by kernel_rfl) (by kernel_rfl) (fun _ _ _ h => h) (Or.inl ⟨by rfl, ?_⟩) (by assumption) ?_
  rotate_left
  · intro wS hSw
    try dsimp only at hSw
    go_simp
    try with_reducible rfl
  try simp only [Act.put, List.setIfInBounds_toArray, List.set_cons_zero, List.set_cons_succ]
  refine wpAnyH_take (i := 4) (oi := ⟨_, _, _, _, _, _⟩) (v := ?_) rfl (by kernel_rfl) (by kernel_rfl) (by kernel_rfl) (fun _ _ _ h => h) (Or.inl ⟨by rfl, ?_⟩) (by assumption) ?_
  rotate_left
  · intro wS hSw
    try dsimp only at hSw
    go_simp
    try with_reducible rfl
  try simp only [Act.put, List.setIfInBounds_toArray, List.set_cons_zero, List.set_cons_succ]
  refine wpAnyH_take (i := 5) (oi := ⟨_, _, _, _, _, _⟩) rfl (by kernel_rfl) (by kernel_rfl) (by kernel_rfl) (fun _ _ _ h => h) (yieldsIf_load_mid (by rfl) 35 _ rfl bb (off + p * 17) rfl (blockA q' bv).toList _ (fun w' hw' => hw'.2.2.2.2.2.2.out) Try.underlying35 rfl (by kernel_rfl)) (by assumption) ?_
  try simp only [Act.put, List.setIfInBounds_toArray, List.set_cons_zero, List.set_cons_succ]
  refine wpAnyH_take (i := 6) (oi := ⟨_, _, _, _, _, _⟩) (v := ?_) rfl (by kernel_rfl) (by kernel_rfl) (by kernel_rfl) (fun _ _ _ h => h) (Or.inl ⟨by rfl, ?_⟩) (by assumption) ?_
  rotate_left
  · intro wS hSw
    try dsimp only at hSw
    go_simp
    try with_reducible rfl
  try simp only [Act.put, List.setIfInBounds_toArray, List.set_cons_zero, List.set_cons_succ]
  have F0 : Fr [w.heap.size + 2, w.heap.size + 3] w2 w2.drew := Fr.of_below (Below.refl _ _).drew
  have FA := F0.trans (Fr.row (S := [w.heap.size + 2, w.heap.size + 3]) (w := w2.drew) (w.heap.size + 2) (#[.int .i64 M.A, .int .i64 M.T, .slice d.h1.a M.L.length d.h1.c, .slice (some ⟨bb, off, none⟩) M.B.length d.h2.c, .slice d.h3.a M.R.length d.h3.c]) (by simp))
  have FAB := FA.trans (Fr.row (S := [w.heap.size + 2, w.heap.size + 3]) (w.heap.size + 3) (repA q' ⟨true, 0, 0, bv, opZ⟩) (by simp))
  have MA := Blk.row BM.drew (#[.int .i64 M.A, .int .i64 M.T, .slice d.h1.a M.L.length d.h1.c, .slice (some ⟨bb, off, none⟩) M.B.length d.h2.c, .slice d.h3.a M.R.length d.h3.c])
  have RA := (Fr.row (S := [w.heap.size + 2]) (w := w2.drew) (w.heap.size + 2) (#[.int .i64 M.A, .int .i64 M.T, .slice d.h1.a M.L.length d.h1.c, .slice (some ⟨bb, off, none⟩) M.B.length d.h2.c, .slice d.h3.a M.R.length d.h3.c]) (by simp)).blk BR.drew (by simp)
  have RAB := Blk.row RA (repA q' ⟨true, 0, 0, bv, opZ⟩)
  have MAB := (Fr.row (S := [w.heap.size + 3]) (w.heap.size + 3) (repA q' ⟨true, 0, 0, bv, opZ⟩) (by simp)).blk MA (by simp)
  refine wpAnyH_ready (rs := [7]) (by kernel_rfl) (by simp) ?_
  refine AllReadyH.cons rfl (fun K hK => ?_) AllReadyH.nil
  rw [if_pos (by rfl)]
  refine wp_store_row 69 _ _ rfl (w.heap.size + 2) _ rfl rfl 69 _ (BM.drew).h (by kernel_rfl) (by rfl) (by kernel_rfl) ?_
  refine hK.out _ _ (hS _ (FA)) (fun hHeld => ?_)
  clear hK K
  refine wpAnyH_ready (rs := [8]) (by kernel_rfl) (by simp) ?_
  refine AllReadyH.cons rfl (fun K hK => ?_) AllReadyH.nil
  rw [if_pos (by rfl)]
  refine wp_store_row 50 _ _ rfl (w.heap.size + 3) _ rfl rfl 50 _ (RA).h (by kernel_rfl) (by rfl) (by kernel_rfl) ?_
  refine hK.out _ _ (hS _ (FAB)) (fun hHeld => ?_)
  clear hK K
  have FF := FAB
  refine wpAnyH_done (by kernel_rfl) ?_ _
  go_wp2_with fail
  refine bodyPost_ret (res_cc rfl _ _ (w.heap.size + 2) 69 (#[.int .i64 M.A, .int .i64 M.T, .slice d.h1.a M.L.length d.h1.c, .slice (some ⟨bb, off, none⟩) M.B.length d.h2.c, .slice d.h3.a M.R.length d.h3.c]) (0, 0) _ (w.heap.size + 3) 50 (repA q' ⟨true, 0, 0, bv, opZ⟩) (0, 0) _ rfl (MAB).h Try.underlying69 rfl (by kernel_rfl) rfl (RAB).h Try.underlying50 rfl (by kernel_rfl)) rfl ?_
  exact hfin _ FF
set_option maxRecDepth 100000 in
set_option maxHeartbeats 3200000 in
theorem ddo_read_yes {S : List Nat} (M : MemV) (d : DH) (i : Int) (ver word : Int) (q : BlockH) (b : BlockV) (x : OpV) (w : World) (h : DMem w S d M) (p : Nat) (hi : i = (p : Int)) (hpT : p < M.T) :
    Calls Try.prog 30 #[.agg (dmX M d), .agg (acc26 q ⟨6, i, ver, word, b, x⟩).toArray] w (DidD w S M ⟨6, i, ver, word, b, x⟩) := by
  have hlen : 2 * M.A + 5 * M.T + 1 ≤ M.L.length := by have := h.len; omega
  have hT16 := h.t1
  have hA16 := h.a1
  have i0' : 0 ≤ (p : Int) := by omega
  have i1' : (p : Int) < (M.L.length : Int) := by omega
  have i2' : (p : Int) < (M.T : Int) := by omega
  subst hi
  have hB : Below w.heap.size w ((((w.alloc (.cells (dmX M d) 69)).alloc (.cells (acc26 q ⟨6, (p : Int), ver, word, b, x⟩).toArray 39)).alloc (.cells #[.int .i64 0, .int .i64 0, .slice none 0 0, .slice none 0 0, .slice none 0 0] 69)).alloc (.cells #[.bool false, .int .u64 0, .int .u64 0, .int .i64 0, .int .i64 0, .string ⟨#[]⟩, .string ⟨#[]⟩, .bool false, .int .i64 0, .slice none 0 0, .slice none 0 0, .slice none 0 0, .int .i64 0, .int .i64 0, .string ⟨#[]⟩, .int .u64 0, .slice none 0 0, .slice none 0 0, .slice none 0 0, .slice none 0 0, .int .i64 0, .string ⟨#[]⟩, .string ⟨#[]⟩, .int .u64 0, .int .i64 0] 50)) := by (repeat (first | exact Below.refl _ _ | assumption | refine below_alloc2 ?_ (by first | exact Nat.le_refl _ | omega) _ | refine Below.drew ?_ | refine below_drewN ?_ _ | refine below_push2 ?_ ‹_› (by first | exact Nat.le_refl _ | omega) | refine Below.setCell ?_ (by first | (simp; done) | (simp; omega) | omega) _))
  have BX := (((Blk.new w (dmX M d) 69).alloc (.cells (acc26 q ⟨6, (p : Int), ver, word, b, x⟩).toArray 39)).alloc (.cells #[.int .i64 0, .int .i64 0, .slice none 0 0, .slice none 0 0, .slice none 0 0] 69)).alloc (.cells #[.bool false, .int .u64 0, .int .u64 0, .int .i64 0, .int .i64 0, .string ⟨#[]⟩, .string ⟨#[]⟩, .bool false, .int .i64 0, .slice none 0 0, .slice none 0 0, .slice none 0 0, .int .i64 0, .int .i64 0, .string ⟨#[]⟩, .int .u64 0, .slice none 0 0, .slice none 0 0, .slice none 0 0, .slice none 0 0, .int .i64 0, .string ⟨#[]⟩, .string ⟨#[]⟩, .int .u64 0, .int .i64 0] 50)
  have BA : Blk ((((w.alloc (.cells (dmX M d) 69)).alloc (.cells (acc26 q ⟨6, (p : Int), ver, word, b, x⟩).toArray 39)).alloc (.cells #[.int .i64 0, .int .i64 0, .slice none 0 0, .slice none 0 0, .slice none 0 0] 69)).alloc (.cells #[.bool false, .int .u64 0, .int .u64 0, .int .i64 0, .int .i64 0, .string ⟨#[]⟩, .string ⟨#[]⟩, .bool false, .int .i64 0, .slice none 0 0, .slice none 0 0, .slice none 0 0, .int .i64 0, .int .i64 0, .string ⟨#[]⟩, .int .u64 0, .slice none 0 0, .slice none 0 0, .slice none 0 0, .slice none 0 0, .int .i64 0, .string ⟨#[]⟩, .string ⟨#[]⟩, .int .u64 0, .int .i64 0] 50)) (w.heap.size + 1) (acc26 q ⟨6, (p : Int), ver, word, b, x⟩).toArray 39 := by
    have := ((Blk.new (w.alloc (.cells (dmX M d) 69)) (acc26 q ⟨6, (p : Int), ver, word, b, x⟩).toArray 39).alloc (.cells #[.int .i64 0, .int .i64 0, .slice none 0 0, .slice none 0 0, .slice none 0 0] 69)).alloc (.cells #[.bool false, .int .u64 0, .int .u64 0, .int .i64 0, .int .i64 0, .string ⟨#[]⟩, .string ⟨#[]⟩, .bool false, .int .i64 0, .slice none 0 0, .slice none 0 0, .slice none 0 0, .int .i64 0, .int .i64 0, .string ⟨#[]⟩, .int .u64 0, .slice none 0 0, .slice none 0 0, .slice none 0 0, .slice none 0 0, .int .i64 0, .string ⟨#[]⟩, .string ⟨#[]⟩, .int .u64 0, .int .i64 0] 50)
    simpa using this
  have BM : Blk ((((w.alloc (.cells (dmX M d) 69)).alloc (.cells (acc26 q ⟨6, (p : Int), ver, word, b, x⟩).toArray 39)).alloc (.cells #[.int .i64 0, .int .i64 0, .slice none 0 0, .slice none 0 0, .slice none 0 0] 69)).alloc (.cells #[.bool false, .int .u64 0, .int .u64 0, .int .i64 0, .int .i64 0, .string ⟨#[]⟩, .string ⟨#[]⟩, .bool false, .int .i64 0, .slice none 0 0, .slice none 0 0, .slice none 0 0, .int .i64 0, .int .i64 0, .string ⟨#[]⟩, .int .u64 0, .slice none 0 0, .slice none 0 0, .slice none 0 0, .slice none 0 0, .int .i64 0, .string ⟨#[]⟩, .string ⟨#[]⟩, .int .u64 0, .int .i64 0] 50)) (w.heap.size + 2) #[.int .i64 0, .int .i64 0, .slice none 0 0, .slice none 0 0, .slice none 0 0] 69 := by
    have := (Blk.new ((w.alloc (.cells (dmX M d) 69)).alloc (.cells (acc26 q ⟨6, (p : Int), ver, word, b, x⟩).toArray 39)) #[.int .i64 0, .int .i64 0, .slice none 0 0, .slice none 0 0, .slice none 0 0] 69).alloc (.cells #[.bool false, .int .u64 0, .int .u64 0, .int .i64 0, .int .i64 0, .string ⟨#[]⟩, .string ⟨#[]⟩, .bool false, .int .i64 0, .slice none 0 0, .slice none 0 0, .slice none 0 0, .int .i64 0, .int .i64 0, .string ⟨#[]⟩, .int .u64 0, .slice none 0 0, .slice none 0 0, .slice none 0 0, .slice none 0 0, .int .i64 0, .string ⟨#[]⟩, .string ⟨#[]⟩, .int .u64 0, .int .i64 0] 50)
    simpa using this
  have BR : Blk ((((w.alloc (.cells (dmX M d) 69)).alloc (.cells (acc26 q ⟨6, (p : Int), ver, word, b, x⟩).toArray 39)).alloc (.cells #[.int .i64 0, .int .i64 0, .slice none 0 0, .slice none 0 0, .slice none 0 0] 69)).alloc (.cells #[.bool false, .int .u64 0, .int .u64 0, .int .i64 0, .int .i64 0, .string ⟨#[]⟩, .string ⟨#[]⟩, .bool false, .int .i64 0, .slice none 0 0, .slice none 0 0, .slice none 0 0, .int .i64 0, .int .i64 0, .string ⟨#[]⟩, .int .u64 0, .slice none 0 0, .slice none 0 0, .slice none 0 0, .slice none 0 0, .int .i64 0, .string ⟨#[]⟩, .string ⟨#[]⟩, .int .u64 0, .int .i64 0] 50)) (w.heap.size + 3) #[.bool false, .int .u64 0, .int .u64 0, .int .i64 0, .int .i64 0, .string ⟨#[]⟩, .string ⟨#[]⟩, .bool false, .int .i64 0, .slice none 0 0, .slice none 0 0, .slice none 0 0, .int .i64 0, .int .i64 0, .string ⟨#[]⟩, .int .u64 0, .slice none 0 0, .slice none 0 0, .slice none 0 0, .slice none 0 0, .int .i64 0, .string ⟨#[]⟩, .string ⟨#[]⟩, .int .u64 0, .int .i64 0] 50 := by
    have := Blk.new (((w.alloc (.cells (dmX M d) 69)).alloc (.cells (acc26 q ⟨6, (p : Int), ver, word, b, x⟩).toArray 39)).alloc (.cells #[.int .i64 0, .int .i64 0, .slice none 0 0, .slice none 0 0, .slice none 0 0] 69)) #[.bool false, .int .u64 0, .int .u64 0, .int .i64 0, .int .i64 0, .string ⟨#[]⟩, .string ⟨#[]⟩, .bool false, .int .i64 0, .slice none 0 0, .slice none 0 0, .slice none 0 0, .int .i64 0, .int .i64 0, .string ⟨#[]⟩, .int .u64 0, .slice none 0 0, .slice none 0 0, .slice none 0 0, .slice none 0 0, .int .i64 0, .string ⟨#[]⟩, .string ⟨#[]⟩, .int .u64 0, .int .i64 0] 50
    simpa using this
  go_enter Try.func30, Try.ntmps30
  go_upto_region 1 with (fail)
  generalize ((((w.alloc (.cells (dmX M d) 69)).alloc (.cells (acc26 q ⟨6, (p : Int), ver, word, b, x⟩).toArray 39)).alloc (.cells #[.int .i64 0, .int .i64 0, .slice none 0 0, .slice none 0 0, .slice none 0 0] 69)).alloc (.cells #[.bool false, .int .u64 0, .int .u64 0, .int .i64 0, .int .i64 0, .string ⟨#[]⟩, .string ⟨#[]⟩, .bool false, .int .i64 0, .slice none 0 0, .slice none 0 0, .slice none 0 0, .int .i64 0, .int .i64 0, .string ⟨#[]⟩, .int .u64 0, .slice none 0 0, .slice none 0 0, .slice none 0 0, .slice none 0 0, .int .i64 0, .string ⟨#[]⟩, .string ⟨#[]⟩, .int .u64 0, .int .i64 0] 50)) = w1 at hB BX BA BM BR ⊢
  have h1 := h.below hB
  have c0 : w1.cell? ⟨w.heap.size, 0, none⟩ = some (.int .i64 M.A) := BX.at 0 rfl
  have c1 : w1.cell? ⟨w.heap.size, 1, none⟩ = some (.int .i64 M.T) := BX.at 1 rfl
  have c2 : w1.cell? ⟨w.heap.size, 2, none⟩ = some (.slice d.h1.a M.L.length d.h1.c) := BX.at 2 rfl
  have c3 : w1.cell? ⟨w.heap.size, 3, none⟩ = some (.slice d.h2.a M.B.length d.h2.c) := BX.at 3 rfl
  have c4 : w1.cell? ⟨w.heap.size, 4, none⟩ = some (.slice d.h3.a M.R.length d.h3.c) := BX.at 4 rfl
  have a0 : w1.cell? ⟨w.heap.size + 1, 0, none⟩ = some (.int .i64 6) := BA.at 0 rfl
  have a1 : w1.cell? ⟨w.heap.size + 1, 1, none⟩ = some (.int .i64 (p : Int)) := BA.at 1 rfl
  have a2 : w1.cell? ⟨w.heap.size + 1, 2, none⟩ = some (.int .u64 ver) := BA.at 2 rfl
  have a3 : w1.cell? ⟨w.heap.size + 1, 3, none⟩ = some (.int .u64 word) := BA.at 3 rfl
  have hs0 : w.heap.size < w1.heap.size := BX.lt
  have hs1 : w.heap.size + 1 < w1.heap.size := BA.lt
  obtain ⟨bb, off, ha, hbb, _, hrg0, hok⟩ := h.recd p hpT
  have hbl : bb < w1.heap.size := Nat.lt_of_lt_of_le hbb hB.size
  have hrg := (Fr.of_below (S := []) hB).range hrg0 hbb (by simp)
  clear hrg0
  rw [ha] at c4
  have hR : repV M ⟨6, (p : Int), ver, word, b, x⟩ = ⟨true, 0, 0, blockZ, M.R.getD p opZ⟩ := by simp [repV]; omega
  generalize M.R.getD p opZ = rv at hrg hok hR
  have hS : ∀ w', Fr [w.heap.size + 2, w.heap.size + 3] w1 w' → w'.cell? ⟨w.heap.size, 0, none⟩ = some (.int .i64 M.A) ∧ w'.cell? ⟨w.heap.size, 1, none⟩ = some (.int .i64 M.T) ∧ w'.cell? ⟨w.heap.size, 2, none⟩ = some (.slice d.h1.a M.L.length d.h1.c) ∧ w'.cell? ⟨w.heap.size, 3, none⟩ = some (.slice d.h2.a M.B.length d.h2.c) ∧ w'.cell? ⟨w.heap.size, 4, none⟩ = some (.slice (some ⟨bb, off, none⟩) M.R.length d.h3.c) ∧ w'.cell? ⟨w.heap.size + 1, 1, none⟩ = some (.int .i64 p) ∧ Hid (w'.rangeAt bb (off + p * 5) [.int .i64 rv.kind, .string rv.key, .string rv.upto, .int .u64 rv.val, .int .i64 rv.limit]) := fun w' F =>
    ⟨((F.keeps.cell (p := ⟨w.heap.size, 0, none⟩) hs0 (by simp)).trans c0), ((F.keeps.cell (p := ⟨w.heap.size, 1, none⟩) hs0 (by simp)).trans c1), ((F.keeps.cell (p := ⟨w.heap.size, 2, none⟩) hs0 (by simp)).trans c2), ((F.keeps.cell (p := ⟨w.heap.size, 3, none⟩) hs0 (by simp)).trans c3), ((F.keeps.cell (p := ⟨w.heap.size, 4, none⟩) hs0 (by simp)).trans c4), ((F.keeps.cell (p := ⟨w.heap.size + 1, 1, none⟩) hs1 (by simp)).trans a1), Lib.hid (F.range hrg hbl (by simp; omega))⟩
  have hD : doV M ⟨6, (p : Int), ver, word, b, x⟩ = M := by simp [doV]
  have hfin : ∀ w', Fr [w.heap.size + 2, w.heap.size + 3] w1 w' → DidD w S M ⟨6, (p : Int), ver, word, b, x⟩ (.returned (.tuple #[.agg #[.int .i64 M.A, .int .i64 M.T, .slice d.h1.a M.L.length d.h1.c, .slice d.h2.a M.B.length d.h2.c, .slice (some ⟨bb, off, none⟩) M.R.length d.h3.c], .agg (repA nilH ⟨true, 0, 0, blockZ, rv⟩)])) w' := fun w' F => by
    have hb' := F.below hB (Nat.le_refl _) (by simp)
    refine ⟨d, nilH, ?_, ?_, ?_, hb'⟩
    · rw [hR, hD]; simp [ha]
    · rw [hD]; exact h.below hb'
    · rw [hR]; exact blockZ_ok _ _
  have kk : (p : Int) < (M.R.length : Int) := by have := h.lr; omega
  go_upto_region 25 with (fail)
  clear h h1 hR hD
  refine wp_region_held_drew (S := fun w' => w'.cell? ⟨w.heap.size, 0, none⟩ = some (.int .i64 M.A) ∧ w'.cell? ⟨w.heap.size, 1, none⟩ = some (.int .i64 M.T) ∧ w'.cell? ⟨w.heap.size, 2, none⟩ = some (.slice d.h1.a M.L.length d.h1.c) ∧ w'.cell? ⟨w.heap.size, 3, none⟩ = some (.slice d.h2.a M.B.length d.h2.c) ∧ w'.cell? ⟨w.heap.size, 4, none⟩ = some (.slice (some ⟨bb, off, none⟩) M.R.length d.h3.c) ∧ w'.cell? ⟨w.heap.size + 1, 1, none⟩ = some (.int .i64 p) ∧ Hid (w'.rangeAt bb (off + p * 5) [.int .i64 rv.kind, .string rv.key, .string rv.upto, .int .u64 rv.val, .int .i64 rv.limit])) (by kernel_rfl) (hS _ (Fr.of_below (Below.refl _ _).drew)) (fun hHeld => ?_)
  clear c0 c1 c2 c3 c4 a0 a1 a2 a3
  refine wpAnyH_take (i := 0) (oi := ⟨_, _, _, _, _, _⟩) (v := ?_) rfl (by kernel_rfl) (by kernel_rfl) (by kernel_rfl) (fun _ _ _ h => h) (Or.inl ⟨by rfl, ?_⟩) (by assumption) ?_
  rotate_left
  · intro wS hSw
    try dsimp only at hSw
    go_simp
    try with_reducible rfl
  try simp only [Act.put, List.setIfInBounds_toArray, List.set_cons_zero, List.set_cons_succ]
  refine wpAnyH_take (i := 1) (oi := ⟨_, _, _, _, _, _⟩) (v := ?_) rfl (by kernel_rfl) (by kernel_rfl) (by kernel_rfl) (fun _ _ _ h => h) (Or.inl ⟨by rfl, ?_⟩) (by assumption) ?_
  rotate_left
  · intro wS hSw
    try dsimp only at hSw
    go_simp
    try with_reducible rfl
  try simp only [Act.put, List.setIfInBounds_toArray, List.set_cons_zero, List.set_cons_succ]
  refine wpAnyH_take (i := 2) (oi := ⟨_, _, _, _, _, _⟩) (v := ?_) rfl (by kernel_rfl) (by kernel_rfl) (by kernel_rfl) (fun _ _ _ h => h) (Or.inl ⟨by rfl, ?_⟩) (by assumption) ?_
  rotate_left
  · intro wS hSw
    try dsimp only at hSw
    go_simp
    try with_reducible rfl
  try simp only [Act.put, List.setIfInBounds_toArray, List.set_cons_zero, List.set_cons_succ]
  refine wpAnyH_take (i := 3) (oi := ⟨_, _, _, _, _, _⟩) (v := ?_) rfl (by kernel_rfl) (by kernel_rfl) (by kernel_rfl) (fun _ _ _ h => h) (Or.inl ⟨by rfl, ?_⟩) (by assumption) ?_
  rotate_left
  · intro wS hSw
    try dsimp only at hSw
    go_simp
    try with_reducible rfl
  try simp only [Act.put, List.setIfInBounds_toArray, List.set_cons_zero, List.set_cons_succ]
  refine wpAnyH_take (i := 4) (oi := ⟨_, _, _, _, _, _⟩) (v := ?_) rfl (by kernel_rfl) (by kernel_rfl) (by kernel_rfl) (fun _ _ _ h => h) (Or.inl ⟨by rfl, ?_⟩) (by assumption) ?_
  rotate_left
  · intro wS hSw
    try dsimp only at hSw
    go_simp
    try with_reducible rfl
  try simp only [Act.put, List.setIfInBounds_toArray, List.set_cons_zero, List.set_cons_succ]
  refine wpAnyH_take (i := 5) (oi := ⟨_, _, _, _, _, _⟩) (v := ?_) rfl (by kernel_rfl) (by kernel_rfl) (by kernel_rfl) (fun _ _ _ h => h) (Or.inl ⟨by rfl, ?_⟩) (by assumption) ?_
  rotate_left
  · intro wS hSw
    try dsimp only at hSw
    go_simp
    try with_reducible rfl
  try simp only [Act.put, List.setIfInBounds_toArray, List.set_cons_zero, List.set_cons_succ]
  refine wpAnyH_take (i := 6) (oi := ⟨_, _, _, _, _, _⟩) rfl (by kernel_rfl) (by kernel_rfl) (by kernel_rfl) (fun _ _ _ h => h) (yieldsIf_load_mid (by rfl) 37 _ rfl bb (off + p * 5) rfl [.int .i64 rv.kind, .string rv.key, .string rv.upto, .int .u64 rv.val, .int .i64 rv.limit] _ (fun w' hw' => hw'.2.2.2.2.2.2.out) Try.underlying37 rfl (by kernel_rfl)) (by assumption) ?_
  try simp only [Act.put, List.setIfInBounds_toArray, List.set_cons_zero, List.set_cons_succ]
  refine wpAnyH_take (i := 7) (oi := ⟨_, _, _, _, _, _⟩) (v := ?_) rfl (by kernel_rfl) (by kernel_rfl) (by kernel_rfl) (fun _ _ _ h => h) (Or.inl ⟨by rfl, ?_⟩) (by assumption) ?_
  rotate_left
  · intro wS hSw
    try dsimp only at hSw
    go_simp
    try with_reducible rfl
  try simp only [Act.put, List.setIfInBounds_toArray, List.set_cons_zero, List.set_cons_succ]
  have F0 : Fr [w.heap.size + 2, w.heap.size + 3] w1 w1.drew := Fr.of_below (Below.refl _ _).drew
  have FA := F0.trans (Fr.row (S := [w.heap.size + 2, w.heap.size + 3]) (w := w1.drew) (w.heap.size + 2) (#[.int .i64 M.A, .int .i64 M.T, .slice d.h1.a M.L.length d.h1.c, .slice d.h2.a M.B.length d.h2.c, .slice (some ⟨bb, off, none⟩) M.R.length d.h3.c]) (by simp))
  have FAB := FA.trans (Fr.row (S := [w.heap.size + 2, w.heap.size + 3]) (w.heap.size + 3) (repA nilH ⟨true, 0, 0, blockZ, rv⟩) (by simp))
  have MA := Blk.row BM.drew (#[.int .i64 M.A, .int .i64 M.T, .slice d.h1.a M.L.length d.h1.c, .slice d.h2.a M.B.length d.h2.c, .slice (some ⟨bb, off, none⟩) M.R.length d.h3.c])
  have RA := (Fr.row (S := [w.heap.size + 2]) (w := w1.drew) (w.heap.size + 2) (#[.int .i64 M.A, .int .i64 M.T, .slice d.h1.a M.L.length d.h1.c, .slice d.h2.a M.B.length d.h2.c, .slice (some ⟨bb, off, none⟩) M.R.length d.h3.c]) (by simp)).blk BR.drew (by simp)
  have RAB := Blk.row RA (repA nilH ⟨true, 0, 0, blockZ, rv⟩)
  have MAB := (Fr.row (S := [w.heap.size + 3]) (w.heap.size + 3) (repA nilH ⟨true, 0, 0, blockZ, rv⟩) (by simp)).blk MA (by simp)
  refine wpAnyH_ready (rs := [8]) (by kernel_rfl) (by simp) ?_
  refine AllReadyH.cons rfl (fun K hK => ?_) AllReadyH.nil
  rw [if_pos (by rfl)]
  refine wp_store_row 69 _ _ rfl (w.heap.size + 2) _ rfl rfl 69 _ (BM.drew).h (by kernel_rfl) (by rfl) (by kernel_rfl) ?_
  refine hK.out _ _ (hS _ (FA)) (fun hHeld => ?_)
  clear hK K
  refine wpAnyH_ready (rs := [9]) (by kernel_rfl) (by simp) ?_
  refine AllReadyH.cons rfl (fun K hK => ?_) AllReadyH.nil
  rw [if_pos (by rfl)]
  refine wp_store_row 50 _ _ rfl (w.heap.size + 3) _ rfl rfl 50 _ (RA).h (by kernel_rfl) (by rfl) (by kernel_rfl) ?_
  refine hK.out _ _ (hS _ (FAB)) (fun hHeld => ?_)
  clear hK K
  have FF := FAB
  refine wpAnyH_done (by kernel_rfl) ?_ _
  go_wp2_with fail
  refine bodyPost_ret (res_cc rfl _ _ (w.heap.size + 2) 69 (#[.int .i64 M.A, .int .i64 M.T, .slice d.h1.a M.L.length d.h1.c, .slice d.h2.a M.B.length d.h2.c, .slice (some ⟨bb, off, none⟩) M.R.length d.h3.c]) (0, 0) _ (w.heap.size + 3) 50 (repA nilH ⟨true, 0, 0, blockZ, rv⟩) (0, 0) _ rfl (MAB).h Try.underlying69 rfl (by kernel_rfl) rfl (RAB).h Try.underlying50 rfl (by kernel_rfl)) rfl ?_
  exact hfin _ FF
end Go.Proofs.Ytpempcefgfmniaa.MemP

/-
  bowerref26: Do: contracts (put and write).
-/
namespace Go.Proofs.Ytpempcefgfmniaa.MemP
open Go.RowKit RefP CellP Dp
set_option linter.unusedVariables false
set_option linter.unusedSimpArgs false
theorem acc_block {w : World} {b : Nat} {q : BlockH} {x : AccV} {T : TypeId} (B : Blk w b (acc26 q x).toArray T) : w.rangeAt b 4 (blockA q x.block).toList := by
  refine range_blk B 4 _ (fun j v hj => ?_)
  have hj17 : j < 17 := (List.getElem?_eq_some_iff.1 hj).1
  have e : ((acc26 q x).drop 4).take 17 = (blockA q x.block).toList := rfl
  rw [← e, List.getElem?_take_of_lt hj17, List.getElem?_drop] at hj
  simpa using hj
theorem acc_op {w : World} {b : Nat} {q : BlockH} {x : AccV} {T : TypeId} (B : Blk w b (acc26 q x).toArray T) : w.rangeAt b 21 (opL x.op) := by
  refine range_blk B 21 _ (fun j v hj => ?_)
  have e : (acc26 q x).drop 21 = opL x.op := rfl
  rw [← e, List.getElem?_drop] at hj
  simpa using hj
/-- the box's own blocks beside the rows -/
def boxS (S : List Nat) (n : Nat) : List Nat := n :: (n + 1) :: (n + 2) :: (n + 3) :: S
theorem boxS_more {S : List Nat} {n : Nat} : ∀ b ∈ boxS S n, b ∈ S ∨ n ≤ b := by
  intro b hb
  simp only [boxS, List.mem_cons] at hb
  rcases hb with h | h | h | h | h
  · exact .inr (by omega)
  · exact .inr (by omega)
  · exact .inr (by omega)
  · exact .inr (by omega)
  · exact .inl h
theorem boxS_lt {S : List Nat} {n k : Nat} (hS : ∀ b ∈ S, b < n) (hk : n + 3 < k) : ∀ b ∈ boxS S n, b < k := by
  intro b hb
  simp only [boxS, List.mem_cons] at hb
  rcases hb with h | h | h | h | h
  · omega
  · omega
  · omega
  · omega
  · have := hS b h; omega
theorem ddput_end {w w3 w4 : World} {S : List Nat} {M : MemV} {d : DH} {i ver word : Int} {b : BlockV} {x : OpV} {p c' : Nat} {a' : Option Addr} {r1 r2 : Array Value} (h : DMem w S d M) (hB : Below w.heap.size w w3) (F : Fr [w.heap.size, w.heap.size + 2, w.heap.size + 3] w3 w4)
    (hB' : RowRep blockT w3 (boxS S w.heap.size) a' (M.B.set p b)) (hp : openP word = (p : Int)) (hpA : p < M.A) (hN : nameB M.A M.T M.L word = true) (hN2 : nameP M.A word = (p : Int)) :
    DidD w S M ⟨5, i, ver, word, b, x⟩ (.returned (.tuple #[.agg #[.int .i64 M.A, .int .i64 M.T, .slice d.h1.a M.L.length d.h1.c, .slice a' M.B.length c', .slice d.h3.a M.R.length d.h3.c], .agg (ddR true)])) ((w4.setRow (w.heap.size + 2) r1).setRow (w.heap.size + 3) r2) := by
  have F2 : Fr [w.heap.size, w.heap.size + 2, w.heap.size + 3] w3 ((w4.setRow (w.heap.size + 2) r1).setRow (w.heap.size + 3) r2) := (F.trans (Fr.row _ _ (by simp))).trans (Fr.row _ _ (by simp))
  generalize ((w4.setRow (w.heap.size + 2) r1).setRow (w.heap.size + 3) r2) = w5 at F2
  have hb' := F2.below hB (Nat.le_refl _) (by simp)
  have hR : repV M ⟨5, i, ver, word, b, x⟩ = ⟨true, 0, 0, blockZ, opZ⟩ := by simp [repV, hN]
  have hD : doV M ⟨5, i, ver, word, b, x⟩ = { M with B := M.B.set p b } := by simp [doV, hN, hN2]
  have hr := (hB'.keep (F2.keeps.more (S' := boxS S w.heap.size) (fun b hb => by simp [boxS] at hb ⊢; omega)))
  refine ⟨⟨d.h1, ⟨a', c'⟩, d.h3⟩, nilH, ?_, ?_, ?_, hb'⟩
  · rw [hR, hD]; simp [blockZ, opZ, nilH, Hd.nil]
  · rw [hD]
    exact ⟨(h.below hb').cells, hr.more (fun b hb => .inl (by simp [boxS, hb])), (h.below hb').recs, h.len, by simp [h.lb], h.lr, h.a1, h.t1⟩
  · rw [hR]; exact blockZ_ok _ _
set_option maxRecDepth 100000 in
set_option maxHeartbeats 3200000 in
theorem ddo_put_yes {S : List Nat} (M : MemV) (d : DH) (i kd : Int) (ver word : Int) (q : BlockH) (b : BlockV) (x : OpV) (w : World) (h : DMem w S d M) (hW : U64 word) (hN : nameB M.A M.T M.L word = true) (hb : BlockOk w S q b) (hS : ∀ b ∈ S, b < w.heap.size) :
    Calls Try.prog 30 #[.agg (dmX M d), .agg (acc26 q ⟨5, i, ver, word, b, x⟩).toArray] w (DidD w S M ⟨5, i, ver, word, b, x⟩) := by
  obtain ⟨hN1, hp0, hpA', hN2⟩ := nameI_yes hN
  obtain ⟨p, hp⟩ : ∃ p : Nat, openP word = (p : Int) := ⟨(openP word).toNat, by omega⟩
  have hpA : p < M.A := by omega
  rw [hp] at hN2
  clear hp0
  have hlen : 2 * M.A + 5 * M.T + 1 ≤ M.L.length := by have := h.len; omega
  have hT16 := h.t1
  have hA16 := h.a1
  by_cases i0 : i < 0
  · have hB : Below w.heap.size w ((((w.alloc (.cells (dmX M d) 69)).alloc (.cells (acc26 q ⟨5, i, ver, word, b, x⟩).toArray 39)).alloc (.cells #[.int .i64 0, .int .i64 0, .slice none 0 0, .slice none 0 0, .slice none 0 0] 69)).alloc (.cells #[.bool false, .int .u64 0, .int .u64 0, .int .i64 0, .int .i64 0, .string ⟨#[]⟩, .string ⟨#[]⟩, .bool false, .int .i64 0, .slice none 0 0, .slice none 0 0, .slice none 0 0, .int .i64 0, .int .i64 0, .string ⟨#[]⟩, .int .u64 0, .slice none 0 0, .slice none 0 0, .slice none 0 0, .slice none 0 0, .int .i64 0, .string ⟨#[]⟩, .string ⟨#[]⟩, .int .u64 0, .int .i64 0] 50)) := by (repeat (first | exact Below.refl _ _ | assumption | refine below_alloc2 ?_ (by first | exact Nat.le_refl _ | omega) _ | refine Below.drew ?_ | refine below_drewN ?_ _ | refine below_push2 ?_ ‹_› (by first | exact Nat.le_refl _ | omega) | refine Below.setCell ?_ (by first | (simp; done) | (simp; omega) | omega) _))
    have BX := (((Blk.new w (dmX M d) 69).alloc (.cells (acc26 q ⟨5, i, ver, word, b, x⟩).toArray 39)).alloc (.cells #[.int .i64 0, .int .i64 0, .slice none 0 0, .slice none 0 0, .slice none 0 0] 69)).alloc (.cells #[.bool false, .int .u64 0, .int .u64 0, .int .i64 0, .int .i64 0, .string ⟨#[]⟩, .string ⟨#[]⟩, .bool false, .int .i64 0, .slice none 0 0, .slice none 0 0, .slice none 0 0, .int .i64 0, .int .i64 0, .string ⟨#[]⟩, .int .u64 0, .slice none 0 0, .slice none 0 0, .slice none 0 0, .slice none 0 0, .int .i64 0, .string ⟨#[]⟩, .string ⟨#[]⟩, .int .u64 0, .int .i64 0] 50)
    have BA : Blk ((((w.alloc (.cells (dmX M d) 69)).alloc (.cells (acc26 q ⟨5, i, ver, word, b, x⟩).toArray 39)).alloc (.cells #[.int .i64 0, .int .i64 0, .slice none 0 0, .slice none 0 0, .slice none 0 0] 69)).alloc (.cells #[.bool false, .int .u64 0, .int .u64 0, .int .i64 0, .int .i64 0, .string ⟨#[]⟩, .string ⟨#[]⟩, .bool false, .int .i64 0, .slice none 0 0, .slice none 0 0, .slice none 0 0, .int .i64 0, .int .i64 0, .string ⟨#[]⟩, .int .u64 0, .slice none 0 0, .slice none 0 0, .slice none 0 0, .slice none 0 0, .int .i64 0, .string ⟨#[]⟩, .string ⟨#[]⟩, .int .u64 0, .int .i64 0] 50)) (w.heap.size + 1) (acc26 q ⟨5, i, ver, word, b, x⟩).toArray 39 := by
      have := ((Blk.new (w.alloc (.cells (dmX M d) 69)) (acc26 q ⟨5, i, ver, word, b, x⟩).toArray 39).alloc (.cells #[.int .i64 0, .int .i64 0, .slice none 0 0, .slice none 0 0, .slice none 0 0] 69)).alloc (.cells #[.bool false, .int .u64 0, .int .u64 0, .int .i64 0, .int .i64 0, .string ⟨#[]⟩, .string ⟨#[]⟩, .bool false, .int .i64 0, .slice none 0 0, .slice none 0 0, .slice none 0 0, .int .i64 0, .int .i64 0, .string ⟨#[]⟩, .int .u64 0, .slice none 0 0, .slice none 0 0, .slice none 0 0, .slice none 0 0, .int .i64 0, .string ⟨#[]⟩, .string ⟨#[]⟩, .int .u64 0, .int .i64 0] 50)
      simpa using this
    have BM : Blk ((((w.alloc (.cells (dmX M d) 69)).alloc (.cells (acc26 q ⟨5, i, ver, word, b, x⟩).toArray 39)).alloc (.cells #[.int .i64 0, .int .i64 0, .slice none 0 0, .slice none 0 0, .slice none 0 0] 69)).alloc (.cells #[.bool false, .int .u64 0, .int .u64 0, .int .i64 0, .int .i64 0, .string ⟨#[]⟩, .string ⟨#[]⟩, .bool false, .int .i64 0, .slice none 0 0, .slice none 0 0, .slice none 0 0, .int .i64 0, .int .i64 0, .string ⟨#[]⟩, .int .u64 0, .slice none 0 0, .slice none 0 0, .slice none 0 0, .slice none 0 0, .int .i64 0, .string ⟨#[]⟩, .string ⟨#[]⟩, .int .u64 0, .int .i64 0] 50)) (w.heap.size + 2) #[.int .i64 0, .int .i64 0, .slice none 0 0, .slice none 0 0, .slice none 0 0] 69 := by
      have := (Blk.new ((w.alloc (.cells (dmX M d) 69)).alloc (.cells (acc26 q ⟨5, i, ver, word, b, x⟩).toArray 39)) #[.int .i64 0, .int .i64 0, .slice none 0 0, .slice none 0 0, .slice none 0 0] 69).alloc (.cells #[.bool false, .int .u64 0, .int .u64 0, .int .i64 0, .int .i64 0, .string ⟨#[]⟩, .string ⟨#[]⟩, .bool false, .int .i64 0, .slice none 0 0, .slice none 0 0, .slice none 0 0, .int .i64 0, .int .i64 0, .string ⟨#[]⟩, .int .u64 0, .slice none 0 0, .slice none 0 0, .slice none 0 0, .slice none 0 0, .int .i64 0, .string ⟨#[]⟩, .string ⟨#[]⟩, .int .u64 0, .int .i64 0] 50)
      simpa using this
    have BR : Blk ((((w.alloc (.cells (dmX M d) 69)).alloc (.cells (acc26 q ⟨5, i, ver, word, b, x⟩).toArray 39)).alloc (.cells #[.int .i64 0, .int .i64 0, .slice none 0 0, .slice none 0 0, .slice none 0 0] 69)).alloc (.cells #[.bool false, .int .u64 0, .int .u64 0, .int .i64 0, .int .i64 0, .string ⟨#[]⟩, .string ⟨#[]⟩, .bool false, .int .i64 0, .slice none 0 0, .slice none 0 0, .slice none 0 0, .int .i64 0, .int .i64 0, .string ⟨#[]⟩, .int .u64 0, .slice none 0 0, .slice none 0 0, .slice none 0 0, .slice none 0 0, .int .i64 0, .string ⟨#[]⟩, .string ⟨#[]⟩, .int .u64 0, .int .i64 0] 50)) (w.heap.size + 3) #[.bool false, .int .u64 0, .int .u64 0, .int .i64 0, .int .i64 0, .string ⟨#[]⟩, .string ⟨#[]⟩, .bool false, .int .i64 0, .slice none 0 0, .slice none 0 0, .slice none 0 0, .int .i64 0, .int .i64 0, .string ⟨#[]⟩, .int .u64 0, .slice none 0 0, .slice none 0 0, .slice none 0 0, .slice none 0 0, .int .i64 0, .string ⟨#[]⟩, .string ⟨#[]⟩, .int .u64 0, .int .i64 0] 50 := by
      have := Blk.new (((w.alloc (.cells (dmX M d) 69)).alloc (.cells (acc26 q ⟨5, i, ver, word, b, x⟩).toArray 39)).alloc (.cells #[.int .i64 0, .int .i64 0, .slice none 0 0, .slice none 0 0, .slice none 0 0] 69)) #[.bool false, .int .u64 0, .int .u64 0, .int .i64 0, .int .i64 0, .string ⟨#[]⟩, .string ⟨#[]⟩, .bool false, .int .i64 0, .slice none 0 0, .slice none 0 0, .slice none 0 0, .int .i64 0, .int .i64 0, .string ⟨#[]⟩, .int .u64 0, .slice none 0 0, .slice none 0 0, .slice none 0 0, .slice none 0 0, .int .i64 0, .string ⟨#[]⟩, .string ⟨#[]⟩, .int .u64 0, .int .i64 0] 50
      simpa using this
    go_enter Try.func30, Try.ntmps30
    go_upto_region 1 with (fail)
    generalize ((((w.alloc (.cells (dmX M d) 69)).alloc (.cells (acc26 q ⟨5, i, ver, word, b, x⟩).toArray 39)).alloc (.cells #[.int .i64 0, .int .i64 0, .slice none 0 0, .slice none 0 0, .slice none 0 0] 69)).alloc (.cells #[.bool false, .int .u64 0, .int .u64 0, .int .i64 0, .int .i64 0, .string ⟨#[]⟩, .string ⟨#[]⟩, .bool false, .int .i64 0, .slice none 0 0, .slice none 0 0, .slice none 0 0, .int .i64 0, .int .i64 0, .string ⟨#[]⟩, .int .u64 0, .slice none 0 0, .slice none 0 0, .slice none 0 0, .slice none 0 0, .int .i64 0, .string ⟨#[]⟩, .string ⟨#[]⟩, .int .u64 0, .int .i64 0] 50)) = w1 at hB BX BA BM BR ⊢
    have h1 := h.below hB
    have c0 : w1.cell? ⟨w.heap.size, 0, none⟩ = some (.int .i64 M.A) := BX.at 0 rfl
    have c1 : w1.cell? ⟨w.heap.size, 1, none⟩ = some (.int .i64 M.T) := BX.at 1 rfl
    have c2 : w1.cell? ⟨w.heap.size, 2, none⟩ = some (.slice d.h1.a M.L.length d.h1.c) := BX.at 2 rfl
    have c3 : w1.cell? ⟨w.heap.size, 3, none⟩ = some (.slice d.h2.a M.B.length d.h2.c) := BX.at 3 rfl
    have c4 : w1.cell? ⟨w.heap.size, 4, none⟩ = some (.slice d.h3.a M.R.length d.h3.c) := BX.at 4 rfl
    have a0 : w1.cell? ⟨w.heap.size + 1, 0, none⟩ = some (.int .i64 5) := BA.at 0 rfl
    have a1 : w1.cell? ⟨w.heap.size + 1, 1, none⟩ = some (.int .i64 i) := BA.at 1 rfl
    have a2 : w1.cell? ⟨w.heap.size + 1, 2, none⟩ = some (.int .u64 ver) := BA.at 2 rfl
    have a3 : w1.cell? ⟨w.heap.size + 1, 3, none⟩ = some (.int .u64 word) := BA.at 3 rfl
    go_wp2_with (refine wpList_load_row rfl 69 _ rfl w.heap.size rfl 69 _ (0, 0) _ (BX).h Try.underlying69 rfl (by kernel_rfl) ?_)
    refine (dnamed_any M d word w1 h1 hW.1 hW.2).mono ?_
    rintro e w2 ⟨rfl, hb2⟩
    rw [hN1, hp]
    replace hB := below_push2 hB hb2 (Nat.le_refl _)
    replace BX := BX.below hb2
    replace BA := BA.below hb2
    replace BM := BM.below hb2
    replace BR := BR.below hb2
    clear h1 hb2 c0 c1 c2 c3 c4 a0 a1 a2 a3
    have c3 : w2.cell? ⟨w.heap.size, 3, none⟩ = some (.slice d.h2.a M.B.length d.h2.c) := BX.at 3 rfl
    have BAr := acc_block BA
    have hl : p < M.B.length ∧ M.B.length ≤ 8192 := by have := h.lb; omega
    go_wp2_with (refine wpList_load_mid rfl 35 _ rfl (w.heap.size + 1) 4 rfl (blockA q b).toList _ BAr Try.underlying35 rfl (by kernel_rfl) ?_)
    refine (dset_any (S := boxS S w.heap.size) d.h2.a d.h2.c M.B p q b w2 ((h.blocks.more boxS_more).keep (Keeps.of_below hB)) (by omega) (by omega) ((hb.more boxS_more).keep (Keeps.of_below hB)) (boxS_lt hS BR.lt)).mono ?_
    rintro e w3 ⟨a', c', rfl, hB', hb3⟩
    have hl2 : (M.B.set p b).length = M.B.length := by simp
    rw [hl2]
    replace hB := below_push2 hB hb3 (Nat.le_refl _)
    replace BX := BX.below hb3
    replace BM := BM.below hb3
    replace BR := BR.below hb3
    have c3' : w3.cell? ⟨w.heap.size, 3, none⟩ = some (.slice d.h2.a M.B.length d.h2.c) := BX.at 3 rfl
    have f3 := BX.free 3
    have BX4 : Blk (w3.setCell ⟨w.heap.size, 3, none⟩ (.slice a' M.B.length c')) w.heap.size #[.int .i64 M.A, .int .i64 M.T, .slice d.h1.a M.L.length d.h1.c, .slice a' M.B.length c', .slice d.h3.a M.R.length d.h3.c] 69 := BX.set 3 (.slice a' M.B.length c')
    have F4 : Fr [w.heap.size, w.heap.size + 2, w.heap.size + 3] w3 (w3.setCell ⟨w.heap.size, 3, none⟩ (.slice a' M.B.length c')) := (Fr.refl _ _).set _ _ (.inl (by simp))
    have BM4 := BM.far ⟨w.heap.size, 3, none⟩ (.slice a' M.B.length c') (by simp only; omega)
    have BR4 := BR.far ⟨w.heap.size, 3, none⟩ (.slice a' M.B.length c') (by simp only; omega)
    clear c3 BAr BA
    go_upto_region 22 with (fail)
    generalize w3.setCell ⟨w.heap.size, 3, none⟩ (.slice a' M.B.length c') = w4 at BX4 F4 BM4 BR4 ⊢
    have FA : Fr [w.heap.size + 2] (w4) ((w4).setRow (w.heap.size + 2) (#[.int .i64 M.A, .int .i64 M.T, .slice d.h1.a M.L.length d.h1.c, .slice a' M.B.length c', .slice d.h3.a M.R.length d.h3.c])) := Fr.row (S := [w.heap.size + 2]) (w := w4) (w.heap.size + 2) (#[.int .i64 M.A, .int .i64 M.T, .slice d.h1.a M.L.length d.h1.c, .slice a' M.B.length c', .slice d.h3.a M.R.length d.h3.c]) (by simp)
    have MA := Blk.row BM4 (#[.int .i64 M.A, .int .i64 M.T, .slice d.h1.a M.L.length d.h1.c, .slice a' M.B.length c', .slice d.h3.a M.R.length d.h3.c])
    have RA := FA.blk BR4 (by simp)
    have RAB := Blk.row RA (ddR true)
    have MAB := (Fr.row (S := [w.heap.size + 3]) (w.heap.size + 3) (ddR true) (by simp)).blk MA (by simp)
    go_wp2_with (first
      | (refine wpList_load_row rfl 69 _ rfl w.heap.size rfl 69 _ (0, 0) _ (BX4).h Try.underlying69 rfl (by kernel_rfl) ?_)
      | (refine wpList_store_row rfl 69 _ _ rfl (w.heap.size + 2) (#[.int .i64 M.A, .int .i64 M.T, .slice d.h1.a M.L.length d.h1.c, .slice a' M.B.length c', .slice d.h3.a M.R.length d.h3.c]) rfl rfl 69 _ (BM4).h (by kernel_rfl) (by rfl) (by kernel_rfl) ?_)
      | (refine wpList_store_row rfl 50 _ _ rfl (w.heap.size + 3) (ddR true) rfl rfl 50 _ RA.h (by kernel_rfl) (by rfl) (by kernel_rfl) ?_))
    refine bodyPost_ret (res_cc rfl _ _ (w.heap.size + 2) 69 (#[.int .i64 M.A, .int .i64 M.T, .slice d.h1.a M.L.length d.h1.c, .slice a' M.B.length c', .slice d.h3.a M.R.length d.h3.c]) (0, 0) _ (w.heap.size + 3) 50 (ddR true) (0, 0) _ rfl MAB.h Try.underlying69 rfl (by kernel_rfl) rfl RAB.h Try.underlying50 rfl (by kernel_rfl)) rfl ?_
    exact ddput_end h hB F4 hB' hp hpA hN hN2
  by_cases i1 : (M.L.length : Int) ≤ i
  · have i0' : 0 ≤ i := by omega
    have i2' : (M.T : Int) ≤ i := by omega
    have j1 : decide (i < (M.L.length : Int)) = false := by simp; omega
    have j2 : decide (i < (M.T : Int)) = false := by simp; omega
    have hB : Below w.heap.size w ((((w.alloc (.cells (dmX M d) 69)).alloc (.cells (acc26 q ⟨5, i, ver, word, b, x⟩).toArray 39)).alloc (.cells #[.int .i64 0, .int .i64 0, .slice none 0 0, .slice none 0 0, .slice none 0 0] 69)).alloc (.cells #[.bool false, .int .u64 0, .int .u64 0, .int .i64 0, .int .i64 0, .string ⟨#[]⟩, .string ⟨#[]⟩, .bool false, .int .i64 0, .slice none 0 0, .slice none 0 0, .slice none 0 0, .int .i64 0, .int .i64 0, .string ⟨#[]⟩, .int .u64 0, .slice none 0 0, .slice none 0 0, .slice none 0 0, .slice none 0 0, .int .i64 0, .string ⟨#[]⟩, .string ⟨#[]⟩, .int .u64 0, .int .i64 0] 50)) := by (repeat (first | exact Below.refl _ _ | assumption | refine below_alloc2 ?_ (by first | exact Nat.le_refl _ | omega) _ | refine Below.drew ?_ | refine below_drewN ?_ _ | refine below_push2 ?_ ‹_› (by first | exact Nat.le_refl _ | omega) | refine Below.setCell ?_ (by first | (simp; done) | (simp; omega) | omega) _))
    have BX := (((Blk.new w (dmX M d) 69).alloc (.cells (acc26 q ⟨5, i, ver, word, b, x⟩).toArray 39)).alloc (.cells #[.int .i64 0, .int .i64 0, .slice none 0 0, .slice none 0 0, .slice none 0 0] 69)).alloc (.cells #[.bool false, .int .u64 0, .int .u64 0, .int .i64 0, .int .i64 0, .string ⟨#[]⟩, .string ⟨#[]⟩, .bool false, .int .i64 0, .slice none 0 0, .slice none 0 0, .slice none 0 0, .int .i64 0, .int .i64 0, .string ⟨#[]⟩, .int .u64 0, .slice none 0 0, .slice none 0 0, .slice none 0 0, .slice none 0 0, .int .i64 0, .string ⟨#[]⟩, .string ⟨#[]⟩, .int .u64 0, .int .i64 0] 50)
    have BA : Blk ((((w.alloc (.cells (dmX M d) 69)).alloc (.cells (acc26 q ⟨5, i, ver, word, b, x⟩).toArray 39)).alloc (.cells #[.int .i64 0, .int .i64 0, .slice none 0 0, .slice none 0 0, .slice none 0 0] 69)).alloc (.cells #[.bool false, .int .u64 0, .int .u64 0, .int .i64 0, .int .i64 0, .string ⟨#[]⟩, .string ⟨#[]⟩, .bool false, .int .i64 0, .slice none 0 0, .slice none 0 0, .slice none 0 0, .int .i64 0, .int .i64 0, .string ⟨#[]⟩, .int .u64 0, .slice none 0 0, .slice none 0 0, .slice none 0 0, .slice none 0 0, .int .i64 0, .string ⟨#[]⟩, .string ⟨#[]⟩, .int .u64 0, .int .i64 0] 50)) (w.heap.size + 1) (acc26 q ⟨5, i, ver, word, b, x⟩).toArray 39 := by
      have := ((Blk.new (w.alloc (.cells (dmX M d) 69)) (acc26 q ⟨5, i, ver, word, b, x⟩).toArray 39).alloc (.cells #[.int .i64 0, .int .i64 0, .slice none 0 0, .slice none 0 0, .slice none 0 0] 69)).alloc (.cells #[.bool false, .int .u64 0, .int .u64 0, .int .i64 0, .int .i64 0, .string ⟨#[]⟩, .string ⟨#[]⟩, .bool false, .int .i64 0, .slice none 0 0, .slice none 0 0, .slice none 0 0, .int .i64 0, .int .i64 0, .string ⟨#[]⟩, .int .u64 0, .slice none 0 0, .slice none 0 0, .slice none 0 0, .slice none 0 0, .int .i64 0, .string ⟨#[]⟩, .string ⟨#[]⟩, .int .u64 0, .int .i64 0] 50)
      simpa using this
    have BM : Blk ((((w.alloc (.cells (dmX M d) 69)).alloc (.cells (acc26 q ⟨5, i, ver, word, b, x⟩).toArray 39)).alloc (.cells #[.int .i64 0, .int .i64 0, .slice none 0 0, .slice none 0 0, .slice none 0 0] 69)).alloc (.cells #[.bool false, .int .u64 0, .int .u64 0, .int .i64 0, .int .i64 0, .string ⟨#[]⟩, .string ⟨#[]⟩, .bool false, .int .i64 0, .slice none 0 0, .slice none 0 0, .slice none 0 0, .int .i64 0, .int .i64 0, .string ⟨#[]⟩, .int .u64 0, .slice none 0 0, .slice none 0 0, .slice none 0 0, .slice none 0 0, .int .i64 0, .string ⟨#[]⟩, .string ⟨#[]⟩, .int .u64 0, .int .i64 0] 50)) (w.heap.size + 2) #[.int .i64 0, .int .i64 0, .slice none 0 0, .slice none 0 0, .slice none 0 0] 69 := by
      have := (Blk.new ((w.alloc (.cells (dmX M d) 69)).alloc (.cells (acc26 q ⟨5, i, ver, word, b, x⟩).toArray 39)) #[.int .i64 0, .int .i64 0, .slice none 0 0, .slice none 0 0, .slice none 0 0] 69).alloc (.cells #[.bool false, .int .u64 0, .int .u64 0, .int .i64 0, .int .i64 0, .string ⟨#[]⟩, .string ⟨#[]⟩, .bool false, .int .i64 0, .slice none 0 0, .slice none 0 0, .slice none 0 0, .int .i64 0, .int .i64 0, .string ⟨#[]⟩, .int .u64 0, .slice none 0 0, .slice none 0 0, .slice none 0 0, .slice none 0 0, .int .i64 0, .string ⟨#[]⟩, .string ⟨#[]⟩, .int .u64 0, .int .i64 0] 50)
      simpa using this
    have BR : Blk ((((w.alloc (.cells (dmX M d) 69)).alloc (.cells (acc26 q ⟨5, i, ver, word, b, x⟩).toArray 39)).alloc (.cells #[.int .i64 0, .int .i64 0, .slice none 0 0, .slice none 0 0, .slice none 0 0] 69)).alloc (.cells #[.bool false, .int .u64 0, .int .u64 0, .int .i64 0, .int .i64 0, .string ⟨#[]⟩, .string ⟨#[]⟩, .bool false, .int .i64 0, .slice none 0 0, .slice none 0 0, .slice none 0 0, .int .i64 0, .int .i64 0, .string ⟨#[]⟩, .int .u64 0, .slice none 0 0, .slice none 0 0, .slice none 0 0, .slice none 0 0, .int .i64 0, .string ⟨#[]⟩, .string ⟨#[]⟩, .int .u64 0, .int .i64 0] 50)) (w.heap.size + 3) #[.bool false, .int .u64 0, .int .u64 0, .int .i64 0, .int .i64 0, .string ⟨#[]⟩, .string ⟨#[]⟩, .bool false, .int .i64 0, .slice none 0 0, .slice none 0 0, .slice none 0 0, .int .i64 0, .int .i64 0, .string ⟨#[]⟩, .int .u64 0, .slice none 0 0, .slice none 0 0, .slice none 0 0, .slice none 0 0, .int .i64 0, .string ⟨#[]⟩, .string ⟨#[]⟩, .int .u64 0, .int .i64 0] 50 := by
      have := Blk.new (((w.alloc (.cells (dmX M d) 69)).alloc (.cells (acc26 q ⟨5, i, ver, word, b, x⟩).toArray 39)).alloc (.cells #[.int .i64 0, .int .i64 0, .slice none 0 0, .slice none 0 0, .slice none 0 0] 69)) #[.bool false, .int .u64 0, .int .u64 0, .int .i64 0, .int .i64 0, .string ⟨#[]⟩, .string ⟨#[]⟩, .bool false, .int .i64 0, .slice none 0 0, .slice none 0 0, .slice none 0 0, .int .i64 0, .int .i64 0, .string ⟨#[]⟩, .int .u64 0, .slice none 0 0, .slice none 0 0, .slice none 0 0, .slice none 0 0, .int .i64 0, .string ⟨#[]⟩, .string ⟨#[]⟩, .int .u64 0, .int .i64 0] 50
      simpa using this
    go_enter Try.func30, Try.ntmps30
    go_upto_region 1 with (fail)
    generalize ((((w.alloc (.cells (dmX M d) 69)).alloc (.cells (acc26 q ⟨5, i, ver, word, b, x⟩).toArray 39)).alloc (.cells #[.int .i64 0, .int .i64 0, .slice none 0 0, .slice none 0 0, .slice none 0 0] 69)).alloc (.cells #[.bool false, .int .u64 0, .int .u64 0, .int .i64 0, .int .i64 0, .string ⟨#[]⟩, .string ⟨#[]⟩, .bool false, .int .i64 0, .slice none 0 0, .slice none 0 0, .slice none 0 0, .int .i64 0, .int .i64 0, .string ⟨#[]⟩, .int .u64 0, .slice none 0 0, .slice none 0 0, .slice none 0 0, .slice none 0 0, .int .i64 0, .string ⟨#[]⟩, .string ⟨#[]⟩, .int .u64 0, .int .i64 0] 50)) = w1 at hB BX BA BM BR ⊢
    have h1 := h.below hB
    have c0 : w1.cell? ⟨w.heap.size, 0, none⟩ = some (.int .i64 M.A) := BX.at 0 rfl
    have c1 : w1.cell? ⟨w.heap.size, 1, none⟩ = some (.int .i64 M.T) := BX.at 1 rfl
    have c2 : w1.cell? ⟨w.heap.size, 2, none⟩ = some (.slice d.h1.a M.L.length d.h1.c) := BX.at 2 rfl
    have c3 : w1.cell? ⟨w.heap.size, 3, none⟩ = some (.slice d.h2.a M.B.length d.h2.c) := BX.at 3 rfl
    have c4 : w1.cell? ⟨w.heap.size, 4, none⟩ = some (.slice d.h3.a M.R.length d.h3.c) := BX.at 4 rfl
    have a0 : w1.cell? ⟨w.heap.size + 1, 0, none⟩ = some (.int .i64 5) := BA.at 0 rfl
    have a1 : w1.cell? ⟨w.heap.size + 1, 1, none⟩ = some (.int .i64 i) := BA.at 1 rfl
    have a2 : w1.cell? ⟨w.heap.size + 1, 2, none⟩ = some (.int .u64 ver) := BA.at 2 rfl
    have a3 : w1.cell? ⟨w.heap.size + 1, 3, none⟩ = some (.int .u64 word) := BA.at 3 rfl
    go_wp2_with (refine wpList_load_row rfl 69 _ rfl w.heap.size rfl 69 _ (0, 0) _ (BX).h Try.underlying69 rfl (by kernel_rfl) ?_)
    refine (dnamed_any M d word w1 h1 hW.1 hW.2).mono ?_
    rintro e w2 ⟨rfl, hb2⟩
    rw [hN1, hp]
    replace hB := below_push2 hB hb2 (Nat.le_refl _)
    replace BX := BX.below hb2
    replace BA := BA.below hb2
    replace BM := BM.below hb2
    replace BR := BR.below hb2
    clear h1 hb2 c0 c1 c2 c3 c4 a0 a1 a2 a3
    have c3 : w2.cell? ⟨w.heap.size, 3, none⟩ = some (.slice d.h2.a M.B.length d.h2.c) := BX.at 3 rfl
    have BAr := acc_block BA
    have hl : p < M.B.length ∧ M.B.length ≤ 8192 := by have := h.lb; omega
    go_wp2_with (refine wpList_load_mid rfl 35 _ rfl (w.heap.size + 1) 4 rfl (blockA q b).toList _ BAr Try.underlying35 rfl (by kernel_rfl) ?_)
    refine (dset_any (S := boxS S w.heap.size) d.h2.a d.h2.c M.B p q b w2 ((h.blocks.more boxS_more).keep (Keeps.of_below hB)) (by omega) (by omega) ((hb.more boxS_more).keep (Keeps.of_below hB)) (boxS_lt hS BR.lt)).mono ?_
    rintro e w3 ⟨a', c', rfl, hB', hb3⟩
    have hl2 : (M.B.set p b).length = M.B.length := by simp
    rw [hl2]
    replace hB := below_push2 hB hb3 (Nat.le_refl _)
    replace BX := BX.below hb3
    replace BM := BM.below hb3
    replace BR := BR.below hb3
    have c3' : w3.cell? ⟨w.heap.size, 3, none⟩ = some (.slice d.h2.a M.B.length d.h2.c) := BX.at 3 rfl
    have f3 := BX.free 3
    have BX4 : Blk (w3.setCell ⟨w.heap.size, 3, none⟩ (.slice a' M.B.length c')) w.heap.size #[.int .i64 M.A, .int .i64 M.T, .slice d.h1.a M.L.length d.h1.c, .slice a' M.B.length c', .slice d.h3.a M.R.length d.h3.c] 69 := BX.set 3 (.slice a' M.B.length c')
    have F4 : Fr [w.heap.size, w.heap.size + 2, w.heap.size + 3] w3 (w3.setCell ⟨w.heap.size, 3, none⟩ (.slice a' M.B.length c')) := (Fr.refl _ _).set _ _ (.inl (by simp))
    have BM4 := BM.far ⟨w.heap.size, 3, none⟩ (.slice a' M.B.length c') (by simp only; omega)
    have BR4 := BR.far ⟨w.heap.size, 3, none⟩ (.slice a' M.B.length c') (by simp only; omega)
    clear c3 BAr BA
    go_upto_region 22 with (fail)
    generalize w3.setCell ⟨w.heap.size, 3, none⟩ (.slice a' M.B.length c') = w4 at BX4 F4 BM4 BR4 ⊢
    have FA : Fr [w.heap.size + 2] (w4) ((w4).setRow (w.heap.size + 2) (#[.int .i64 M.A, .int .i64 M.T, .slice d.h1.a M.L.length d.h1.c, .slice a' M.B.length c', .slice d.h3.a M.R.length d.h3.c])) := Fr.row (S := [w.heap.size + 2]) (w := w4) (w.heap.size + 2) (#[.int .i64 M.A, .int .i64 M.T, .slice d.h1.a M.L.length d.h1.c, .slice a' M.B.length c', .slice d.h3.a M.R.length d.h3.c]) (by simp)
    have MA := Blk.row BM4 (#[.int .i64 M.A, .int .i64 M.T, .slice d.h1.a M.L.length d.h1.c, .slice a' M.B.length c', .slice d.h3.a M.R.length d.h3.c])
    have RA := FA.blk BR4 (by simp)
    have RAB := Blk.row RA (ddR true)
    have MAB := (Fr.row (S := [w.heap.size + 3]) (w.heap.size + 3) (ddR true) (by simp)).blk MA (by simp)
    go_wp2_with (first
      | (refine wpList_load_row rfl 69 _ rfl w.heap.size rfl 69 _ (0, 0) _ (BX4).h Try.underlying69 rfl (by kernel_rfl) ?_)
      | (refine wpList_store_row rfl 69 _ _ rfl (w.heap.size + 2) (#[.int .i64 M.A, .int .i64 M.T, .slice d.h1.a M.L.length d.h1.c, .slice a' M.B.length c', .slice d.h3.a M.R.length d.h3.c]) rfl rfl 69 _ (BM4).h (by kernel_rfl) (by rfl) (by kernel_rfl) ?_)
      | (refine wpList_store_row rfl 50 _ _ rfl (w.heap.size + 3) (ddR true) rfl rfl 50 _ RA.h (by kernel_rfl) (by rfl) (by kernel_rfl) ?_))
    refine bodyPost_ret (res_cc rfl _ _ (w.heap.size + 2) 69 (#[.int .i64 M.A, .int .i64 M.T, .slice d.h1.a M.L.length d.h1.c, .slice a' M.B.length c', .slice d.h3.a M.R.length d.h3.c]) (0, 0) _ (w.heap.size + 3) 50 (ddR true) (0, 0) _ rfl MAB.h Try.underlying69 rfl (by kernel_rfl) rfl RAB.h Try.underlying50 rfl (by kernel_rfl)) rfl ?_
    exact ddput_end h hB F4 hB' hp hpA hN hN2
  by_cases i2 : (M.T : Int) ≤ i
  · have i0' : 0 ≤ i := by omega
    have i1' : i < (M.L.length : Int) := by omega
    have j1 : decide (i < (M.L.length : Int)) = true := by simp; omega
    have j2 : decide (i < (M.T : Int)) = false := by simp; omega
    have hB : Below w.heap.size w ((((w.alloc (.cells (dmX M d) 69)).alloc (.cells (acc26 q ⟨5, i, ver, word, b, x⟩).toArray 39)).alloc (.cells #[.int .i64 0, .int .i64 0, .slice none 0 0, .slice none 0 0, .slice none 0 0] 69)).alloc (.cells #[.bool false, .int .u64 0, .int .u64 0, .int .i64 0, .int .i64 0, .string ⟨#[]⟩, .string ⟨#[]⟩, .bool false, .int .i64 0, .slice none 0 0, .slice none 0 0, .slice none 0 0, .int .i64 0, .int .i64 0, .string ⟨#[]⟩, .int .u64 0, .slice none 0 0, .slice none 0 0, .slice none 0 0, .slice none 0 0, .int .i64 0, .string ⟨#[]⟩, .string ⟨#[]⟩, .int .u64 0, .int .i64 0] 50)) := by (repeat (first | exact Below.refl _ _ | assumption | refine below_alloc2 ?_ (by first | exact Nat.le_refl _ | omega) _ | refine Below.drew ?_ | refine below_drewN ?_ _ | refine below_push2 ?_ ‹_› (by first | exact Nat.le_refl _ | omega) | refine Below.setCell ?_ (by first | (simp; done) | (simp; omega) | omega) _))
    have BX := (((Blk.new w (dmX M d) 69).alloc (.cells (acc26 q ⟨5, i, ver, word, b, x⟩).toArray 39)).alloc (.cells #[.int .i64 0, .int .i64 0, .slice none 0 0, .slice none 0 0, .slice none 0 0] 69)).alloc (.cells #[.bool false, .int .u64 0, .int .u64 0, .int .i64 0, .int .i64 0, .string ⟨#[]⟩, .string ⟨#[]⟩, .bool false, .int .i64 0, .slice none 0 0, .slice none 0 0, .slice none 0 0, .int .i64 0, .int .i64 0, .string ⟨#[]⟩, .int .u64 0, .slice none 0 0, .slice none 0 0, .slice none 0 0, .slice none 0 0, .int .i64 0, .string ⟨#[]⟩, .string ⟨#[]⟩, .int .u64 0, .int .i64 0] 50)
    have BA : Blk ((((w.alloc (.cells (dmX M d) 69)).alloc (.cells (acc26 q ⟨5, i, ver, word, b, x⟩).toArray 39)).alloc (.cells #[.int .i64 0, .int .i64 0, .slice none 0 0, .slice none 0 0, .slice none 0 0] 69)).alloc (.cells #[.bool false, .int .u64 0, .int .u64 0, .int .i64 0, .int .i64 0, .string ⟨#[]⟩, .string ⟨#[]⟩, .bool false, .int .i64 0, .slice none 0 0, .slice none 0 0, .slice none 0 0, .int .i64 0, .int .i64 0, .string ⟨#[]⟩, .int .u64 0, .slice none 0 0, .slice none 0 0, .slice none 0 0, .slice none 0 0, .int .i64 0, .string ⟨#[]⟩, .string ⟨#[]⟩, .int .u64 0, .int .i64 0] 50)) (w.heap.size + 1) (acc26 q ⟨5, i, ver, word, b, x⟩).toArray 39 := by
      have := ((Blk.new (w.alloc (.cells (dmX M d) 69)) (acc26 q ⟨5, i, ver, word, b, x⟩).toArray 39).alloc (.cells #[.int .i64 0, .int .i64 0, .slice none 0 0, .slice none 0 0, .slice none 0 0] 69)).alloc (.cells #[.bool false, .int .u64 0, .int .u64 0, .int .i64 0, .int .i64 0, .string ⟨#[]⟩, .string ⟨#[]⟩, .bool false, .int .i64 0, .slice none 0 0, .slice none 0 0, .slice none 0 0, .int .i64 0, .int .i64 0, .string ⟨#[]⟩, .int .u64 0, .slice none 0 0, .slice none 0 0, .slice none 0 0, .slice none 0 0, .int .i64 0, .string ⟨#[]⟩, .string ⟨#[]⟩, .int .u64 0, .int .i64 0] 50)
      simpa using this
    have BM : Blk ((((w.alloc (.cells (dmX M d) 69)).alloc (.cells (acc26 q ⟨5, i, ver, word, b, x⟩).toArray 39)).alloc (.cells #[.int .i64 0, .int .i64 0, .slice none 0 0, .slice none 0 0, .slice none 0 0] 69)).alloc (.cells #[.bool false, .int .u64 0, .int .u64 0, .int .i64 0, .int .i64 0, .string ⟨#[]⟩, .string ⟨#[]⟩, .bool false, .int .i64 0, .slice none 0 0, .slice none 0 0, .slice none 0 0, .int .i64 0, .int .i64 0, .string ⟨#[]⟩, .int .u64 0, .slice none 0 0, .slice none 0 0, .slice none 0 0, .slice none 0 0, .int .i64 0, .string ⟨#[]⟩, .string ⟨#[]⟩, .int .u64 0, .int .i64 0] 50)) (w.heap.size + 2) #[.int .i64 0, .int .i64 0, .slice none 0 0, .slice none 0 0, .slice none 0 0] 69 := by
      have := (Blk.new ((w.alloc (.cells (dmX M d) 69)).alloc (.cells (acc26 q ⟨5, i, ver, word, b, x⟩).toArray 39)) #[.int .i64 0, .int .i64 0, .slice none 0 0, .slice none 0 0, .slice none 0 0] 69).alloc (.cells #[.bool false, .int .u64 0, .int .u64 0, .int .i64 0, .int .i64 0, .string ⟨#[]⟩, .string ⟨#[]⟩, .bool false, .int .i64 0, .slice none 0 0, .slice none 0 0, .slice none 0 0, .int .i64 0, .int .i64 0, .string ⟨#[]⟩, .int .u64 0, .slice none 0 0, .slice none 0 0, .slice none 0 0, .slice none 0 0, .int .i64 0, .string ⟨#[]⟩, .string ⟨#[]⟩, .int .u64 0, .int .i64 0] 50)
      simpa using this
    have BR : Blk ((((w.alloc (.cells (dmX M d) 69)).alloc (.cells (acc26 q ⟨5, i, ver, word, b, x⟩).toArray 39)).alloc (.cells #[.int .i64 0, .int .i64 0, .slice none 0 0, .slice none 0 0, .slice none 0 0] 69)).alloc (.cells #[.bool false, .int .u64 0, .int .u64 0, .int .i64 0, .int .i64 0, .string ⟨#[]⟩, .string ⟨#[]⟩, .bool false, .int .i64 0, .slice none 0 0, .slice none 0 0, .slice none 0 0, .int .i64 0, .int .i64 0, .string ⟨#[]⟩, .int .u64 0, .slice none 0 0, .slice none 0 0, .slice none 0 0, .slice none 0 0, .int .i64 0, .string ⟨#[]⟩, .string ⟨#[]⟩, .int .u64 0, .int .i64 0] 50)) (w.heap.size + 3) #[.bool false, .int .u64 0, .int .u64 0, .int .i64 0, .int .i64 0, .string ⟨#[]⟩, .string ⟨#[]⟩, .bool false, .int .i64 0, .slice none 0 0, .slice none 0 0, .slice none 0 0, .int .i64 0, .int .i64 0, .string ⟨#[]⟩, .int .u64 0, .slice none 0 0, .slice none 0 0, .slice none 0 0, .slice none 0 0, .int .i64 0, .string ⟨#[]⟩, .string ⟨#[]⟩, .int .u64 0, .int .i64 0] 50 := by
      have := Blk.new (((w.alloc (.cells (dmX M d) 69)).alloc (.cells (acc26 q ⟨5, i, ver, word, b, x⟩).toArray 39)).alloc (.cells #[.int .i64 0, .int .i64 0, .slice none 0 0, .slice none 0 0, .slice none 0 0] 69)) #[.bool false, .int .u64 0, .int .u64 0, .int .i64 0, .int .i64 0, .string ⟨#[]⟩, .string ⟨#[]⟩, .bool false, .int .i64 0, .slice none 0 0, .slice none 0 0, .slice none 0 0, .int .i64 0, .int .i64 0, .string ⟨#[]⟩, .int .u64 0, .slice none 0 0, .slice none 0 0, .slice none 0 0, .slice none 0 0, .int .i64 0, .string ⟨#[]⟩, .string ⟨#[]⟩, .int .u64 0, .int .i64 0] 50
      simpa using this
    go_enter Try.func30, Try.ntmps30
    go_upto_region 1 with (fail)
    generalize ((((w.alloc (.cells (dmX M d) 69)).alloc (.cells (acc26 q ⟨5, i, ver, word, b, x⟩).toArray 39)).alloc (.cells #[.int .i64 0, .int .i64 0, .slice none 0 0, .slice none 0 0, .slice none 0 0] 69)).alloc (.cells #[.bool false, .int .u64 0, .int .u64 0, .int .i64 0, .int .i64 0, .string ⟨#[]⟩, .string ⟨#[]⟩, .bool false, .int .i64 0, .slice none 0 0, .slice none 0 0, .slice none 0 0, .int .i64 0, .int .i64 0, .string ⟨#[]⟩, .int .u64 0, .slice none 0 0, .slice none 0 0, .slice none 0 0, .slice none 0 0, .int .i64 0, .string ⟨#[]⟩, .string ⟨#[]⟩, .int .u64 0, .int .i64 0] 50)) = w1 at hB BX BA BM BR ⊢
    have h1 := h.below hB
    have c0 : w1.cell? ⟨w.heap.size, 0, none⟩ = some (.int .i64 M.A) := BX.at 0 rfl
    have c1 : w1.cell? ⟨w.heap.size, 1, none⟩ = some (.int .i64 M.T) := BX.at 1 rfl
    have c2 : w1.cell? ⟨w.heap.size, 2, none⟩ = some (.slice d.h1.a M.L.length d.h1.c) := BX.at 2 rfl
    have c3 : w1.cell? ⟨w.heap.size, 3, none⟩ = some (.slice d.h2.a M.B.length d.h2.c) := BX.at 3 rfl
    have c4 : w1.cell? ⟨w.heap.size, 4, none⟩ = some (.slice d.h3.a M.R.length d.h3.c) := BX.at 4 rfl
    have a0 : w1.cell? ⟨w.heap.size + 1, 0, none⟩ = some (.int .i64 5) := BA.at 0 rfl
    have a1 : w1.cell? ⟨w.heap.size + 1, 1, none⟩ = some (.int .i64 i) := BA.at 1 rfl
    have a2 : w1.cell? ⟨w.heap.size + 1, 2, none⟩ = some (.int .u64 ver) := BA.at 2 rfl
    have a3 : w1.cell? ⟨w.heap.size + 1, 3, none⟩ = some (.int .u64 word) := BA.at 3 rfl
    go_wp2_with (refine wpList_load_row rfl 69 _ rfl w.heap.size rfl 69 _ (0, 0) _ (BX).h Try.underlying69 rfl (by kernel_rfl) ?_)
    refine (dnamed_any M d word w1 h1 hW.1 hW.2).mono ?_
    rintro e w2 ⟨rfl, hb2⟩
    rw [hN1, hp]
    replace hB := below_push2 hB hb2 (Nat.le_refl _)
    replace BX := BX.below hb2
    replace BA := BA.below hb2
    replace BM := BM.below hb2
    replace BR := BR.below hb2
    clear h1 hb2 c0 c1 c2 c3 c4 a0 a1 a2 a3
    have c3 : w2.cell? ⟨w.heap.size, 3, none⟩ = some (.slice d.h2.a M.B.length d.h2.c) := BX.at 3 rfl
    have BAr := acc_block BA
    have hl : p < M.B.length ∧ M.B.length ≤ 8192 := by have := h.lb; omega
    go_wp2_with (refine wpList_load_mid rfl 35 _ rfl (w.heap.size + 1) 4 rfl (blockA q b).toList _ BAr Try.underlying35 rfl (by kernel_rfl) ?_)
    refine (dset_any (S := boxS S w.heap.size) d.h2.a d.h2.c M.B p q b w2 ((h.blocks.more boxS_more).keep (Keeps.of_below hB)) (by omega) (by omega) ((hb.more boxS_more).keep (Keeps.of_below hB)) (boxS_lt hS BR.lt)).mono ?_
    rintro e w3 ⟨a', c', rfl, hB', hb3⟩
    have hl2 : (M.B.set p b).length = M.B.length := by simp
    rw [hl2]
    replace hB := below_push2 hB hb3 (Nat.le_refl _)
    replace BX := BX.below hb3
    replace BM := BM.below hb3
    replace BR := BR.below hb3
    have c3' : w3.cell? ⟨w.heap.size, 3, none⟩ = some (.slice d.h2.a M.B.length d.h2.c) := BX.at 3 rfl
    have f3 := BX.free 3
    have BX4 : Blk (w3.setCell ⟨w.heap.size, 3, none⟩ (.slice a' M.B.length c')) w.heap.size #[.int .i64 M.A, .int .i64 M.T, .slice d.h1.a M.L.length d.h1.c, .slice a' M.B.length c', .slice d.h3.a M.R.length d.h3.c] 69 := BX.set 3 (.slice a' M.B.length c')
    have F4 : Fr [w.heap.size, w.heap.size + 2, w.heap.size + 3] w3 (w3.setCell ⟨w.heap.size, 3, none⟩ (.slice a' M.B.length c')) := (Fr.refl _ _).set _ _ (.inl (by simp))
    have BM4 := BM.far ⟨w.heap.size, 3, none⟩ (.slice a' M.B.length c') (by simp only; omega)
    have BR4 := BR.far ⟨w.heap.size, 3, none⟩ (.slice a' M.B.length c') (by simp only; omega)
    clear c3 BAr BA
    go_upto_region 22 with (fail)
    generalize w3.setCell ⟨w.heap.size, 3, none⟩ (.slice a' M.B.length c') = w4 at BX4 F4 BM4 BR4 ⊢
    have FA : Fr [w.heap.size + 2] (w4) ((w4).setRow (w.heap.size + 2) (#[.int .i64 M.A, .int .i64 M.T, .slice d.h1.a M.L.length d.h1.c, .slice a' M.B.length c', .slice d.h3.a M.R.length d.h3.c])) := Fr.row (S := [w.heap.size + 2]) (w := w4) (w.heap.size + 2) (#[.int .i64 M.A, .int .i64 M.T, .slice d.h1.a M.L.length d.h1.c, .slice a' M.B.length c', .slice d.h3.a M.R.length d.h3.c]) (by simp)
    have MA := Blk.row BM4 (#[.int .i64 M.A, .int .i64 M.T, .slice d.h1.a M.L.length d.h1.c, .slice a' M.B.length c', .slice d.h3.a M.R.length d.h3.c])
    have RA := FA.blk BR4 (by simp)
    have RAB := Blk.row RA (ddR true)
    have MAB := (Fr.row (S := [w.heap.size + 3]) (w.heap.size + 3) (ddR true) (by simp)).blk MA (by simp)
    go_wp2_with (first
      | (refine wpList_load_row rfl 69 _ rfl w.heap.size rfl 69 _ (0, 0) _ (BX4).h Try.underlying69 rfl (by kernel_rfl) ?_)
      | (refine wpList_store_row rfl 69 _ _ rfl (w.heap.size + 2) (#[.int .i64 M.A, .int .i64 M.T, .slice d.h1.a M.L.length d.h1.c, .slice a' M.B.length c', .slice d.h3.a M.R.length d.h3.c]) rfl rfl 69 _ (BM4).h (by kernel_rfl) (by rfl) (by kernel_rfl) ?_)
      | (refine wpList_store_row rfl 50 _ _ rfl (w.heap.size + 3) (ddR true) rfl rfl 50 _ RA.h (by kernel_rfl) (by rfl) (by kernel_rfl) ?_))
    refine bodyPost_ret (res_cc rfl _ _ (w.heap.size + 2) 69 (#[.int .i64 M.A, .int .i64 M.T, .slice d.h1.a M.L.length d.h1.c, .slice a' M.B.length c', .slice d.h3.a M.R.length d.h3.c]) (0, 0) _ (w.heap.size + 3) 50 (ddR true) (0, 0) _ rfl MAB.h Try.underlying69 rfl (by kernel_rfl) rfl RAB.h Try.underlying50 rfl (by kernel_rfl)) rfl ?_
    exact ddput_end h hB F4 hB' hp hpA hN hN2
  have i0' : 0 ≤ i := by omega
  have i1' : i < (M.L.length : Int) := by omega
  have i2' : i < (M.T : Int) := by omega
  have j1 : decide (i < (M.L.length : Int)) = true := by simp; omega
  have j2 : decide (i < (M.T : Int)) = true := by simp; omega
  have hB : Below w.heap.size w ((((w.alloc (.cells (dmX M d) 69)).alloc (.cells (acc26 q ⟨5, i, ver, word, b, x⟩).toArray 39)).alloc (.cells #[.int .i64 0, .int .i64 0, .slice none 0 0, .slice none 0 0, .slice none 0 0] 69)).alloc (.cells #[.bool false, .int .u64 0, .int .u64 0, .int .i64 0, .int .i64 0, .string ⟨#[]⟩, .string ⟨#[]⟩, .bool false, .int .i64 0, .slice none 0 0, .slice none 0 0, .slice none 0 0, .int .i64 0, .int .i64 0, .string ⟨#[]⟩, .int .u64 0, .slice none 0 0, .slice none 0 0, .slice none 0 0, .slice none 0 0, .int .i64 0, .string ⟨#[]⟩, .string ⟨#[]⟩, .int .u64 0, .int .i64 0] 50)) := by (repeat (first | exact Below.refl _ _ | assumption | refine below_alloc2 ?_ (by first | exact Nat.le_refl _ | omega) _ | refine Below.drew ?_ | refine below_drewN ?_ _ | refine below_push2 ?_ ‹_› (by first | exact Nat.le_refl _ | omega) | refine Below.setCell ?_ (by first | (simp; done) | (simp; omega) | omega) _))
  have BX := (((Blk.new w (dmX M d) 69).alloc (.cells (acc26 q ⟨5, i, ver, word, b, x⟩).toArray 39)).alloc (.cells #[.int .i64 0, .int .i64 0, .slice none 0 0, .slice none 0 0, .slice none 0 0] 69)).alloc (.cells #[.bool false, .int .u64 0, .int .u64 0, .int .i64 0, .int .i64 0, .string ⟨#[]⟩, .string ⟨#[]⟩, .bool false, .int .i64 0, .slice none 0 0, .slice none 0 0, .slice none 0 0, .int .i64 0, .int .i64 0, .string ⟨#[]⟩, .int .u64 0, .slice none 0 0, .slice none 0 0, .slice none 0 0, .slice none 0 0, .int .i64 0, .string ⟨#[]⟩, .string ⟨#[]⟩, .int .u64 0, .int .i64 0] 50)
  have BA : Blk ((((w.alloc (.cells (dmX M d) 69)).alloc (.cells (acc26 q ⟨5, i, ver, word, b, x⟩).toArray 39)).alloc (.cells #[.int .i64 0, .int .i64 0, .slice none 0 0, .slice none 0 0, .slice none 0 0] 69)).alloc (.cells #[.bool false, .int .u64 0, .int .u64 0, .int .i64 0, .int .i64 0, .string ⟨#[]⟩, .string ⟨#[]⟩, .bool false, .int .i64 0, .slice none 0 0, .slice none 0 0, .slice none 0 0, .int .i64 0, .int .i64 0, .string ⟨#[]⟩, .int .u64 0, .slice none 0 0, .slice none 0 0, .slice none 0 0, .slice none 0 0, .int .i64 0, .string ⟨#[]⟩, .string ⟨#[]⟩, .int .u64 0, .int .i64 0] 50)) (w.heap.size + 1) (acc26 q ⟨5, i, ver, word, b, x⟩).toArray 39 := by
    have := ((Blk.new (w.alloc (.cells (dmX M d) 69)) (acc26 q ⟨5, i, ver, word, b, x⟩).toArray 39).alloc (.cells #[.int .i64 0, .int .i64 0, .slice none 0 0, .slice none 0 0, .slice none 0 0] 69)).alloc (.cells #[.bool false, .int .u64 0, .int .u64 0, .int .i64 0, .int .i64 0, .string ⟨#[]⟩, .string ⟨#[]⟩, .bool false, .int .i64 0, .slice none 0 0, .slice none 0 0, .slice none 0 0, .int .i64 0, .int .i64 0, .string ⟨#[]⟩, .int .u64 0, .slice none 0 0, .slice none 0 0, .slice none 0 0, .slice none 0 0, .int .i64 0, .string ⟨#[]⟩, .string ⟨#[]⟩, .int .u64 0, .int .i64 0] 50)
    simpa using this
  have BM : Blk ((((w.alloc (.cells (dmX M d) 69)).alloc (.cells (acc26 q ⟨5, i, ver, word, b, x⟩).toArray 39)).alloc (.cells #[.int .i64 0, .int .i64 0, .slice none 0 0, .slice none 0 0, .slice none 0 0] 69)).alloc (.cells #[.bool false, .int .u64 0, .int .u64 0, .int .i64 0, .int .i64 0, .string ⟨#[]⟩, .string ⟨#[]⟩, .bool false, .int .i64 0, .slice none 0 0, .slice none 0 0, .slice none 0 0, .int .i64 0, .int .i64 0, .string ⟨#[]⟩, .int .u64 0, .slice none 0 0, .slice none 0 0, .slice none 0 0, .slice none 0 0, .int .i64 0, .string ⟨#[]⟩, .string ⟨#[]⟩, .int .u64 0, .int .i64 0] 50)) (w.heap.size + 2) #[.int .i64 0, .int .i64 0, .slice none 0 0, .slice none 0 0, .slice none 0 0] 69 := by
    have := (Blk.new ((w.alloc (.cells (dmX M d) 69)).alloc (.cells (acc26 q ⟨5, i, ver, word, b, x⟩).toArray 39)) #[.int .i64 0, .int .i64 0, .slice none 0 0, .slice none 0 0, .slice none 0 0] 69).alloc (.cells #[.bool false, .int .u64 0, .int .u64 0, .int .i64 0, .int .i64 0, .string ⟨#[]⟩, .string ⟨#[]⟩, .bool false, .int .i64 0, .slice none 0 0, .slice none 0 0, .slice none 0 0, .int .i64 0, .int .i64 0, .string ⟨#[]⟩, .int .u64 0, .slice none 0 0, .slice none 0 0, .slice none 0 0, .slice none 0 0, .int .i64 0, .string ⟨#[]⟩, .string ⟨#[]⟩, .int .u64 0, .int .i64 0] 50)
    simpa using this
  have BR : Blk ((((w.alloc (.cells (dmX M d) 69)).alloc (.cells (acc26 q ⟨5, i, ver, word, b, x⟩).toArray 39)).alloc (.cells #[.int .i64 0, .int .i64 0, .slice none 0 0, .slice none 0 0, .slice none 0 0] 69)).alloc (.cells #[.bool false, .int .u64 0, .int .u64 0, .int .i64 0, .int .i64 0, .string ⟨#[]⟩, .string ⟨#[]⟩, .bool false, .int .i64 0, .slice none 0 0, .slice none 0 0, .slice none 0 0, .int .i64 0, .int .i64 0, .string ⟨#[]⟩, .int .u64 0, .slice none 0 0, .slice none 0 0, .slice none 0 0, .slice none 0 0, .int .i64 0, .string ⟨#[]⟩, .string ⟨#[]⟩, .int .u64 0, .int .i64 0] 50)) (w.heap.size + 3) #[.bool false, .int .u64 0, .int .u64 0, .int .i64 0, .int .i64 0, .string ⟨#[]⟩, .string ⟨#[]⟩, .bool false, .int .i64 0, .slice none 0 0, .slice none 0 0, .slice none 0 0, .int .i64 0, .int .i64 0, .string ⟨#[]⟩, .int .u64 0, .slice none 0 0, .slice none 0 0, .slice none 0 0, .slice none 0 0, .int .i64 0, .string ⟨#[]⟩, .string ⟨#[]⟩, .int .u64 0, .int .i64 0] 50 := by
    have := Blk.new (((w.alloc (.cells (dmX M d) 69)).alloc (.cells (acc26 q ⟨5, i, ver, word, b, x⟩).toArray 39)).alloc (.cells #[.int .i64 0, .int .i64 0, .slice none 0 0, .slice none 0 0, .slice none 0 0] 69)) #[.bool false, .int .u64 0, .int .u64 0, .int .i64 0, .int .i64 0, .string ⟨#[]⟩, .string ⟨#[]⟩, .bool false, .int .i64 0, .slice none 0 0, .slice none 0 0, .slice none 0 0, .int .i64 0, .int .i64 0, .string ⟨#[]⟩, .int .u64 0, .slice none 0 0, .slice none 0 0, .slice none 0 0, .slice none 0 0, .int .i64 0, .string ⟨#[]⟩, .string ⟨#[]⟩, .int .u64 0, .int .i64 0] 50
    simpa using this
  go_enter Try.func30, Try.ntmps30
  go_upto_region 1 with (fail)
  generalize ((((w.alloc (.cells (dmX M d) 69)).alloc (.cells (acc26 q ⟨5, i, ver, word, b, x⟩).toArray 39)).alloc (.cells #[.int .i64 0, .int .i64 0, .slice none 0 0, .slice none 0 0, .slice none 0 0] 69)).alloc (.cells #[.bool false, .int .u64 0, .int .u64 0, .int .i64 0, .int .i64 0, .string ⟨#[]⟩, .string ⟨#[]⟩, .bool false, .int .i64 0, .slice none 0 0, .slice none 0 0, .slice none 0 0, .int .i64 0, .int .i64 0, .string ⟨#[]⟩, .int .u64 0, .slice none 0 0, .slice none 0 0, .slice none 0 0, .slice none 0 0, .int .i64 0, .string ⟨#[]⟩, .string ⟨#[]⟩, .int .u64 0, .int .i64 0] 50)) = w1 at hB BX BA BM BR ⊢
  have h1 := h.below hB
  have c0 : w1.cell? ⟨w.heap.size, 0, none⟩ = some (.int .i64 M.A) := BX.at 0 rfl
  have c1 : w1.cell? ⟨w.heap.size, 1, none⟩ = some (.int .i64 M.T) := BX.at 1 rfl
  have c2 : w1.cell? ⟨w.heap.size, 2, none⟩ = some (.slice d.h1.a M.L.length d.h1.c) := BX.at 2 rfl
  have c3 : w1.cell? ⟨w.heap.size, 3, none⟩ = some (.slice d.h2.a M.B.length d.h2.c) := BX.at 3 rfl
  have c4 : w1.cell? ⟨w.heap.size, 4, none⟩ = some (.slice d.h3.a M.R.length d.h3.c) := BX.at 4 rfl
  have a0 : w1.cell? ⟨w.heap.size + 1, 0, none⟩ = some (.int .i64 5) := BA.at 0 rfl
  have a1 : w1.cell? ⟨w.heap.size + 1, 1, none⟩ = some (.int .i64 i) := BA.at 1 rfl
  have a2 : w1.cell? ⟨w.heap.size + 1, 2, none⟩ = some (.int .u64 ver) := BA.at 2 rfl
  have a3 : w1.cell? ⟨w.heap.size + 1, 3, none⟩ = some (.int .u64 word) := BA.at 3 rfl
  go_wp2_with (refine wpList_load_row rfl 69 _ rfl w.heap.size rfl 69 _ (0, 0) _ (BX).h Try.underlying69 rfl (by kernel_rfl) ?_)
  refine (dnamed_any M d word w1 h1 hW.1 hW.2).mono ?_
  rintro e w2 ⟨rfl, hb2⟩
  rw [hN1, hp]
  replace hB := below_push2 hB hb2 (Nat.le_refl _)
  replace BX := BX.below hb2
  replace BA := BA.below hb2
  replace BM := BM.below hb2
  replace BR := BR.below hb2
  clear h1 hb2 c0 c1 c2 c3 c4 a0 a1 a2 a3
  have c3 : w2.cell? ⟨w.heap.size, 3, none⟩ = some (.slice d.h2.a M.B.length d.h2.c) := BX.at 3 rfl
  have BAr := acc_block BA
  have hl : p < M.B.length ∧ M.B.length ≤ 8192 := by have := h.lb; omega
  go_wp2_with (refine wpList_load_mid rfl 35 _ rfl (w.heap.size + 1) 4 rfl (blockA q b).toList _ BAr Try.underlying35 rfl (by kernel_rfl) ?_)
  refine (dset_any (S := boxS S w.heap.size) d.h2.a d.h2.c M.B p q b w2 ((h.blocks.more boxS_more).keep (Keeps.of_below hB)) (by omega) (by omega) ((hb.more boxS_more).keep (Keeps.of_below hB)) (boxS_lt hS BR.lt)).mono ?_
  rintro e w3 ⟨a', c', rfl, hB', hb3⟩
  have hl2 : (M.B.set p b).length = M.B.length := by simp
  rw [hl2]
  replace hB := below_push2 hB hb3 (Nat.le_refl _)
  replace BX := BX.below hb3
  replace BM := BM.below hb3
  replace BR := BR.below hb3
  have c3' : w3.cell? ⟨w.heap.size, 3, none⟩ = some (.slice d.h2.a M.B.length d.h2.c) := BX.at 3 rfl
  have f3 := BX.free 3
  have BX4 : Blk (w3.setCell ⟨w.heap.size, 3, none⟩ (.slice a' M.B.length c')) w.heap.size #[.int .i64 M.A, .int .i64 M.T, .slice d.h1.a M.L.length d.h1.c, .slice a' M.B.length c', .slice d.h3.a M.R.length d.h3.c] 69 := BX.set 3 (.slice a' M.B.length c')
  have F4 : Fr [w.heap.size, w.heap.size + 2, w.heap.size + 3] w3 (w3.setCell ⟨w.heap.size, 3, none⟩ (.slice a' M.B.length c')) := (Fr.refl _ _).set _ _ (.inl (by simp))
  have BM4 := BM.far ⟨w.heap.size, 3, none⟩ (.slice a' M.B.length c') (by simp only; omega)
  have BR4 := BR.far ⟨w.heap.size, 3, none⟩ (.slice a' M.B.length c') (by simp only; omega)
  clear c3 BAr BA
  go_upto_region 22 with (fail)
  generalize w3.setCell ⟨w.heap.size, 3, none⟩ (.slice a' M.B.length c') = w4 at BX4 F4 BM4 BR4 ⊢
  have FA : Fr [w.heap.size + 2] (w4) ((w4).setRow (w.heap.size + 2) (#[.int .i64 M.A, .int .i64 M.T, .slice d.h1.a M.L.length d.h1.c, .slice a' M.B.length c', .slice d.h3.a M.R.length d.h3.c])) := Fr.row (S := [w.heap.size + 2]) (w := w4) (w.heap.size + 2) (#[.int .i64 M.A, .int .i64 M.T, .slice d.h1.a M.L.length d.h1.c, .slice a' M.B.length c', .slice d.h3.a M.R.length d.h3.c]) (by simp)
  have MA := Blk.row BM4 (#[.int .i64 M.A, .int .i64 M.T, .slice d.h1.a M.L.length d.h1.c, .slice a' M.B.length c', .slice d.h3.a M.R.length d.h3.c])
  have RA := FA.blk BR4 (by simp)
  have RAB := Blk.row RA (ddR true)
  have MAB := (Fr.row (S := [w.heap.size + 3]) (w.heap.size + 3) (ddR true) (by simp)).blk MA (by simp)
  go_wp2_with (first
    | (refine wpList_load_row rfl 69 _ rfl w.heap.size rfl 69 _ (0, 0) _ (BX4).h Try.underlying69 rfl (by kernel_rfl) ?_)
    | (refine wpList_store_row rfl 69 _ _ rfl (w.heap.size + 2) (#[.int .i64 M.A, .int .i64 M.T, .slice d.h1.a M.L.length d.h1.c, .slice a' M.B.length c', .slice d.h3.a M.R.length d.h3.c]) rfl rfl 69 _ (BM4).h (by kernel_rfl) (by rfl) (by kernel_rfl) ?_)
    | (refine wpList_store_row rfl 50 _ _ rfl (w.heap.size + 3) (ddR true) rfl rfl 50 _ RA.h (by kernel_rfl) (by rfl) (by kernel_rfl) ?_))
  refine bodyPost_ret (res_cc rfl _ _ (w.heap.size + 2) 69 (#[.int .i64 M.A, .int .i64 M.T, .slice d.h1.a M.L.length d.h1.c, .slice a' M.B.length c', .slice d.h3.a M.R.length d.h3.c]) (0, 0) _ (w.heap.size + 3) 50 (ddR true) (0, 0) _ rfl MAB.h Try.underlying69 rfl (by kernel_rfl) rfl RAB.h Try.underlying50 rfl (by kernel_rfl)) rfl ?_
  exact ddput_end h hB F4 hB' hp hpA hN hN2
end Go.Proofs.Ytpempcefgfmniaa.MemP

/-
  bowerref26: Do: contracts (put and write).
-/
namespace Go.Proofs.Ytpempcefgfmniaa.MemP
open Go.RowKit RefP CellP Dp
set_option linter.unusedVariables false
set_option linter.unusedSimpArgs false
theorem ddwrite_end {w w3 w4 : World} {S : List Nat} {M : MemV} {d : DH} {ver word : Int} {b : BlockV} {x : OpV} {p c' : Nat} {a' : Option Addr} {r1 r2 : Array Value} (h : DMem w S d M) (hB : Below w.heap.size w w3) (F : Fr [w.heap.size, w.heap.size + 2, w.heap.size + 3] w3 w4)
    (hB' : RowRep opT w3 (boxS S w.heap.size) a' (M.R.set p x)) (hpT : p < M.T) :
    DidD w S M ⟨7, p, ver, word, b, x⟩ (.returned (.tuple #[.agg #[.int .i64 M.A, .int .i64 M.T, .slice d.h1.a M.L.length d.h1.c, .slice d.h2.a M.B.length d.h2.c, .slice a' M.R.length c'], .agg (ddR true)])) ((w4.setRow (w.heap.size + 2) r1).setRow (w.heap.size + 3) r2) := by
  have F2 : Fr [w.heap.size, w.heap.size + 2, w.heap.size + 3] w3 ((w4.setRow (w.heap.size + 2) r1).setRow (w.heap.size + 3) r2) := (F.trans (Fr.row _ _ (by simp))).trans (Fr.row _ _ (by simp))
  generalize ((w4.setRow (w.heap.size + 2) r1).setRow (w.heap.size + 3) r2) = w5 at F2
  have hb' := F2.below hB (Nat.le_refl _) (by simp)
  have hR : repV M ⟨7, p, ver, word, b, x⟩ = ⟨true, 0, 0, blockZ, opZ⟩ := by simp [repV, hpT]
  have hD : doV M ⟨7, p, ver, word, b, x⟩ = { M with R := M.R.set p x } := by simp [doV, hpT]
  have hr := (hB'.keep (F2.keeps.more (S' := boxS S w.heap.size) (fun b hb => by simp [boxS] at hb ⊢; omega)))
  refine ⟨⟨d.h1, d.h2, ⟨a', c'⟩⟩, nilH, ?_, ?_, ?_, hb'⟩
  · rw [hR, hD]; simp [blockZ, opZ, nilH, Hd.nil]
  · rw [hD]
    exact ⟨(h.below hb').cells, (h.below hb').blocks, hr.more (fun b hb => .inl (by simp [boxS, hb])), h.len, h.lb, by simp [h.lr], h.a1, h.t1⟩
  · rw [hR]; exact blockZ_ok _ _
set_option maxRecDepth 100000 in
set_option maxHeartbeats 3200000 in
theorem ddo_write_yes {S : List Nat} (M : MemV) (d : DH) (p : Nat) (ver word : Int) (q : BlockH) (b : BlockV) (x : OpV) (w : World) (h : DMem w S d M) (hpT : p < M.T) (hx : OpOk x) (hS : ∀ b ∈ S, b < w.heap.size) :
    Calls Try.prog 30 #[.agg (dmX M d), .agg (acc26 q ⟨7, (p : Int), ver, word, b, x⟩).toArray] w (DidD w S M ⟨7, (p : Int), ver, word, b, x⟩) := by
  have hlen : 2 * M.A + 5 * M.T + 1 ≤ M.L.length := by have := h.len; omega
  have hT16 := h.t1
  have hA16 := h.a1
  have hl : p < M.R.length ∧ M.R.length ≤ 60000 := by have := h.lr; omega
  have i0' : 0 ≤ (p : Int) := by omega
  have i1' : (p : Int) < (M.L.length : Int) := by omega
  have i2' : (p : Int) < (M.T : Int) := by omega
  have i3' : (p : Int) < (M.R.length : Int) := by omega
  have j1 : decide (p < M.L.length) = true := by simp; omega
  have j2 : decide (p < M.T) = true := by simp; omega
  have hB : Below w.heap.size w ((((w.alloc (.cells (dmX M d) 69)).alloc (.cells (acc26 q ⟨7, (p : Int), ver, word, b, x⟩).toArray 39)).alloc (.cells #[.int .i64 0, .int .i64 0, .slice none 0 0, .slice none 0 0, .slice none 0 0] 69)).alloc (.cells #[.bool false, .int .u64 0, .int .u64 0, .int .i64 0, .int .i64 0, .string ⟨#[]⟩, .string ⟨#[]⟩, .bool false, .int .i64 0, .slice none 0 0, .slice none 0 0, .slice none 0 0, .int .i64 0, .int .i64 0, .string ⟨#[]⟩, .int .u64 0, .slice none 0 0, .slice none 0 0, .slice none 0 0, .slice none 0 0, .int .i64 0, .string ⟨#[]⟩, .string ⟨#[]⟩, .int .u64 0, .int .i64 0] 50)) := by (repeat (first | exact Below.refl _ _ | assumption | refine below_alloc2 ?_ (by first | exact Nat.le_refl _ | omega) _ | refine Below.drew ?_ | refine below_drewN ?_ _ | refine below_push2 ?_ ‹_› (by first | exact Nat.le_refl _ | omega) | refine Below.setCell ?_ (by first | (simp; done) | (simp; omega) | omega) _))
  have BX := (((Blk.new w (dmX M d) 69).alloc (.cells (acc26 q ⟨7, (p : Int), ver, word, b, x⟩).toArray 39)).alloc (.cells #[.int .i64 0, .int .i64 0, .slice none 0 0, .slice none 0 0, .slice none 0 0] 69)).alloc (.cells #[.bool false, .int .u64 0, .int .u64 0, .int .i64 0, .int .i64 0, .string ⟨#[]⟩, .string ⟨#[]⟩, .bool false, .int .i64 0, .slice none 0 0, .slice none 0 0, .slice none 0 0, .int .i64 0, .int .i64 0, .string ⟨#[]⟩, .int .u64 0, .slice none 0 0, .slice none 0 0, .slice none 0 0, .slice none 0 0, .int .i64 0, .string ⟨#[]⟩, .string ⟨#[]⟩, .int .u64 0, .int .i64 0] 50)
  have BA : Blk ((((w.alloc (.cells (dmX M d) 69)).alloc (.cells (acc26 q ⟨7, (p : Int), ver, word, b, x⟩).toArray 39)).alloc (.cells #[.int .i64 0, .int .i64 0, .slice none 0 0, .slice none 0 0, .slice none 0 0] 69)).alloc (.cells #[.bool false, .int .u64 0, .int .u64 0, .int .i64 0, .int .i64 0, .string ⟨#[]⟩, .string ⟨#[]⟩, .bool false, .int .i64 0, .slice none 0 0, .slice none 0 0, .slice none 0 0, .int .i64 0, .int .i64 0, .string ⟨#[]⟩, .int .u64 0, .slice none 0 0, .slice none 0 0, .slice none 0 0, .slice none 0 0, .int .i64 0, .string ⟨#[]⟩, .string ⟨#[]⟩, .int .u64 0, .int .i64 0] 50)) (w.heap.size + 1) (acc26 q ⟨7, (p : Int), ver, word, b, x⟩).toArray 39 := by
    have := ((Blk.new (w.alloc (.cells (dmX M d) 69)) (acc26 q ⟨7, (p : Int), ver, word, b, x⟩).toArray 39).alloc (.cells #[.int .i64 0, .int .i64 0, .slice none 0 0, .slice none 0 0, .slice none 0 0] 69)).alloc (.cells #[.bool false, .int .u64 0, .int .u64 0, .int .i64 0, .int .i64 0, .string ⟨#[]⟩, .string ⟨#[]⟩, .bool false, .int .i64 0, .slice none 0 0, .slice none 0 0, .slice none 0 0, .int .i64 0, .int .i64 0, .string ⟨#[]⟩, .int .u64 0, .slice none 0 0, .slice none 0 0, .slice none 0 0, .slice none 0 0, .int .i64 0, .string ⟨#[]⟩, .string ⟨#[]⟩, .int .u64 0, .int .i64 0] 50)
    simpa using this
  have BM : Blk ((((w.alloc (.cells (dmX M d) 69)).alloc (.cells (acc26 q ⟨7, (p : Int), ver, word, b, x⟩).toArray 39)).alloc (.cells #[.int .i64 0, .int .i64 0, .slice none 0 0, .slice none 0 0, .slice none 0 0] 69)).alloc (.cells #[.bool false, .int .u64 0, .int .u64 0, .int .i64 0, .int .i64 0, .string ⟨#[]⟩, .string ⟨#[]⟩, .bool false, .int .i64 0, .slice none 0 0, .slice none 0 0, .slice none 0 0, .int .i64 0, .int .i64 0, .string ⟨#[]⟩, .int .u64 0, .slice none 0 0, .slice none 0 0, .slice none 0 0, .slice none 0 0, .int .i64 0, .string ⟨#[]⟩, .string ⟨#[]⟩, .int .u64 0, .int .i64 0] 50)) (w.heap.size + 2) #[.int .i64 0, .int .i64 0, .slice none 0 0, .slice none 0 0, .slice none 0 0] 69 := by
    have := (Blk.new ((w.alloc (.cells (dmX M d) 69)).alloc (.cells (acc26 q ⟨7, (p : Int), ver, word, b, x⟩).toArray 39)) #[.int .i64 0, .int .i64 0, .slice none 0 0, .slice none 0 0, .slice none 0 0] 69).alloc (.cells #[.bool false, .int .u64 0, .int .u64 0, .int .i64 0, .int .i64 0, .string ⟨#[]⟩, .string ⟨#[]⟩, .bool false, .int .i64 0, .slice none 0 0, .slice none 0 0, .slice none 0 0, .int .i64 0, .int .i64 0, .string ⟨#[]⟩, .int .u64 0, .slice none 0 0, .slice none 0 0, .slice none 0 0, .slice none 0 0, .int .i64 0, .string ⟨#[]⟩, .string ⟨#[]⟩, .int .u64 0, .int .i64 0] 50)
    simpa using this
  have BR : Blk ((((w.alloc (.cells (dmX M d) 69)).alloc (.cells (acc26 q ⟨7, (p : Int), ver, word, b, x⟩).toArray 39)).alloc (.cells #[.int .i64 0, .int .i64 0, .slice none 0 0, .slice none 0 0, .slice none 0 0] 69)).alloc (.cells #[.bool false, .int .u64 0, .int .u64 0, .int .i64 0, .int .i64 0, .string ⟨#[]⟩, .string ⟨#[]⟩, .bool false, .int .i64 0, .slice none 0 0, .slice none 0 0, .slice none 0 0, .int .i64 0, .int .i64 0, .string ⟨#[]⟩, .int .u64 0, .slice none 0 0, .slice none 0 0, .slice none 0 0, .slice none 0 0, .int .i64 0, .string ⟨#[]⟩, .string ⟨#[]⟩, .int .u64 0, .int .i64 0] 50)) (w.heap.size + 3) #[.bool false, .int .u64 0, .int .u64 0, .int .i64 0, .int .i64 0, .string ⟨#[]⟩, .string ⟨#[]⟩, .bool false, .int .i64 0, .slice none 0 0, .slice none 0 0, .slice none 0 0, .int .i64 0, .int .i64 0, .string ⟨#[]⟩, .int .u64 0, .slice none 0 0, .slice none 0 0, .slice none 0 0, .slice none 0 0, .int .i64 0, .string ⟨#[]⟩, .string ⟨#[]⟩, .int .u64 0, .int .i64 0] 50 := by
    have := Blk.new (((w.alloc (.cells (dmX M d) 69)).alloc (.cells (acc26 q ⟨7, (p : Int), ver, word, b, x⟩).toArray 39)).alloc (.cells #[.int .i64 0, .int .i64 0, .slice none 0 0, .slice none 0 0, .slice none 0 0] 69)) #[.bool false, .int .u64 0, .int .u64 0, .int .i64 0, .int .i64 0, .string ⟨#[]⟩, .string ⟨#[]⟩, .bool false, .int .i64 0, .slice none 0 0, .slice none 0 0, .slice none 0 0, .int .i64 0, .int .i64 0, .string ⟨#[]⟩, .int .u64 0, .slice none 0 0, .slice none 0 0, .slice none 0 0, .slice none 0 0, .int .i64 0, .string ⟨#[]⟩, .string ⟨#[]⟩, .int .u64 0, .int .i64 0] 50
    simpa using this
  go_enter Try.func30, Try.ntmps30
  go_upto_region 1 with (fail)
  generalize ((((w.alloc (.cells (dmX M d) 69)).alloc (.cells (acc26 q ⟨7, (p : Int), ver, word, b, x⟩).toArray 39)).alloc (.cells #[.int .i64 0, .int .i64 0, .slice none 0 0, .slice none 0 0, .slice none 0 0] 69)).alloc (.cells #[.bool false, .int .u64 0, .int .u64 0, .int .i64 0, .int .i64 0, .string ⟨#[]⟩, .string ⟨#[]⟩, .bool false, .int .i64 0, .slice none 0 0, .slice none 0 0, .slice none 0 0, .int .i64 0, .int .i64 0, .string ⟨#[]⟩, .int .u64 0, .slice none 0 0, .slice none 0 0, .slice none 0 0, .slice none 0 0, .int .i64 0, .string ⟨#[]⟩, .string ⟨#[]⟩, .int .u64 0, .int .i64 0] 50)) = w1 at hB BX BA BM BR ⊢
  have h1 := h.below hB
  have c0 : w1.cell? ⟨w.heap.size, 0, none⟩ = some (.int .i64 M.A) := BX.at 0 rfl
  have c1 : w1.cell? ⟨w.heap.size, 1, none⟩ = some (.int .i64 M.T) := BX.at 1 rfl
  have c2 : w1.cell? ⟨w.heap.size, 2, none⟩ = some (.slice d.h1.a M.L.length d.h1.c) := BX.at 2 rfl
  have c3 : w1.cell? ⟨w.heap.size, 3, none⟩ = some (.slice d.h2.a M.B.length d.h2.c) := BX.at 3 rfl
  have c4 : w1.cell? ⟨w.heap.size, 4, none⟩ = some (.slice d.h3.a M.R.length d.h3.c) := BX.at 4 rfl
  have a0 : w1.cell? ⟨w.heap.size + 1, 0, none⟩ = some (.int .i64 7) := BA.at 0 rfl
  have a1 : w1.cell? ⟨w.heap.size + 1, 1, none⟩ = some (.int .i64 (p : Int)) := BA.at 1 rfl
  have a2 : w1.cell? ⟨w.heap.size + 1, 2, none⟩ = some (.int .u64 ver) := BA.at 2 rfl
  have a3 : w1.cell? ⟨w.heap.size + 1, 3, none⟩ = some (.int .u64 word) := BA.at 3 rfl
  go_upto_region 28 with (fail)
  have hS1 := boxS_lt hS BR.lt
  obtain ⟨g, cap, w2, A⟩ := copyOps (S := boxS S w.heap.size) (c := d.h3.c) ((h.recs.more boxS_more).keep (Keeps.of_below hB)) (by omega) hl.2
  have hr := A.run
  have hs0 : w.heap.size < w1.heap.size := BX.lt
  have hg := A.ge
  obtain ⟨cur, BG, hsz, hcur⟩ := A.blk
  have hB2 := below_push2 hB A.below (Nat.le_refl _)
  have hgS : g ∉ boxS S w.heap.size := fun e => by have := hS1 g e; omega
  have BX2 := BX.below A.below
  have BA2 := BA.below A.below
  have BM2 := BM.below A.below
  have BR2 := BR.below A.below
  have hne0 : ¬ w.heap.size = g := fun e => hgS (by simp [boxS, e])
  have hne2 : ¬ w.heap.size + 2 = g := fun e => hgS (by simp [boxS, e])
  have hne3 : ¬ w.heap.size + 3 = g := fun e => hgS (by simp [boxS, e])
  have hRR := set_row BG hgS hsz hcur p hl.1 x _ (opT_mk hx)
  have hB3 := below_sets' (B := w.heap.size) (b := g) (by have := hB.size; omega) [.int .i64 x.kind, .string x.key, .string x.upto, .int .u64 x.val, .int .i64 x.limit] (p * 5) _ hB2
  have FSx := fr_sets' (S := [g]) (b := g) (by simp) [.int .i64 x.kind, .string x.key, .string x.upto, .int .u64 x.val, .int .i64 x.limit] (p * 5) w2
  have hth := there_blk' (o := p * 5) (n := 5) BG (by
    have h1 : (p + 1) * 5 ≤ M.R.length * 5 := Nat.mul_le_mul_right _ hl.1
    have h2 : M.R.length * 5 ≤ cur.size := hsz
    omega)
  replace hRR : RowRep opT (w2.setCells g (p * 5) [.int .i64 x.kind, .string x.key, .string x.upto, .int .u64 x.val, .int .i64 x.limit]) (boxS S w.heap.size) (some ⟨g, 0, none⟩) (M.R.set p x) := hRR
  have a1' : w2.cell? ⟨w.heap.size + 1, 1, none⟩ = some (.int .i64 (p : Int)) := BA2.at 1 rfl
  have BAr : w2.rangeAt (w.heap.size + 1) 21 [.int .i64 x.kind, .string x.key, .string x.upto, .int .u64 x.val, .int .i64 x.limit] := acc_op BA2
  generalize hX : w2.setCells g (p * 5) [.int .i64 x.kind, .string x.key, .string x.upto, .int .u64 x.val, .int .i64 x.limit] = w3 at hRR hB3 FSx
  replace hX := Lib.hid hX
  have BX3 := FSx.blk BX2 (by simpa using hne0)
  have BM3 := FSx.blk BM2 (by simpa using hne2)
  have BR3 := FSx.blk BR2 (by simpa using hne3)
  have c4' : w3.cell? ⟨w.heap.size, 4, none⟩ = some (.slice d.h3.a M.R.length d.h3.c) := BX3.at 4 rfl
  have f4 := BX3.free 4
  have BX4 : Blk (w3.setCell ⟨w.heap.size, 4, none⟩ (.slice (some ⟨g, 0, none⟩) M.R.length cap)) w.heap.size #[.int .i64 M.A, .int .i64 M.T, .slice d.h1.a M.L.length d.h1.c, .slice d.h2.a M.B.length d.h2.c, .slice (some ⟨g, 0, none⟩) M.R.length cap] 69 := BX3.set 4 (.slice (some ⟨g, 0, none⟩) M.R.length cap)
  have F4 : Fr [w.heap.size, w.heap.size + 2, w.heap.size + 3] w3 (w3.setCell ⟨w.heap.size, 4, none⟩ (.slice (some ⟨g, 0, none⟩) M.R.length cap)) := (Fr.refl _ _).set _ _ (.inl (by simp))
  have BM4 := BM3.far ⟨w.heap.size, 4, none⟩ (.slice (some ⟨g, 0, none⟩) M.R.length cap) (by simp only; omega)
  have BR4 := BR3.far ⟨w.heap.size, 4, none⟩ (.slice (some ⟨g, 0, none⟩) M.R.length cap) (by simp only; omega)
  clear A BG hsz hcur hgS h1 hS hS1 FSx BX2 BM2 BR2 BA2 BX BM BR BA BX3 BM3 BR3 hB2 a0 a1 a2 a3 c0 c1 c2 c3
  go_upto_region 31 with (first
    | (at_builtin; refine wpList_append_run hr.out rfl (by rfl) (by rfl) (by rfl) ?_)
    | (refine wpList_load_mid rfl 37 _ rfl (w.heap.size + 1) 21 rfl [.int .i64 x.kind, .string x.key, .string x.upto, .int .u64 x.val, .int .i64 x.limit] _ BAr Try.underlying37 rfl (by kernel_rfl) ?_)
    | (refine wpList_store_mid rfl 37 _ _ rfl g (p * 5) ([.int .i64 x.kind, .string x.key, .string x.upto, .int .u64 x.val, .int .i64 x.limit]).toArray rfl rfl hth (by kernel_rfl) (by kernel_rfl) ?_; rw [hX.out]))
  generalize w3.setCell ⟨w.heap.size, 4, none⟩ (.slice (some ⟨g, 0, none⟩) M.R.length cap) = w4 at BX4 F4 BM4 BR4 ⊢
  have FA : Fr [w.heap.size + 2] (w4) ((w4).setRow (w.heap.size + 2) (#[.int .i64 M.A, .int .i64 M.T, .slice d.h1.a M.L.length d.h1.c, .slice d.h2.a M.B.length d.h2.c, .slice (some ⟨g, 0, none⟩) M.R.length cap])) := Fr.row (S := [w.heap.size + 2]) (w := w4) (w.heap.size + 2) (#[.int .i64 M.A, .int .i64 M.T, .slice d.h1.a M.L.length d.h1.c, .slice d.h2.a M.B.length d.h2.c, .slice (some ⟨g, 0, none⟩) M.R.length cap]) (by simp)
  have MA := Blk.row BM4 (#[.int .i64 M.A, .int .i64 M.T, .slice d.h1.a M.L.length d.h1.c, .slice d.h2.a M.B.length d.h2.c, .slice (some ⟨g, 0, none⟩) M.R.length cap])
  have RA := FA.blk BR4 (by simp)
  have RAB := Blk.row RA (ddR true)
  have MAB := (Fr.row (S := [w.heap.size + 3]) (w.heap.size + 3) (ddR true) (by simp)).blk MA (by simp)
  go_wp2_with (first
    | (refine wpList_load_row rfl 69 _ rfl w.heap.size rfl 69 _ (0, 0) _ (BX4).h Try.underlying69 rfl (by kernel_rfl) ?_)
    | (refine wpList_store_row rfl 69 _ _ rfl (w.heap.size + 2) (#[.int .i64 M.A, .int .i64 M.T, .slice d.h1.a M.L.length d.h1.c, .slice d.h2.a M.B.length d.h2.c, .slice (some ⟨g, 0, none⟩) M.R.length cap]) rfl rfl 69 _ (BM4).h (by kernel_rfl) (by rfl) (by kernel_rfl) ?_)
    | (refine wpList_store_row rfl 50 _ _ rfl (w.heap.size + 3) (ddR true) rfl rfl 50 _ RA.h (by kernel_rfl) (by rfl) (by kernel_rfl) ?_))
  refine bodyPost_ret (res_cc rfl _ _ (w.heap.size + 2) 69 (#[.int .i64 M.A, .int .i64 M.T, .slice d.h1.a M.L.length d.h1.c, .slice d.h2.a M.B.length d.h2.c, .slice (some ⟨g, 0, none⟩) M.R.length cap]) (0, 0) _ (w.heap.size + 3) 50 (ddR true) (0, 0) _ rfl MAB.h Try.underlying69 rfl (by kernel_rfl) rfl RAB.h Try.underlying50 rfl (by kernel_rfl)) rfl ?_
  exact ddwrite_end h hB3 F4 hRR hpT
end Go.Proofs.Ytpempcefgfmniaa.MemP
