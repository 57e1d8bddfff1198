/-
  bowerref26: Do: contracts (what does nothing).
-/
import Derived.Test.YtpempcefgfmniaaMemoryDoesPack4

namespace Go.Proofs.Ytpempcefgfmniaa.MemP
open Go.RowKit RefP CellP Dp
set_option linter.unusedVariables false
set_option linter.unusedSimpArgs false
theorem nameI_no {M : MemV} {x : Int} (h : nameB M.A M.T M.L x = false) : nameI M x = -1 := by simp [nameI, h]
set_option maxRecDepth 100000 in
set_option maxHeartbeats 3200000 in
theorem ddo_get_no {S : List Nat} (M : MemV) (d : DH) (i kd : Int) (ver word : Int) (q : BlockH) (b : BlockV) (x : OpV) (w : World) (h : DMem w S d M) (hW : U64 word) (hN : nameB M.A M.T M.L word = false) :
    Calls Try.prog 30 #[.agg (dmX M d), .agg (acc26 q ⟨4, i, ver, word, b, x⟩).toArray] w (DidD w S M ⟨4, i, ver, word, b, x⟩) := by
  have hR : repV M ⟨4, i, ver, word, b, x⟩ = ⟨false, 0, 0, blockZ, opZ⟩ := by simp [repV, hN]
  have hD : doV M ⟨4, i, ver, word, b, x⟩ = M := by simp [doV]
  have hlen : 2 * M.A + 5 * M.T + 1 ≤ M.L.length := by have := h.len; omega
  have hT16 := h.t1
  have hA16 := h.a1
  by_cases i0 : i < 0
  · have hB : Below w.heap.size w ((((w.alloc (.cells (dmX M d) 69)).alloc (.cells (acc26 q ⟨4, i, ver, word, b, x⟩).toArray 39)).alloc (.cells #[.int .i64 0, .int .i64 0, .slice none 0 0, .slice none 0 0, .slice none 0 0] 69)).alloc (.cells #[.bool false, .int .u64 0, .int .u64 0, .int .i64 0, .int .i64 0, .string ⟨#[]⟩, .string ⟨#[]⟩, .bool false, .int .i64 0, .slice none 0 0, .slice none 0 0, .slice none 0 0, .int .i64 0, .int .i64 0, .string ⟨#[]⟩, .int .u64 0, .slice none 0 0, .slice none 0 0, .slice none 0 0, .slice none 0 0, .int .i64 0, .string ⟨#[]⟩, .string ⟨#[]⟩, .int .u64 0, .int .i64 0] 50)) := by (repeat (first | exact Below.refl _ _ | assumption | refine below_alloc2 ?_ (by first | exact Nat.le_refl _ | omega) _ | refine Below.drew ?_ | refine below_drewN ?_ _ | refine below_push2 ?_ ‹_› (by first | exact Nat.le_refl _ | omega) | refine Below.setCell ?_ (by first | (simp; done) | (simp; omega) | omega) _))
    have BX := (((Blk.new w (dmX M d) 69).alloc (.cells (acc26 q ⟨4, i, ver, word, b, x⟩).toArray 39)).alloc (.cells #[.int .i64 0, .int .i64 0, .slice none 0 0, .slice none 0 0, .slice none 0 0] 69)).alloc (.cells #[.bool false, .int .u64 0, .int .u64 0, .int .i64 0, .int .i64 0, .string ⟨#[]⟩, .string ⟨#[]⟩, .bool false, .int .i64 0, .slice none 0 0, .slice none 0 0, .slice none 0 0, .int .i64 0, .int .i64 0, .string ⟨#[]⟩, .int .u64 0, .slice none 0 0, .slice none 0 0, .slice none 0 0, .slice none 0 0, .int .i64 0, .string ⟨#[]⟩, .string ⟨#[]⟩, .int .u64 0, .int .i64 0] 50)
    have BA : Blk ((((w.alloc (.cells (dmX M d) 69)).alloc (.cells (acc26 q ⟨4, i, ver, word, b, x⟩).toArray 39)).alloc (.cells #[.int .i64 0, .int .i64 0, .slice none 0 0, .slice none 0 0, .slice none 0 0] 69)).alloc (.cells #[.bool false, .int .u64 0, .int .u64 0, .int .i64 0, .int .i64 0, .string ⟨#[]⟩, .string ⟨#[]⟩, .bool false, .int .i64 0, .slice none 0 0, .slice none 0 0, .slice none 0 0, .int .i64 0, .int .i64 0, .string ⟨#[]⟩, .int .u64 0, .slice none 0 0, .slice none 0 0, .slice none 0 0, .slice none 0 0, .int .i64 0, .string ⟨#[]⟩, .string ⟨#[]⟩, .int .u64 0, .int .i64 0] 50)) (w.heap.size + 1) (acc26 q ⟨4, i, ver, word, b, x⟩).toArray 39 := by
      have := ((Blk.new (w.alloc (.cells (dmX M d) 69)) (acc26 q ⟨4, i, ver, word, b, x⟩).toArray 39).alloc (.cells #[.int .i64 0, .int .i64 0, .slice none 0 0, .slice none 0 0, .slice none 0 0] 69)).alloc (.cells #[.bool false, .int .u64 0, .int .u64 0, .int .i64 0, .int .i64 0, .string ⟨#[]⟩, .string ⟨#[]⟩, .bool false, .int .i64 0, .slice none 0 0, .slice none 0 0, .slice none 0 0, .int .i64 0, .int .i64 0, .string ⟨#[]⟩, .int .u64 0, .slice none 0 0, .slice none 0 0, .slice none 0 0, .slice none 0 0, .int .i64 0, .string ⟨#[]⟩, .string ⟨#[]⟩, .int .u64 0, .int .i64 0] 50)
      simpa using this
    have BM : Blk ((((w.alloc (.cells (dmX M d) 69)).alloc (.cells (acc26 q ⟨4, i, ver, word, b, x⟩).toArray 39)).alloc (.cells #[.int .i64 0, .int .i64 0, .slice none 0 0, .slice none 0 0, .slice none 0 0] 69)).alloc (.cells #[.bool false, .int .u64 0, .int .u64 0, .int .i64 0, .int .i64 0, .string ⟨#[]⟩, .string ⟨#[]⟩, .bool false, .int .i64 0, .slice none 0 0, .slice none 0 0, .slice none 0 0, .int .i64 0, .int .i64 0, .string ⟨#[]⟩, .int .u64 0, .slice none 0 0, .slice none 0 0, .slice none 0 0, .slice none 0 0, .int .i64 0, .string ⟨#[]⟩, .string ⟨#[]⟩, .int .u64 0, .int .i64 0] 50)) (w.heap.size + 2) #[.int .i64 0, .int .i64 0, .slice none 0 0, .slice none 0 0, .slice none 0 0] 69 := by
      have := (Blk.new ((w.alloc (.cells (dmX M d) 69)).alloc (.cells (acc26 q ⟨4, i, ver, word, b, x⟩).toArray 39)) #[.int .i64 0, .int .i64 0, .slice none 0 0, .slice none 0 0, .slice none 0 0] 69).alloc (.cells #[.bool false, .int .u64 0, .int .u64 0, .int .i64 0, .int .i64 0, .string ⟨#[]⟩, .string ⟨#[]⟩, .bool false, .int .i64 0, .slice none 0 0, .slice none 0 0, .slice none 0 0, .int .i64 0, .int .i64 0, .string ⟨#[]⟩, .int .u64 0, .slice none 0 0, .slice none 0 0, .slice none 0 0, .slice none 0 0, .int .i64 0, .string ⟨#[]⟩, .string ⟨#[]⟩, .int .u64 0, .int .i64 0] 50)
      simpa using this
    have BR : Blk ((((w.alloc (.cells (dmX M d) 69)).alloc (.cells (acc26 q ⟨4, i, ver, word, b, x⟩).toArray 39)).alloc (.cells #[.int .i64 0, .int .i64 0, .slice none 0 0, .slice none 0 0, .slice none 0 0] 69)).alloc (.cells #[.bool false, .int .u64 0, .int .u64 0, .int .i64 0, .int .i64 0, .string ⟨#[]⟩, .string ⟨#[]⟩, .bool false, .int .i64 0, .slice none 0 0, .slice none 0 0, .slice none 0 0, .int .i64 0, .int .i64 0, .string ⟨#[]⟩, .int .u64 0, .slice none 0 0, .slice none 0 0, .slice none 0 0, .slice none 0 0, .int .i64 0, .string ⟨#[]⟩, .string ⟨#[]⟩, .int .u64 0, .int .i64 0] 50)) (w.heap.size + 3) #[.bool false, .int .u64 0, .int .u64 0, .int .i64 0, .int .i64 0, .string ⟨#[]⟩, .string ⟨#[]⟩, .bool false, .int .i64 0, .slice none 0 0, .slice none 0 0, .slice none 0 0, .int .i64 0, .int .i64 0, .string ⟨#[]⟩, .int .u64 0, .slice none 0 0, .slice none 0 0, .slice none 0 0, .slice none 0 0, .int .i64 0, .string ⟨#[]⟩, .string ⟨#[]⟩, .int .u64 0, .int .i64 0] 50 := by
      have := Blk.new (((w.alloc (.cells (dmX M d) 69)).alloc (.cells (acc26 q ⟨4, i, ver, word, b, x⟩).toArray 39)).alloc (.cells #[.int .i64 0, .int .i64 0, .slice none 0 0, .slice none 0 0, .slice none 0 0] 69)) #[.bool false, .int .u64 0, .int .u64 0, .int .i64 0, .int .i64 0, .string ⟨#[]⟩, .string ⟨#[]⟩, .bool false, .int .i64 0, .slice none 0 0, .slice none 0 0, .slice none 0 0, .int .i64 0, .int .i64 0, .string ⟨#[]⟩, .int .u64 0, .slice none 0 0, .slice none 0 0, .slice none 0 0, .slice none 0 0, .int .i64 0, .string ⟨#[]⟩, .string ⟨#[]⟩, .int .u64 0, .int .i64 0] 50
      simpa using this
    go_enter Try.func30, Try.ntmps30
    go_upto_region 1 with (fail)
    generalize ((((w.alloc (.cells (dmX M d) 69)).alloc (.cells (acc26 q ⟨4, i, ver, word, b, x⟩).toArray 39)).alloc (.cells #[.int .i64 0, .int .i64 0, .slice none 0 0, .slice none 0 0, .slice none 0 0] 69)).alloc (.cells #[.bool false, .int .u64 0, .int .u64 0, .int .i64 0, .int .i64 0, .string ⟨#[]⟩, .string ⟨#[]⟩, .bool false, .int .i64 0, .slice none 0 0, .slice none 0 0, .slice none 0 0, .int .i64 0, .int .i64 0, .string ⟨#[]⟩, .int .u64 0, .slice none 0 0, .slice none 0 0, .slice none 0 0, .slice none 0 0, .int .i64 0, .string ⟨#[]⟩, .string ⟨#[]⟩, .int .u64 0, .int .i64 0] 50)) = w1 at hB BX BA BM BR ⊢
    have h1 := h.below hB
    have c0 : w1.cell? ⟨w.heap.size, 0, none⟩ = some (.int .i64 M.A) := BX.at 0 rfl
    have c1 : w1.cell? ⟨w.heap.size, 1, none⟩ = some (.int .i64 M.T) := BX.at 1 rfl
    have c2 : w1.cell? ⟨w.heap.size, 2, none⟩ = some (.slice d.h1.a M.L.length d.h1.c) := BX.at 2 rfl
    have c3 : w1.cell? ⟨w.heap.size, 3, none⟩ = some (.slice d.h2.a M.B.length d.h2.c) := BX.at 3 rfl
    have c4 : w1.cell? ⟨w.heap.size, 4, none⟩ = some (.slice d.h3.a M.R.length d.h3.c) := BX.at 4 rfl
    have a0 : w1.cell? ⟨w.heap.size + 1, 0, none⟩ = some (.int .i64 4) := BA.at 0 rfl
    have a1 : w1.cell? ⟨w.heap.size + 1, 1, none⟩ = some (.int .i64 i) := BA.at 1 rfl
    have a2 : w1.cell? ⟨w.heap.size + 1, 2, none⟩ = some (.int .u64 ver) := BA.at 2 rfl
    have a3 : w1.cell? ⟨w.heap.size + 1, 3, none⟩ = some (.int .u64 word) := BA.at 3 rfl
    go_wp2_with (refine wpList_load_row rfl 69 _ rfl w.heap.size rfl 69 _ (0, 0) _ (BX).h Try.underlying69 rfl (by kernel_rfl) ?_)
    refine (dnamed_any M d word w1 h1 hW.1 hW.2).mono ?_
    rintro e w2 ⟨rfl, hb2⟩
    rw [nameI_no hN]
    have hB2 := below_push2 hB hb2 (Nat.le_refl _)
    have BX2 := BX.below hb2
    have BM2 := BM.below hb2
    have BR2 := BR.below hb2
    have FA : Fr [w.heap.size + 2] (w2) ((w2).setRow (w.heap.size + 2) (ddM M d)) := Fr.row (S := [w.heap.size + 2]) (w := w2) (w.heap.size + 2) (ddM M d) (by simp)
    have MA := Blk.row BM2 (ddM M d)
    have RA := FA.blk BR2 (by simp)
    have RAB := Blk.row RA (ddR false)
    have MAB := (Fr.row (S := [w.heap.size + 3]) (w.heap.size + 3) (ddR false) (by simp)).blk MA (by simp)
    go_wp2_with (first
      | (refine wpList_load_row rfl 69 _ rfl w.heap.size rfl 69 _ (0, 0) _ (BX2).h Try.underlying69 rfl (by kernel_rfl) ?_)
      | (refine wpList_store_row rfl 69 _ _ rfl (w.heap.size + 2) (ddM M d) rfl rfl 69 _ (BM2).h (by kernel_rfl) (by rfl) (by kernel_rfl) ?_)
      | (refine wpList_store_row rfl 50 _ _ rfl (w.heap.size + 3) (ddR false) rfl rfl 50 _ RA.h (by kernel_rfl) (by rfl) (by kernel_rfl) ?_))
    refine bodyPost_ret (res_cc rfl _ _ (w.heap.size + 2) 69 (ddM M d) (0, 0) _ (w.heap.size + 3) 50 (ddR false) (0, 0) _ rfl MAB.h Try.underlying69 rfl (by kernel_rfl) rfl RAB.h Try.underlying50 rfl (by kernel_rfl)) rfl ?_
    exact didd_no h (below_two hB2) hD false hR
  by_cases i1 : (M.L.length : Int) ≤ i
  · have i0' : 0 ≤ i := by omega
    have i2' : (M.T : Int) ≤ i := by omega
    have j1 : decide (i < (M.L.length : Int)) = false := by simp; omega
    have j2 : decide (i < (M.T : Int)) = false := by simp; omega
    have hB : Below w.heap.size w ((((w.alloc (.cells (dmX M d) 69)).alloc (.cells (acc26 q ⟨4, i, ver, word, b, x⟩).toArray 39)).alloc (.cells #[.int .i64 0, .int .i64 0, .slice none 0 0, .slice none 0 0, .slice none 0 0] 69)).alloc (.cells #[.bool false, .int .u64 0, .int .u64 0, .int .i64 0, .int .i64 0, .string ⟨#[]⟩, .string ⟨#[]⟩, .bool false, .int .i64 0, .slice none 0 0, .slice none 0 0, .slice none 0 0, .int .i64 0, .int .i64 0, .string ⟨#[]⟩, .int .u64 0, .slice none 0 0, .slice none 0 0, .slice none 0 0, .slice none 0 0, .int .i64 0, .string ⟨#[]⟩, .string ⟨#[]⟩, .int .u64 0, .int .i64 0] 50)) := by (repeat (first | exact Below.refl _ _ | assumption | refine below_alloc2 ?_ (by first | exact Nat.le_refl _ | omega) _ | refine Below.drew ?_ | refine below_drewN ?_ _ | refine below_push2 ?_ ‹_› (by first | exact Nat.le_refl _ | omega) | refine Below.setCell ?_ (by first | (simp; done) | (simp; omega) | omega) _))
    have BX := (((Blk.new w (dmX M d) 69).alloc (.cells (acc26 q ⟨4, i, ver, word, b, x⟩).toArray 39)).alloc (.cells #[.int .i64 0, .int .i64 0, .slice none 0 0, .slice none 0 0, .slice none 0 0] 69)).alloc (.cells #[.bool false, .int .u64 0, .int .u64 0, .int .i64 0, .int .i64 0, .string ⟨#[]⟩, .string ⟨#[]⟩, .bool false, .int .i64 0, .slice none 0 0, .slice none 0 0, .slice none 0 0, .int .i64 0, .int .i64 0, .string ⟨#[]⟩, .int .u64 0, .slice none 0 0, .slice none 0 0, .slice none 0 0, .slice none 0 0, .int .i64 0, .string ⟨#[]⟩, .string ⟨#[]⟩, .int .u64 0, .int .i64 0] 50)
    have BA : Blk ((((w.alloc (.cells (dmX M d) 69)).alloc (.cells (acc26 q ⟨4, i, ver, word, b, x⟩).toArray 39)).alloc (.cells #[.int .i64 0, .int .i64 0, .slice none 0 0, .slice none 0 0, .slice none 0 0] 69)).alloc (.cells #[.bool false, .int .u64 0, .int .u64 0, .int .i64 0, .int .i64 0, .string ⟨#[]⟩, .string ⟨#[]⟩, .bool false, .int .i64 0, .slice none 0 0, .slice none 0 0, .slice none 0 0, .int .i64 0, .int .i64 0, .string ⟨#[]⟩, .int .u64 0, .slice none 0 0, .slice none 0 0, .slice none 0 0, .slice none 0 0, .int .i64 0, .string ⟨#[]⟩, .string ⟨#[]⟩, .int .u64 0, .int .i64 0] 50)) (w.heap.size + 1) (acc26 q ⟨4, i, ver, word, b, x⟩).toArray 39 := by
      have := ((Blk.new (w.alloc (.cells (dmX M d) 69)) (acc26 q ⟨4, i, ver, word, b, x⟩).toArray 39).alloc (.cells #[.int .i64 0, .int .i64 0, .slice none 0 0, .slice none 0 0, .slice none 0 0] 69)).alloc (.cells #[.bool false, .int .u64 0, .int .u64 0, .int .i64 0, .int .i64 0, .string ⟨#[]⟩, .string ⟨#[]⟩, .bool false, .int .i64 0, .slice none 0 0, .slice none 0 0, .slice none 0 0, .int .i64 0, .int .i64 0, .string ⟨#[]⟩, .int .u64 0, .slice none 0 0, .slice none 0 0, .slice none 0 0, .slice none 0 0, .int .i64 0, .string ⟨#[]⟩, .string ⟨#[]⟩, .int .u64 0, .int .i64 0] 50)
      simpa using this
    have BM : Blk ((((w.alloc (.cells (dmX M d) 69)).alloc (.cells (acc26 q ⟨4, i, ver, word, b, x⟩).toArray 39)).alloc (.cells #[.int .i64 0, .int .i64 0, .slice none 0 0, .slice none 0 0, .slice none 0 0] 69)).alloc (.cells #[.bool false, .int .u64 0, .int .u64 0, .int .i64 0, .int .i64 0, .string ⟨#[]⟩, .string ⟨#[]⟩, .bool false, .int .i64 0, .slice none 0 0, .slice none 0 0, .slice none 0 0, .int .i64 0, .int .i64 0, .string ⟨#[]⟩, .int .u64 0, .slice none 0 0, .slice none 0 0, .slice none 0 0, .slice none 0 0, .int .i64 0, .string ⟨#[]⟩, .string ⟨#[]⟩, .int .u64 0, .int .i64 0] 50)) (w.heap.size + 2) #[.int .i64 0, .int .i64 0, .slice none 0 0, .slice none 0 0, .slice none 0 0] 69 := by
      have := (Blk.new ((w.alloc (.cells (dmX M d) 69)).alloc (.cells (acc26 q ⟨4, i, ver, word, b, x⟩).toArray 39)) #[.int .i64 0, .int .i64 0, .slice none 0 0, .slice none 0 0, .slice none 0 0] 69).alloc (.cells #[.bool false, .int .u64 0, .int .u64 0, .int .i64 0, .int .i64 0, .string ⟨#[]⟩, .string ⟨#[]⟩, .bool false, .int .i64 0, .slice none 0 0, .slice none 0 0, .slice none 0 0, .int .i64 0, .int .i64 0, .string ⟨#[]⟩, .int .u64 0, .slice none 0 0, .slice none 0 0, .slice none 0 0, .slice none 0 0, .int .i64 0, .string ⟨#[]⟩, .string ⟨#[]⟩, .int .u64 0, .int .i64 0] 50)
      simpa using this
    have BR : Blk ((((w.alloc (.cells (dmX M d) 69)).alloc (.cells (acc26 q ⟨4, i, ver, word, b, x⟩).toArray 39)).alloc (.cells #[.int .i64 0, .int .i64 0, .slice none 0 0, .slice none 0 0, .slice none 0 0] 69)).alloc (.cells #[.bool false, .int .u64 0, .int .u64 0, .int .i64 0, .int .i64 0, .string ⟨#[]⟩, .string ⟨#[]⟩, .bool false, .int .i64 0, .slice none 0 0, .slice none 0 0, .slice none 0 0, .int .i64 0, .int .i64 0, .string ⟨#[]⟩, .int .u64 0, .slice none 0 0, .slice none 0 0, .slice none 0 0, .slice none 0 0, .int .i64 0, .string ⟨#[]⟩, .string ⟨#[]⟩, .int .u64 0, .int .i64 0] 50)) (w.heap.size + 3) #[.bool false, .int .u64 0, .int .u64 0, .int .i64 0, .int .i64 0, .string ⟨#[]⟩, .string ⟨#[]⟩, .bool false, .int .i64 0, .slice none 0 0, .slice none 0 0, .slice none 0 0, .int .i64 0, .int .i64 0, .string ⟨#[]⟩, .int .u64 0, .slice none 0 0, .slice none 0 0, .slice none 0 0, .slice none 0 0, .int .i64 0, .string ⟨#[]⟩, .string ⟨#[]⟩, .int .u64 0, .int .i64 0] 50 := by
      have := Blk.new (((w.alloc (.cells (dmX M d) 69)).alloc (.cells (acc26 q ⟨4, i, ver, word, b, x⟩).toArray 39)).alloc (.cells #[.int .i64 0, .int .i64 0, .slice none 0 0, .slice none 0 0, .slice none 0 0] 69)) #[.bool false, .int .u64 0, .int .u64 0, .int .i64 0, .int .i64 0, .string ⟨#[]⟩, .string ⟨#[]⟩, .bool false, .int .i64 0, .slice none 0 0, .slice none 0 0, .slice none 0 0, .int .i64 0, .int .i64 0, .string ⟨#[]⟩, .int .u64 0, .slice none 0 0, .slice none 0 0, .slice none 0 0, .slice none 0 0, .int .i64 0, .string ⟨#[]⟩, .string ⟨#[]⟩, .int .u64 0, .int .i64 0] 50
      simpa using this
    go_enter Try.func30, Try.ntmps30
    go_upto_region 1 with (fail)
    generalize ((((w.alloc (.cells (dmX M d) 69)).alloc (.cells (acc26 q ⟨4, i, ver, word, b, x⟩).toArray 39)).alloc (.cells #[.int .i64 0, .int .i64 0, .slice none 0 0, .slice none 0 0, .slice none 0 0] 69)).alloc (.cells #[.bool false, .int .u64 0, .int .u64 0, .int .i64 0, .int .i64 0, .string ⟨#[]⟩, .string ⟨#[]⟩, .bool false, .int .i64 0, .slice none 0 0, .slice none 0 0, .slice none 0 0, .int .i64 0, .int .i64 0, .string ⟨#[]⟩, .int .u64 0, .slice none 0 0, .slice none 0 0, .slice none 0 0, .slice none 0 0, .int .i64 0, .string ⟨#[]⟩, .string ⟨#[]⟩, .int .u64 0, .int .i64 0] 50)) = w1 at hB BX BA BM BR ⊢
    have h1 := h.below hB
    have c0 : w1.cell? ⟨w.heap.size, 0, none⟩ = some (.int .i64 M.A) := BX.at 0 rfl
    have c1 : w1.cell? ⟨w.heap.size, 1, none⟩ = some (.int .i64 M.T) := BX.at 1 rfl
    have c2 : w1.cell? ⟨w.heap.size, 2, none⟩ = some (.slice d.h1.a M.L.length d.h1.c) := BX.at 2 rfl
    have c3 : w1.cell? ⟨w.heap.size, 3, none⟩ = some (.slice d.h2.a M.B.length d.h2.c) := BX.at 3 rfl
    have c4 : w1.cell? ⟨w.heap.size, 4, none⟩ = some (.slice d.h3.a M.R.length d.h3.c) := BX.at 4 rfl
    have a0 : w1.cell? ⟨w.heap.size + 1, 0, none⟩ = some (.int .i64 4) := BA.at 0 rfl
    have a1 : w1.cell? ⟨w.heap.size + 1, 1, none⟩ = some (.int .i64 i) := BA.at 1 rfl
    have a2 : w1.cell? ⟨w.heap.size + 1, 2, none⟩ = some (.int .u64 ver) := BA.at 2 rfl
    have a3 : w1.cell? ⟨w.heap.size + 1, 3, none⟩ = some (.int .u64 word) := BA.at 3 rfl
    go_wp2_with (refine wpList_load_row rfl 69 _ rfl w.heap.size rfl 69 _ (0, 0) _ (BX).h Try.underlying69 rfl (by kernel_rfl) ?_)
    refine (dnamed_any M d word w1 h1 hW.1 hW.2).mono ?_
    rintro e w2 ⟨rfl, hb2⟩
    rw [nameI_no hN]
    have hB2 := below_push2 hB hb2 (Nat.le_refl _)
    have BX2 := BX.below hb2
    have BM2 := BM.below hb2
    have BR2 := BR.below hb2
    have FA : Fr [w.heap.size + 2] (w2) ((w2).setRow (w.heap.size + 2) (ddM M d)) := Fr.row (S := [w.heap.size + 2]) (w := w2) (w.heap.size + 2) (ddM M d) (by simp)
    have MA := Blk.row BM2 (ddM M d)
    have RA := FA.blk BR2 (by simp)
    have RAB := Blk.row RA (ddR false)
    have MAB := (Fr.row (S := [w.heap.size + 3]) (w.heap.size + 3) (ddR false) (by simp)).blk MA (by simp)
    go_wp2_with (first
      | (refine wpList_load_row rfl 69 _ rfl w.heap.size rfl 69 _ (0, 0) _ (BX2).h Try.underlying69 rfl (by kernel_rfl) ?_)
      | (refine wpList_store_row rfl 69 _ _ rfl (w.heap.size + 2) (ddM M d) rfl rfl 69 _ (BM2).h (by kernel_rfl) (by rfl) (by kernel_rfl) ?_)
      | (refine wpList_store_row rfl 50 _ _ rfl (w.heap.size + 3) (ddR false) rfl rfl 50 _ RA.h (by kernel_rfl) (by rfl) (by kernel_rfl) ?_))
    refine bodyPost_ret (res_cc rfl _ _ (w.heap.size + 2) 69 (ddM M d) (0, 0) _ (w.heap.size + 3) 50 (ddR false) (0, 0) _ rfl MAB.h Try.underlying69 rfl (by kernel_rfl) rfl RAB.h Try.underlying50 rfl (by kernel_rfl)) rfl ?_
    exact didd_no h (below_two hB2) hD false hR
  by_cases i2 : (M.T : Int) ≤ i
  · have i0' : 0 ≤ i := by omega
    have i1' : i < (M.L.length : Int) := by omega
    have j1 : decide (i < (M.L.length : Int)) = true := by simp; omega
    have j2 : decide (i < (M.T : Int)) = false := by simp; omega
    have hB : Below w.heap.size w ((((w.alloc (.cells (dmX M d) 69)).alloc (.cells (acc26 q ⟨4, i, ver, word, b, x⟩).toArray 39)).alloc (.cells #[.int .i64 0, .int .i64 0, .slice none 0 0, .slice none 0 0, .slice none 0 0] 69)).alloc (.cells #[.bool false, .int .u64 0, .int .u64 0, .int .i64 0, .int .i64 0, .string ⟨#[]⟩, .string ⟨#[]⟩, .bool false, .int .i64 0, .slice none 0 0, .slice none 0 0, .slice none 0 0, .int .i64 0, .int .i64 0, .string ⟨#[]⟩, .int .u64 0, .slice none 0 0, .slice none 0 0, .slice none 0 0, .slice none 0 0, .int .i64 0, .string ⟨#[]⟩, .string ⟨#[]⟩, .int .u64 0, .int .i64 0] 50)) := by (repeat (first | exact Below.refl _ _ | assumption | refine below_alloc2 ?_ (by first | exact Nat.le_refl _ | omega) _ | refine Below.drew ?_ | refine below_drewN ?_ _ | refine below_push2 ?_ ‹_› (by first | exact Nat.le_refl _ | omega) | refine Below.setCell ?_ (by first | (simp; done) | (simp; omega) | omega) _))
    have BX := (((Blk.new w (dmX M d) 69).alloc (.cells (acc26 q ⟨4, i, ver, word, b, x⟩).toArray 39)).alloc (.cells #[.int .i64 0, .int .i64 0, .slice none 0 0, .slice none 0 0, .slice none 0 0] 69)).alloc (.cells #[.bool false, .int .u64 0, .int .u64 0, .int .i64 0, .int .i64 0, .string ⟨#[]⟩, .string ⟨#[]⟩, .bool false, .int .i64 0, .slice none 0 0, .slice none 0 0, .slice none 0 0, .int .i64 0, .int .i64 0, .string ⟨#[]⟩, .int .u64 0, .slice none 0 0, .slice none 0 0, .slice none 0 0, .slice none 0 0, .int .i64 0, .string ⟨#[]⟩, .string ⟨#[]⟩, .int .u64 0, .int .i64 0] 50)
    have BA : Blk ((((w.alloc (.cells (dmX M d) 69)).alloc (.cells (acc26 q ⟨4, i, ver, word, b, x⟩).toArray 39)).alloc (.cells #[.int .i64 0, .int .i64 0, .slice none 0 0, .slice none 0 0, .slice none 0 0] 69)).alloc (.cells #[.bool false, .int .u64 0, .int .u64 0, .int .i64 0, .int .i64 0, .string ⟨#[]⟩, .string ⟨#[]⟩, .bool false, .int .i64 0, .slice none 0 0, .slice none 0 0, .slice none 0 0, .int .i64 0, .int .i64 0, .string ⟨#[]⟩, .int .u64 0, .slice none 0 0, .slice none 0 0, .slice none 0 0, .slice none 0 0, .int .i64 0, .string ⟨#[]⟩, .string ⟨#[]⟩, .int .u64 0, .int .i64 0] 50)) (w.heap.size + 1) (acc26 q ⟨4, i, ver, word, b, x⟩).toArray 39 := by
      have := ((Blk.new (w.alloc (.cells (dmX M d) 69)) (acc26 q ⟨4, i, ver, word, b, x⟩).toArray 39).alloc (.cells #[.int .i64 0, .int .i64 0, .slice none 0 0, .slice none 0 0, .slice none 0 0] 69)).alloc (.cells #[.bool false, .int .u64 0, .int .u64 0, .int .i64 0, .int .i64 0, .string ⟨#[]⟩, .string ⟨#[]⟩, .bool false, .int .i64 0, .slice none 0 0, .slice none 0 0, .slice none 0 0, .int .i64 0, .int .i64 0, .string ⟨#[]⟩, .int .u64 0, .slice none 0 0, .slice none 0 0, .slice none 0 0, .slice none 0 0, .int .i64 0, .string ⟨#[]⟩, .string ⟨#[]⟩, .int .u64 0, .int .i64 0] 50)
      simpa using this
    have BM : Blk ((((w.alloc (.cells (dmX M d) 69)).alloc (.cells (acc26 q ⟨4, i, ver, word, b, x⟩).toArray 39)).alloc (.cells #[.int .i64 0, .int .i64 0, .slice none 0 0, .slice none 0 0, .slice none 0 0] 69)).alloc (.cells #[.bool false, .int .u64 0, .int .u64 0, .int .i64 0, .int .i64 0, .string ⟨#[]⟩, .string ⟨#[]⟩, .bool false, .int .i64 0, .slice none 0 0, .slice none 0 0, .slice none 0 0, .int .i64 0, .int .i64 0, .string ⟨#[]⟩, .int .u64 0, .slice none 0 0, .slice none 0 0, .slice none 0 0, .slice none 0 0, .int .i64 0, .string ⟨#[]⟩, .string ⟨#[]⟩, .int .u64 0, .int .i64 0] 50)) (w.heap.size + 2) #[.int .i64 0, .int .i64 0, .slice none 0 0, .slice none 0 0, .slice none 0 0] 69 := by
      have := (Blk.new ((w.alloc (.cells (dmX M d) 69)).alloc (.cells (acc26 q ⟨4, i, ver, word, b, x⟩).toArray 39)) #[.int .i64 0, .int .i64 0, .slice none 0 0, .slice none 0 0, .slice none 0 0] 69).alloc (.cells #[.bool false, .int .u64 0, .int .u64 0, .int .i64 0, .int .i64 0, .string ⟨#[]⟩, .string ⟨#[]⟩, .bool false, .int .i64 0, .slice none 0 0, .slice none 0 0, .slice none 0 0, .int .i64 0, .int .i64 0, .string ⟨#[]⟩, .int .u64 0, .slice none 0 0, .slice none 0 0, .slice none 0 0, .slice none 0 0, .int .i64 0, .string ⟨#[]⟩, .string ⟨#[]⟩, .int .u64 0, .int .i64 0] 50)
      simpa using this
    have BR : Blk ((((w.alloc (.cells (dmX M d) 69)).alloc (.cells (acc26 q ⟨4, i, ver, word, b, x⟩).toArray 39)).alloc (.cells #[.int .i64 0, .int .i64 0, .slice none 0 0, .slice none 0 0, .slice none 0 0] 69)).alloc (.cells #[.bool false, .int .u64 0, .int .u64 0, .int .i64 0, .int .i64 0, .string ⟨#[]⟩, .string ⟨#[]⟩, .bool false, .int .i64 0, .slice none 0 0, .slice none 0 0, .slice none 0 0, .int .i64 0, .int .i64 0, .string ⟨#[]⟩, .int .u64 0, .slice none 0 0, .slice none 0 0, .slice none 0 0, .slice none 0 0, .int .i64 0, .string ⟨#[]⟩, .string ⟨#[]⟩, .int .u64 0, .int .i64 0] 50)) (w.heap.size + 3) #[.bool false, .int .u64 0, .int .u64 0, .int .i64 0, .int .i64 0, .string ⟨#[]⟩, .string ⟨#[]⟩, .bool false, .int .i64 0, .slice none 0 0, .slice none 0 0, .slice none 0 0, .int .i64 0, .int .i64 0, .string ⟨#[]⟩, .int .u64 0, .slice none 0 0, .slice none 0 0, .slice none 0 0, .slice none 0 0, .int .i64 0, .string ⟨#[]⟩, .string ⟨#[]⟩, .int .u64 0, .int .i64 0] 50 := by
      have := Blk.new (((w.alloc (.cells (dmX M d) 69)).alloc (.cells (acc26 q ⟨4, i, ver, word, b, x⟩).toArray 39)).alloc (.cells #[.int .i64 0, .int .i64 0, .slice none 0 0, .slice none 0 0, .slice none 0 0] 69)) #[.bool false, .int .u64 0, .int .u64 0, .int .i64 0, .int .i64 0, .string ⟨#[]⟩, .string ⟨#[]⟩, .bool false, .int .i64 0, .slice none 0 0, .slice none 0 0, .slice none 0 0, .int .i64 0, .int .i64 0, .string ⟨#[]⟩, .int .u64 0, .slice none 0 0, .slice none 0 0, .slice none 0 0, .slice none 0 0, .int .i64 0, .string ⟨#[]⟩, .string ⟨#[]⟩, .int .u64 0, .int .i64 0] 50
      simpa using this
    go_enter Try.func30, Try.ntmps30
    go_upto_region 1 with (fail)
    generalize ((((w.alloc (.cells (dmX M d) 69)).alloc (.cells (acc26 q ⟨4, i, ver, word, b, x⟩).toArray 39)).alloc (.cells #[.int .i64 0, .int .i64 0, .slice none 0 0, .slice none 0 0, .slice none 0 0] 69)).alloc (.cells #[.bool false, .int .u64 0, .int .u64 0, .int .i64 0, .int .i64 0, .string ⟨#[]⟩, .string ⟨#[]⟩, .bool false, .int .i64 0, .slice none 0 0, .slice none 0 0, .slice none 0 0, .int .i64 0, .int .i64 0, .string ⟨#[]⟩, .int .u64 0, .slice none 0 0, .slice none 0 0, .slice none 0 0, .slice none 0 0, .int .i64 0, .string ⟨#[]⟩, .string ⟨#[]⟩, .int .u64 0, .int .i64 0] 50)) = w1 at hB BX BA BM BR ⊢
    have h1 := h.below hB
    have c0 : w1.cell? ⟨w.heap.size, 0, none⟩ = some (.int .i64 M.A) := BX.at 0 rfl
    have c1 : w1.cell? ⟨w.heap.size, 1, none⟩ = some (.int .i64 M.T) := BX.at 1 rfl
    have c2 : w1.cell? ⟨w.heap.size, 2, none⟩ = some (.slice d.h1.a M.L.length d.h1.c) := BX.at 2 rfl
    have c3 : w1.cell? ⟨w.heap.size, 3, none⟩ = some (.slice d.h2.a M.B.length d.h2.c) := BX.at 3 rfl
    have c4 : w1.cell? ⟨w.heap.size, 4, none⟩ = some (.slice d.h3.a M.R.length d.h3.c) := BX.at 4 rfl
    have a0 : w1.cell? ⟨w.heap.size + 1, 0, none⟩ = some (.int .i64 4) := BA.at 0 rfl
    have a1 : w1.cell? ⟨w.heap.size + 1, 1, none⟩ = some (.int .i64 i) := BA.at 1 rfl
    have a2 : w1.cell? ⟨w.heap.size + 1, 2, none⟩ = some (.int .u64 ver) := BA.at 2 rfl
    have a3 : w1.cell? ⟨w.heap.size + 1, 3, none⟩ = some (.int .u64 word) := BA.at 3 rfl
    go_wp2_with (refine wpList_load_row rfl 69 _ rfl w.heap.size rfl 69 _ (0, 0) _ (BX).h Try.underlying69 rfl (by kernel_rfl) ?_)
    refine (dnamed_any M d word w1 h1 hW.1 hW.2).mono ?_
    rintro e w2 ⟨rfl, hb2⟩
    rw [nameI_no hN]
    have hB2 := below_push2 hB hb2 (Nat.le_refl _)
    have BX2 := BX.below hb2
    have BM2 := BM.below hb2
    have BR2 := BR.below hb2
    have FA : Fr [w.heap.size + 2] (w2) ((w2).setRow (w.heap.size + 2) (ddM M d)) := Fr.row (S := [w.heap.size + 2]) (w := w2) (w.heap.size + 2) (ddM M d) (by simp)
    have MA := Blk.row BM2 (ddM M d)
    have RA := FA.blk BR2 (by simp)
    have RAB := Blk.row RA (ddR false)
    have MAB := (Fr.row (S := [w.heap.size + 3]) (w.heap.size + 3) (ddR false) (by simp)).blk MA (by simp)
    go_wp2_with (first
      | (refine wpList_load_row rfl 69 _ rfl w.heap.size rfl 69 _ (0, 0) _ (BX2).h Try.underlying69 rfl (by kernel_rfl) ?_)
      | (refine wpList_store_row rfl 69 _ _ rfl (w.heap.size + 2) (ddM M d) rfl rfl 69 _ (BM2).h (by kernel_rfl) (by rfl) (by kernel_rfl) ?_)
      | (refine wpList_store_row rfl 50 _ _ rfl (w.heap.size + 3) (ddR false) rfl rfl 50 _ RA.h (by kernel_rfl) (by rfl) (by kernel_rfl) ?_))
    refine bodyPost_ret (res_cc rfl _ _ (w.heap.size + 2) 69 (ddM M d) (0, 0) _ (w.heap.size + 3) 50 (ddR false) (0, 0) _ rfl MAB.h Try.underlying69 rfl (by kernel_rfl) rfl RAB.h Try.underlying50 rfl (by kernel_rfl)) rfl ?_
    exact didd_no h (below_two hB2) hD false hR
  have i0' : 0 ≤ i := by omega
  have i1' : i < (M.L.length : Int) := by omega
  have i2' : i < (M.T : Int) := by omega
  have j1 : decide (i < (M.L.length : Int)) = true := by simp; omega
  have j2 : decide (i < (M.T : Int)) = true := by simp; omega
  have hB : Below w.heap.size w ((((w.alloc (.cells (dmX M d) 69)).alloc (.cells (acc26 q ⟨4, i, ver, word, b, x⟩).toArray 39)).alloc (.cells #[.int .i64 0, .int .i64 0, .slice none 0 0, .slice none 0 0, .slice none 0 0] 69)).alloc (.cells #[.bool false, .int .u64 0, .int .u64 0, .int .i64 0, .int .i64 0, .string ⟨#[]⟩, .string ⟨#[]⟩, .bool false, .int .i64 0, .slice none 0 0, .slice none 0 0, .slice none 0 0, .int .i64 0, .int .i64 0, .string ⟨#[]⟩, .int .u64 0, .slice none 0 0, .slice none 0 0, .slice none 0 0, .slice none 0 0, .int .i64 0, .string ⟨#[]⟩, .string ⟨#[]⟩, .int .u64 0, .int .i64 0] 50)) := by (repeat (first | exact Below.refl _ _ | assumption | refine below_alloc2 ?_ (by first | exact Nat.le_refl _ | omega) _ | refine Below.drew ?_ | refine below_drewN ?_ _ | refine below_push2 ?_ ‹_› (by first | exact Nat.le_refl _ | omega) | refine Below.setCell ?_ (by first | (simp; done) | (simp; omega) | omega) _))
  have BX := (((Blk.new w (dmX M d) 69).alloc (.cells (acc26 q ⟨4, i, ver, word, b, x⟩).toArray 39)).alloc (.cells #[.int .i64 0, .int .i64 0, .slice none 0 0, .slice none 0 0, .slice none 0 0] 69)).alloc (.cells #[.bool false, .int .u64 0, .int .u64 0, .int .i64 0, .int .i64 0, .string ⟨#[]⟩, .string ⟨#[]⟩, .bool false, .int .i64 0, .slice none 0 0, .slice none 0 0, .slice none 0 0, .int .i64 0, .int .i64 0, .string ⟨#[]⟩, .int .u64 0, .slice none 0 0, .slice none 0 0, .slice none 0 0, .slice none 0 0, .int .i64 0, .string ⟨#[]⟩, .string ⟨#[]⟩, .int .u64 0, .int .i64 0] 50)
  have BA : Blk ((((w.alloc (.cells (dmX M d) 69)).alloc (.cells (acc26 q ⟨4, i, ver, word, b, x⟩).toArray 39)).alloc (.cells #[.int .i64 0, .int .i64 0, .slice none 0 0, .slice none 0 0, .slice none 0 0] 69)).alloc (.cells #[.bool false, .int .u64 0, .int .u64 0, .int .i64 0, .int .i64 0, .string ⟨#[]⟩, .string ⟨#[]⟩, .bool false, .int .i64 0, .slice none 0 0, .slice none 0 0, .slice none 0 0, .int .i64 0, .int .i64 0, .string ⟨#[]⟩, .int .u64 0, .slice none 0 0, .slice none 0 0, .slice none 0 0, .slice none 0 0, .int .i64 0, .string ⟨#[]⟩, .string ⟨#[]⟩, .int .u64 0, .int .i64 0] 50)) (w.heap.size + 1) (acc26 q ⟨4, i, ver, word, b, x⟩).toArray 39 := by
    have := ((Blk.new (w.alloc (.cells (dmX M d) 69)) (acc26 q ⟨4, i, ver, word, b, x⟩).toArray 39).alloc (.cells #[.int .i64 0, .int .i64 0, .slice none 0 0, .slice none 0 0, .slice none 0 0] 69)).alloc (.cells #[.bool false, .int .u64 0, .int .u64 0, .int .i64 0, .int .i64 0, .string ⟨#[]⟩, .string ⟨#[]⟩, .bool false, .int .i64 0, .slice none 0 0, .slice none 0 0, .slice none 0 0, .int .i64 0, .int .i64 0, .string ⟨#[]⟩, .int .u64 0, .slice none 0 0, .slice none 0 0, .slice none 0 0, .slice none 0 0, .int .i64 0, .string ⟨#[]⟩, .string ⟨#[]⟩, .int .u64 0, .int .i64 0] 50)
    simpa using this
  have BM : Blk ((((w.alloc (.cells (dmX M d) 69)).alloc (.cells (acc26 q ⟨4, i, ver, word, b, x⟩).toArray 39)).alloc (.cells #[.int .i64 0, .int .i64 0, .slice none 0 0, .slice none 0 0, .slice none 0 0] 69)).alloc (.cells #[.bool false, .int .u64 0, .int .u64 0, .int .i64 0, .int .i64 0, .string ⟨#[]⟩, .string ⟨#[]⟩, .bool false, .int .i64 0, .slice none 0 0, .slice none 0 0, .slice none 0 0, .int .i64 0, .int .i64 0, .string ⟨#[]⟩, .int .u64 0, .slice none 0 0, .slice none 0 0, .slice none 0 0, .slice none 0 0, .int .i64 0, .string ⟨#[]⟩, .string ⟨#[]⟩, .int .u64 0, .int .i64 0] 50)) (w.heap.size + 2) #[.int .i64 0, .int .i64 0, .slice none 0 0, .slice none 0 0, .slice none 0 0] 69 := by
    have := (Blk.new ((w.alloc (.cells (dmX M d) 69)).alloc (.cells (acc26 q ⟨4, i, ver, word, b, x⟩).toArray 39)) #[.int .i64 0, .int .i64 0, .slice none 0 0, .slice none 0 0, .slice none 0 0] 69).alloc (.cells #[.bool false, .int .u64 0, .int .u64 0, .int .i64 0, .int .i64 0, .string ⟨#[]⟩, .string ⟨#[]⟩, .bool false, .int .i64 0, .slice none 0 0, .slice none 0 0, .slice none 0 0, .int .i64 0, .int .i64 0, .string ⟨#[]⟩, .int .u64 0, .slice none 0 0, .slice none 0 0, .slice none 0 0, .slice none 0 0, .int .i64 0, .string ⟨#[]⟩, .string ⟨#[]⟩, .int .u64 0, .int .i64 0] 50)
    simpa using this
  have BR : Blk ((((w.alloc (.cells (dmX M d) 69)).alloc (.cells (acc26 q ⟨4, i, ver, word, b, x⟩).toArray 39)).alloc (.cells #[.int .i64 0, .int .i64 0, .slice none 0 0, .slice none 0 0, .slice none 0 0] 69)).alloc (.cells #[.bool false, .int .u64 0, .int .u64 0, .int .i64 0, .int .i64 0, .string ⟨#[]⟩, .string ⟨#[]⟩, .bool false, .int .i64 0, .slice none 0 0, .slice none 0 0, .slice none 0 0, .int .i64 0, .int .i64 0, .string ⟨#[]⟩, .int .u64 0, .slice none 0 0, .slice none 0 0, .slice none 0 0, .slice none 0 0, .int .i64 0, .string ⟨#[]⟩, .string ⟨#[]⟩, .int .u64 0, .int .i64 0] 50)) (w.heap.size + 3) #[.bool false, .int .u64 0, .int .u64 0, .int .i64 0, .int .i64 0, .string ⟨#[]⟩, .string ⟨#[]⟩, .bool false, .int .i64 0, .slice none 0 0, .slice none 0 0, .slice none 0 0, .int .i64 0, .int .i64 0, .string ⟨#[]⟩, .int .u64 0, .slice none 0 0, .slice none 0 0, .slice none 0 0, .slice none 0 0, .int .i64 0, .string ⟨#[]⟩, .string ⟨#[]⟩, .int .u64 0, .int .i64 0] 50 := by
    have := Blk.new (((w.alloc (.cells (dmX M d) 69)).alloc (.cells (acc26 q ⟨4, i, ver, word, b, x⟩).toArray 39)).alloc (.cells #[.int .i64 0, .int .i64 0, .slice none 0 0, .slice none 0 0, .slice none 0 0] 69)) #[.bool false, .int .u64 0, .int .u64 0, .int .i64 0, .int .i64 0, .string ⟨#[]⟩, .string ⟨#[]⟩, .bool false, .int .i64 0, .slice none 0 0, .slice none 0 0, .slice none 0 0, .int .i64 0, .int .i64 0, .string ⟨#[]⟩, .int .u64 0, .slice none 0 0, .slice none 0 0, .slice none 0 0, .slice none 0 0, .int .i64 0, .string ⟨#[]⟩, .string ⟨#[]⟩, .int .u64 0, .int .i64 0] 50
    simpa using this
  go_enter Try.func30, Try.ntmps30
  go_upto_region 1 with (fail)
  generalize ((((w.alloc (.cells (dmX M d) 69)).alloc (.cells (acc26 q ⟨4, i, ver, word, b, x⟩).toArray 39)).alloc (.cells #[.int .i64 0, .int .i64 0, .slice none 0 0, .slice none 0 0, .slice none 0 0] 69)).alloc (.cells #[.bool false, .int .u64 0, .int .u64 0, .int .i64 0, .int .i64 0, .string ⟨#[]⟩, .string ⟨#[]⟩, .bool false, .int .i64 0, .slice none 0 0, .slice none 0 0, .slice none 0 0, .int .i64 0, .int .i64 0, .string ⟨#[]⟩, .int .u64 0, .slice none 0 0, .slice none 0 0, .slice none 0 0, .slice none 0 0, .int .i64 0, .string ⟨#[]⟩, .string ⟨#[]⟩, .int .u64 0, .int .i64 0] 50)) = w1 at hB BX BA BM BR ⊢
  have h1 := h.below hB
  have c0 : w1.cell? ⟨w.heap.size, 0, none⟩ = some (.int .i64 M.A) := BX.at 0 rfl
  have c1 : w1.cell? ⟨w.heap.size, 1, none⟩ = some (.int .i64 M.T) := BX.at 1 rfl
  have c2 : w1.cell? ⟨w.heap.size, 2, none⟩ = some (.slice d.h1.a M.L.length d.h1.c) := BX.at 2 rfl
  have c3 : w1.cell? ⟨w.heap.size, 3, none⟩ = some (.slice d.h2.a M.B.length d.h2.c) := BX.at 3 rfl
  have c4 : w1.cell? ⟨w.heap.size, 4, none⟩ = some (.slice d.h3.a M.R.length d.h3.c) := BX.at 4 rfl
  have a0 : w1.cell? ⟨w.heap.size + 1, 0, none⟩ = some (.int .i64 4) := BA.at 0 rfl
  have a1 : w1.cell? ⟨w.heap.size + 1, 1, none⟩ = some (.int .i64 i) := BA.at 1 rfl
  have a2 : w1.cell? ⟨w.heap.size + 1, 2, none⟩ = some (.int .u64 ver) := BA.at 2 rfl
  have a3 : w1.cell? ⟨w.heap.size + 1, 3, none⟩ = some (.int .u64 word) := BA.at 3 rfl
  go_wp2_with (refine wpList_load_row rfl 69 _ rfl w.heap.size rfl 69 _ (0, 0) _ (BX).h Try.underlying69 rfl (by kernel_rfl) ?_)
  refine (dnamed_any M d word w1 h1 hW.1 hW.2).mono ?_
  rintro e w2 ⟨rfl, hb2⟩
  rw [nameI_no hN]
  have hB2 := below_push2 hB hb2 (Nat.le_refl _)
  have BX2 := BX.below hb2
  have BM2 := BM.below hb2
  have BR2 := BR.below hb2
  have FA : Fr [w.heap.size + 2] (w2) ((w2).setRow (w.heap.size + 2) (ddM M d)) := Fr.row (S := [w.heap.size + 2]) (w := w2) (w.heap.size + 2) (ddM M d) (by simp)
  have MA := Blk.row BM2 (ddM M d)
  have RA := FA.blk BR2 (by simp)
  have RAB := Blk.row RA (ddR false)
  have MAB := (Fr.row (S := [w.heap.size + 3]) (w.heap.size + 3) (ddR false) (by simp)).blk MA (by simp)
  go_wp2_with (first
    | (refine wpList_load_row rfl 69 _ rfl w.heap.size rfl 69 _ (0, 0) _ (BX2).h Try.underlying69 rfl (by kernel_rfl) ?_)
    | (refine wpList_store_row rfl 69 _ _ rfl (w.heap.size + 2) (ddM M d) rfl rfl 69 _ (BM2).h (by kernel_rfl) (by rfl) (by kernel_rfl) ?_)
    | (refine wpList_store_row rfl 50 _ _ rfl (w.heap.size + 3) (ddR false) rfl rfl 50 _ RA.h (by kernel_rfl) (by rfl) (by kernel_rfl) ?_))
  refine bodyPost_ret (res_cc rfl _ _ (w.heap.size + 2) 69 (ddM M d) (0, 0) _ (w.heap.size + 3) 50 (ddR false) (0, 0) _ rfl MAB.h Try.underlying69 rfl (by kernel_rfl) rfl RAB.h Try.underlying50 rfl (by kernel_rfl)) rfl ?_
  exact didd_no h (below_two hB2) hD false hR
set_option maxRecDepth 100000 in
set_option maxHeartbeats 3200000 in
theorem ddo_put_no {S : List Nat} (M : MemV) (d : DH) (i kd : Int) (ver word : Int) (q : BlockH) (b : BlockV) (x : OpV) (w : World) (h : DMem w S d M) (hW : U64 word) (hN : nameB M.A M.T M.L word = false) :
    Calls Try.prog 30 #[.agg (dmX M d), .agg (acc26 q ⟨5, i, ver, word, b, x⟩).toArray] w (DidD w S M ⟨5, i, ver, word, b, x⟩) := by
  have hR : repV M ⟨5, i, ver, word, b, x⟩ = ⟨false, 0, 0, blockZ, opZ⟩ := by simp [repV, hN]
  have hD : doV M ⟨5, i, ver, word, b, x⟩ = M := by simp [doV, hN]
  have hlen : 2 * M.A + 5 * M.T + 1 ≤ M.L.length := by have := h.len; omega
  have hT16 := h.t1
  have hA16 := h.a1
  by_cases i0 : i < 0
  · have hB : Below w.heap.size w ((((w.alloc (.cells (dmX M d) 69)).alloc (.cells (acc26 q ⟨5, i, ver, word, b, x⟩).toArray 39)).alloc (.cells #[.int .i64 0, .int .i64 0, .slice none 0 0, .slice none 0 0, .slice none 0 0] 69)).alloc (.cells #[.bool false, .int .u64 0, .int .u64 0, .int .i64 0, .int .i64 0, .string ⟨#[]⟩, .string ⟨#[]⟩, .bool false, .int .i64 0, .slice none 0 0, .slice none 0 0, .slice none 0 0, .int .i64 0, .int .i64 0, .string ⟨#[]⟩, .int .u64 0, .slice none 0 0, .slice none 0 0, .slice none 0 0, .slice none 0 0, .int .i64 0, .string ⟨#[]⟩, .string ⟨#[]⟩, .int .u64 0, .int .i64 0] 50)) := by (repeat (first | exact Below.refl _ _ | assumption | refine below_alloc2 ?_ (by first | exact Nat.le_refl _ | omega) _ | refine Below.drew ?_ | refine below_drewN ?_ _ | refine below_push2 ?_ ‹_› (by first | exact Nat.le_refl _ | omega) | refine Below.setCell ?_ (by first | (simp; done) | (simp; omega) | omega) _))
    have BX := (((Blk.new w (dmX M d) 69).alloc (.cells (acc26 q ⟨5, i, ver, word, b, x⟩).toArray 39)).alloc (.cells #[.int .i64 0, .int .i64 0, .slice none 0 0, .slice none 0 0, .slice none 0 0] 69)).alloc (.cells #[.bool false, .int .u64 0, .int .u64 0, .int .i64 0, .int .i64 0, .string ⟨#[]⟩, .string ⟨#[]⟩, .bool false, .int .i64 0, .slice none 0 0, .slice none 0 0, .slice none 0 0, .int .i64 0, .int .i64 0, .string ⟨#[]⟩, .int .u64 0, .slice none 0 0, .slice none 0 0, .slice none 0 0, .slice none 0 0, .int .i64 0, .string ⟨#[]⟩, .string ⟨#[]⟩, .int .u64 0, .int .i64 0] 50)
    have BA : Blk ((((w.alloc (.cells (dmX M d) 69)).alloc (.cells (acc26 q ⟨5, i, ver, word, b, x⟩).toArray 39)).alloc (.cells #[.int .i64 0, .int .i64 0, .slice none 0 0, .slice none 0 0, .slice none 0 0] 69)).alloc (.cells #[.bool false, .int .u64 0, .int .u64 0, .int .i64 0, .int .i64 0, .string ⟨#[]⟩, .string ⟨#[]⟩, .bool false, .int .i64 0, .slice none 0 0, .slice none 0 0, .slice none 0 0, .int .i64 0, .int .i64 0, .string ⟨#[]⟩, .int .u64 0, .slice none 0 0, .slice none 0 0, .slice none 0 0, .slice none 0 0, .int .i64 0, .string ⟨#[]⟩, .string ⟨#[]⟩, .int .u64 0, .int .i64 0] 50)) (w.heap.size + 1) (acc26 q ⟨5, i, ver, word, b, x⟩).toArray 39 := by
      have := ((Blk.new (w.alloc (.cells (dmX M d) 69)) (acc26 q ⟨5, i, ver, word, b, x⟩).toArray 39).alloc (.cells #[.int .i64 0, .int .i64 0, .slice none 0 0, .slice none 0 0, .slice none 0 0] 69)).alloc (.cells #[.bool false, .int .u64 0, .int .u64 0, .int .i64 0, .int .i64 0, .string ⟨#[]⟩, .string ⟨#[]⟩, .bool false, .int .i64 0, .slice none 0 0, .slice none 0 0, .slice none 0 0, .int .i64 0, .int .i64 0, .string ⟨#[]⟩, .int .u64 0, .slice none 0 0, .slice none 0 0, .slice none 0 0, .slice none 0 0, .int .i64 0, .string ⟨#[]⟩, .string ⟨#[]⟩, .int .u64 0, .int .i64 0] 50)
      simpa using this
    have BM : Blk ((((w.alloc (.cells (dmX M d) 69)).alloc (.cells (acc26 q ⟨5, i, ver, word, b, x⟩).toArray 39)).alloc (.cells #[.int .i64 0, .int .i64 0, .slice none 0 0, .slice none 0 0, .slice none 0 0] 69)).alloc (.cells #[.bool false, .int .u64 0, .int .u64 0, .int .i64 0, .int .i64 0, .string ⟨#[]⟩, .string ⟨#[]⟩, .bool false, .int .i64 0, .slice none 0 0, .slice none 0 0, .slice none 0 0, .int .i64 0, .int .i64 0, .string ⟨#[]⟩, .int .u64 0, .slice none 0 0, .slice none 0 0, .slice none 0 0, .slice none 0 0, .int .i64 0, .string ⟨#[]⟩, .string ⟨#[]⟩, .int .u64 0, .int .i64 0] 50)) (w.heap.size + 2) #[.int .i64 0, .int .i64 0, .slice none 0 0, .slice none 0 0, .slice none 0 0] 69 := by
      have := (Blk.new ((w.alloc (.cells (dmX M d) 69)).alloc (.cells (acc26 q ⟨5, i, ver, word, b, x⟩).toArray 39)) #[.int .i64 0, .int .i64 0, .slice none 0 0, .slice none 0 0, .slice none 0 0] 69).alloc (.cells #[.bool false, .int .u64 0, .int .u64 0, .int .i64 0, .int .i64 0, .string ⟨#[]⟩, .string ⟨#[]⟩, .bool false, .int .i64 0, .slice none 0 0, .slice none 0 0, .slice none 0 0, .int .i64 0, .int .i64 0, .string ⟨#[]⟩, .int .u64 0, .slice none 0 0, .slice none 0 0, .slice none 0 0, .slice none 0 0, .int .i64 0, .string ⟨#[]⟩, .string ⟨#[]⟩, .int .u64 0, .int .i64 0] 50)
      simpa using this
    have BR : Blk ((((w.alloc (.cells (dmX M d) 69)).alloc (.cells (acc26 q ⟨5, i, ver, word, b, x⟩).toArray 39)).alloc (.cells #[.int .i64 0, .int .i64 0, .slice none 0 0, .slice none 0 0, .slice none 0 0] 69)).alloc (.cells #[.bool false, .int .u64 0, .int .u64 0, .int .i64 0, .int .i64 0, .string ⟨#[]⟩, .string ⟨#[]⟩, .bool false, .int .i64 0, .slice none 0 0, .slice none 0 0, .slice none 0 0, .int .i64 0, .int .i64 0, .string ⟨#[]⟩, .int .u64 0, .slice none 0 0, .slice none 0 0, .slice none 0 0, .slice none 0 0, .int .i64 0, .string ⟨#[]⟩, .string ⟨#[]⟩, .int .u64 0, .int .i64 0] 50)) (w.heap.size + 3) #[.bool false, .int .u64 0, .int .u64 0, .int .i64 0, .int .i64 0, .string ⟨#[]⟩, .string ⟨#[]⟩, .bool false, .int .i64 0, .slice none 0 0, .slice none 0 0, .slice none 0 0, .int .i64 0, .int .i64 0, .string ⟨#[]⟩, .int .u64 0, .slice none 0 0, .slice none 0 0, .slice none 0 0, .slice none 0 0, .int .i64 0, .string ⟨#[]⟩, .string ⟨#[]⟩, .int .u64 0, .int .i64 0] 50 := by
      have := Blk.new (((w.alloc (.cells (dmX M d) 69)).alloc (.cells (acc26 q ⟨5, i, ver, word, b, x⟩).toArray 39)).alloc (.cells #[.int .i64 0, .int .i64 0, .slice none 0 0, .slice none 0 0, .slice none 0 0] 69)) #[.bool false, .int .u64 0, .int .u64 0, .int .i64 0, .int .i64 0, .string ⟨#[]⟩, .string ⟨#[]⟩, .bool false, .int .i64 0, .slice none 0 0, .slice none 0 0, .slice none 0 0, .int .i64 0, .int .i64 0, .string ⟨#[]⟩, .int .u64 0, .slice none 0 0, .slice none 0 0, .slice none 0 0, .slice none 0 0, .int .i64 0, .string ⟨#[]⟩, .string ⟨#[]⟩, .int .u64 0, .int .i64 0] 50
      simpa using this
    go_enter Try.func30, Try.ntmps30
    go_upto_region 1 with (fail)
    generalize ((((w.alloc (.cells (dmX M d) 69)).alloc (.cells (acc26 q ⟨5, i, ver, word, b, x⟩).toArray 39)).alloc (.cells #[.int .i64 0, .int .i64 0, .slice none 0 0, .slice none 0 0, .slice none 0 0] 69)).alloc (.cells #[.bool false, .int .u64 0, .int .u64 0, .int .i64 0, .int .i64 0, .string ⟨#[]⟩, .string ⟨#[]⟩, .bool false, .int .i64 0, .slice none 0 0, .slice none 0 0, .slice none 0 0, .int .i64 0, .int .i64 0, .string ⟨#[]⟩, .int .u64 0, .slice none 0 0, .slice none 0 0, .slice none 0 0, .slice none 0 0, .int .i64 0, .string ⟨#[]⟩, .string ⟨#[]⟩, .int .u64 0, .int .i64 0] 50)) = w1 at hB BX BA BM BR ⊢
    have h1 := h.below hB
    have c0 : w1.cell? ⟨w.heap.size, 0, none⟩ = some (.int .i64 M.A) := BX.at 0 rfl
    have c1 : w1.cell? ⟨w.heap.size, 1, none⟩ = some (.int .i64 M.T) := BX.at 1 rfl
    have c2 : w1.cell? ⟨w.heap.size, 2, none⟩ = some (.slice d.h1.a M.L.length d.h1.c) := BX.at 2 rfl
    have c3 : w1.cell? ⟨w.heap.size, 3, none⟩ = some (.slice d.h2.a M.B.length d.h2.c) := BX.at 3 rfl
    have c4 : w1.cell? ⟨w.heap.size, 4, none⟩ = some (.slice d.h3.a M.R.length d.h3.c) := BX.at 4 rfl
    have a0 : w1.cell? ⟨w.heap.size + 1, 0, none⟩ = some (.int .i64 5) := BA.at 0 rfl
    have a1 : w1.cell? ⟨w.heap.size + 1, 1, none⟩ = some (.int .i64 i) := BA.at 1 rfl
    have a2 : w1.cell? ⟨w.heap.size + 1, 2, none⟩ = some (.int .u64 ver) := BA.at 2 rfl
    have a3 : w1.cell? ⟨w.heap.size + 1, 3, none⟩ = some (.int .u64 word) := BA.at 3 rfl
    go_wp2_with (refine wpList_load_row rfl 69 _ rfl w.heap.size rfl 69 _ (0, 0) _ (BX).h Try.underlying69 rfl (by kernel_rfl) ?_)
    refine (dnamed_any M d word w1 h1 hW.1 hW.2).mono ?_
    rintro e w2 ⟨rfl, hb2⟩
    rw [nameI_no hN]
    have hB2 := below_push2 hB hb2 (Nat.le_refl _)
    have BX2 := BX.below hb2
    have BM2 := BM.below hb2
    have BR2 := BR.below hb2
    have FA : Fr [w.heap.size + 2] (w2) ((w2).setRow (w.heap.size + 2) (ddM M d)) := Fr.row (S := [w.heap.size + 2]) (w := w2) (w.heap.size + 2) (ddM M d) (by simp)
    have MA := Blk.row BM2 (ddM M d)
    have RA := FA.blk BR2 (by simp)
    have RAB := Blk.row RA (ddR false)
    have MAB := (Fr.row (S := [w.heap.size + 3]) (w.heap.size + 3) (ddR false) (by simp)).blk MA (by simp)
    go_wp2_with (first
      | (refine wpList_load_row rfl 69 _ rfl w.heap.size rfl 69 _ (0, 0) _ (BX2).h Try.underlying69 rfl (by kernel_rfl) ?_)
      | (refine wpList_store_row rfl 69 _ _ rfl (w.heap.size + 2) (ddM M d) rfl rfl 69 _ (BM2).h (by kernel_rfl) (by rfl) (by kernel_rfl) ?_)
      | (refine wpList_store_row rfl 50 _ _ rfl (w.heap.size + 3) (ddR false) rfl rfl 50 _ RA.h (by kernel_rfl) (by rfl) (by kernel_rfl) ?_))
    refine bodyPost_ret (res_cc rfl _ _ (w.heap.size + 2) 69 (ddM M d) (0, 0) _ (w.heap.size + 3) 50 (ddR false) (0, 0) _ rfl MAB.h Try.underlying69 rfl (by kernel_rfl) rfl RAB.h Try.underlying50 rfl (by kernel_rfl)) rfl ?_
    exact didd_no h (below_two hB2) hD false hR
  by_cases i1 : (M.L.length : Int) ≤ i
  · have i0' : 0 ≤ i := by omega
    have i2' : (M.T : Int) ≤ i := by omega
    have j1 : decide (i < (M.L.length : Int)) = false := by simp; omega
    have j2 : decide (i < (M.T : Int)) = false := by simp; omega
    have hB : Below w.heap.size w ((((w.alloc (.cells (dmX M d) 69)).alloc (.cells (acc26 q ⟨5, i, ver, word, b, x⟩).toArray 39)).alloc (.cells #[.int .i64 0, .int .i64 0, .slice none 0 0, .slice none 0 0, .slice none 0 0] 69)).alloc (.cells #[.bool false, .int .u64 0, .int .u64 0, .int .i64 0, .int .i64 0, .string ⟨#[]⟩, .string ⟨#[]⟩, .bool false, .int .i64 0, .slice none 0 0, .slice none 0 0, .slice none 0 0, .int .i64 0, .int .i64 0, .string ⟨#[]⟩, .int .u64 0, .slice none 0 0, .slice none 0 0, .slice none 0 0, .slice none 0 0, .int .i64 0, .string ⟨#[]⟩, .string ⟨#[]⟩, .int .u64 0, .int .i64 0] 50)) := by (repeat (first | exact Below.refl _ _ | assumption | refine below_alloc2 ?_ (by first | exact Nat.le_refl _ | omega) _ | refine Below.drew ?_ | refine below_drewN ?_ _ | refine below_push2 ?_ ‹_› (by first | exact Nat.le_refl _ | omega) | refine Below.setCell ?_ (by first | (simp; done) | (simp; omega) | omega) _))
    have BX := (((Blk.new w (dmX M d) 69).alloc (.cells (acc26 q ⟨5, i, ver, word, b, x⟩).toArray 39)).alloc (.cells #[.int .i64 0, .int .i64 0, .slice none 0 0, .slice none 0 0, .slice none 0 0] 69)).alloc (.cells #[.bool false, .int .u64 0, .int .u64 0, .int .i64 0, .int .i64 0, .string ⟨#[]⟩, .string ⟨#[]⟩, .bool false, .int .i64 0, .slice none 0 0, .slice none 0 0, .slice none 0 0, .int .i64 0, .int .i64 0, .string ⟨#[]⟩, .int .u64 0, .slice none 0 0, .slice none 0 0, .slice none 0 0, .slice none 0 0, .int .i64 0, .string ⟨#[]⟩, .string ⟨#[]⟩, .int .u64 0, .int .i64 0] 50)
    have BA : Blk ((((w.alloc (.cells (dmX M d) 69)).alloc (.cells (acc26 q ⟨5, i, ver, word, b, x⟩).toArray 39)).alloc (.cells #[.int .i64 0, .int .i64 0, .slice none 0 0, .slice none 0 0, .slice none 0 0] 69)).alloc (.cells #[.bool false, .int .u64 0, .int .u64 0, .int .i64 0, .int .i64 0, .string ⟨#[]⟩, .string ⟨#[]⟩, .bool false, .int .i64 0, .slice none 0 0, .slice none 0 0, .slice none 0 0, .int .i64 0, .int .i64 0, .string ⟨#[]⟩, .int .u64 0, .slice none 0 0, .slice none 0 0, .slice none 0 0, .slice none 0 0, .int .i64 0, .string ⟨#[]⟩, .string ⟨#[]⟩, .int .u64 0, .int .i64 0] 50)) (w.heap.size + 1) (acc26 q ⟨5, i, ver, word, b, x⟩).toArray 39 := by
      have := ((Blk.new (w.alloc (.cells (dmX M d) 69)) (acc26 q ⟨5, i, ver, word, b, x⟩).toArray 39).alloc (.cells #[.int .i64 0, .int .i64 0, .slice none 0 0, .slice none 0 0, .slice none 0 0] 69)).alloc (.cells #[.bool false, .int .u64 0, .int .u64 0, .int .i64 0, .int .i64 0, .string ⟨#[]⟩, .string ⟨#[]⟩, .bool false, .int .i64 0, .slice none 0 0, .slice none 0 0, .slice none 0 0, .int .i64 0, .int .i64 0, .string ⟨#[]⟩, .int .u64 0, .slice none 0 0, .slice none 0 0, .slice none 0 0, .slice none 0 0, .int .i64 0, .string ⟨#[]⟩, .string ⟨#[]⟩, .int .u64 0, .int .i64 0] 50)
      simpa using this
    have BM : Blk ((((w.alloc (.cells (dmX M d) 69)).alloc (.cells (acc26 q ⟨5, i, ver, word, b, x⟩).toArray 39)).alloc (.cells #[.int .i64 0, .int .i64 0, .slice none 0 0, .slice none 0 0, .slice none 0 0] 69)).alloc (.cells #[.bool false, .int .u64 0, .int .u64 0, .int .i64 0, .int .i64 0, .string ⟨#[]⟩, .string ⟨#[]⟩, .bool false, .int .i64 0, .slice none 0 0, .slice none 0 0, .slice none 0 0, .int .i64 0, .int .i64 0, .string ⟨#[]⟩, .int .u64 0, .slice none 0 0, .slice none 0 0, .slice none 0 0, .slice none 0 0, .int .i64 0, .string ⟨#[]⟩, .string ⟨#[]⟩, .int .u64 0, .int .i64 0] 50)) (w.heap.size + 2) #[.int .i64 0, .int .i64 0, .slice none 0 0, .slice none 0 0, .slice none 0 0] 69 := by
      have := (Blk.new ((w.alloc (.cells (dmX M d) 69)).alloc (.cells (acc26 q ⟨5, i, ver, word, b, x⟩).toArray 39)) #[.int .i64 0, .int .i64 0, .slice none 0 0, .slice none 0 0, .slice none 0 0] 69).alloc (.cells #[.bool false, .int .u64 0, .int .u64 0, .int .i64 0, .int .i64 0, .string ⟨#[]⟩, .string ⟨#[]⟩, .bool false, .int .i64 0, .slice none 0 0, .slice none 0 0, .slice none 0 0, .int .i64 0, .int .i64 0, .string ⟨#[]⟩, .int .u64 0, .slice none 0 0, .slice none 0 0, .slice none 0 0, .slice none 0 0, .int .i64 0, .string ⟨#[]⟩, .string ⟨#[]⟩, .int .u64 0, .int .i64 0] 50)
      simpa using this
    have BR : Blk ((((w.alloc (.cells (dmX M d) 69)).alloc (.cells (acc26 q ⟨5, i, ver, word, b, x⟩).toArray 39)).alloc (.cells #[.int .i64 0, .int .i64 0, .slice none 0 0, .slice none 0 0, .slice none 0 0] 69)).alloc (.cells #[.bool false, .int .u64 0, .int .u64 0, .int .i64 0, .int .i64 0, .string ⟨#[]⟩, .string ⟨#[]⟩, .bool false, .int .i64 0, .slice none 0 0, .slice none 0 0, .slice none 0 0, .int .i64 0, .int .i64 0, .string ⟨#[]⟩, .int .u64 0, .slice none 0 0, .slice none 0 0, .slice none 0 0, .slice none 0 0, .int .i64 0, .string ⟨#[]⟩, .string ⟨#[]⟩, .int .u64 0, .int .i64 0] 50)) (w.heap.size + 3) #[.bool false, .int .u64 0, .int .u64 0, .int .i64 0, .int .i64 0, .string ⟨#[]⟩, .string ⟨#[]⟩, .bool false, .int .i64 0, .slice none 0 0, .slice none 0 0, .slice none 0 0, .int .i64 0, .int .i64 0, .string ⟨#[]⟩, .int .u64 0, .slice none 0 0, .slice none 0 0, .slice none 0 0, .slice none 0 0, .int .i64 0, .string ⟨#[]⟩, .string ⟨#[]⟩, .int .u64 0, .int .i64 0] 50 := by
      have := Blk.new (((w.alloc (.cells (dmX M d) 69)).alloc (.cells (acc26 q ⟨5, i, ver, word, b, x⟩).toArray 39)).alloc (.cells #[.int .i64 0, .int .i64 0, .slice none 0 0, .slice none 0 0, .slice none 0 0] 69)) #[.bool false, .int .u64 0, .int .u64 0, .int .i64 0, .int .i64 0, .string ⟨#[]⟩, .string ⟨#[]⟩, .bool false, .int .i64 0, .slice none 0 0, .slice none 0 0, .slice none 0 0, .int .i64 0, .int .i64 0, .string ⟨#[]⟩, .int .u64 0, .slice none 0 0, .slice none 0 0, .slice none 0 0, .slice none 0 0, .int .i64 0, .string ⟨#[]⟩, .string ⟨#[]⟩, .int .u64 0, .int .i64 0] 50
      simpa using this
    go_enter Try.func30, Try.ntmps30
    go_upto_region 1 with (fail)
    generalize ((((w.alloc (.cells (dmX M d) 69)).alloc (.cells (acc26 q ⟨5, i, ver, word, b, x⟩).toArray 39)).alloc (.cells #[.int .i64 0, .int .i64 0, .slice none 0 0, .slice none 0 0, .slice none 0 0] 69)).alloc (.cells #[.bool false, .int .u64 0, .int .u64 0, .int .i64 0, .int .i64 0, .string ⟨#[]⟩, .string ⟨#[]⟩, .bool false, .int .i64 0, .slice none 0 0, .slice none 0 0, .slice none 0 0, .int .i64 0, .int .i64 0, .string ⟨#[]⟩, .int .u64 0, .slice none 0 0, .slice none 0 0, .slice none 0 0, .slice none 0 0, .int .i64 0, .string ⟨#[]⟩, .string ⟨#[]⟩, .int .u64 0, .int .i64 0] 50)) = w1 at hB BX BA BM BR ⊢
    have h1 := h.below hB
    have c0 : w1.cell? ⟨w.heap.size, 0, none⟩ = some (.int .i64 M.A) := BX.at 0 rfl
    have c1 : w1.cell? ⟨w.heap.size, 1, none⟩ = some (.int .i64 M.T) := BX.at 1 rfl
    have c2 : w1.cell? ⟨w.heap.size, 2, none⟩ = some (.slice d.h1.a M.L.length d.h1.c) := BX.at 2 rfl
    have c3 : w1.cell? ⟨w.heap.size, 3, none⟩ = some (.slice d.h2.a M.B.length d.h2.c) := BX.at 3 rfl
    have c4 : w1.cell? ⟨w.heap.size, 4, none⟩ = some (.slice d.h3.a M.R.length d.h3.c) := BX.at 4 rfl
    have a0 : w1.cell? ⟨w.heap.size + 1, 0, none⟩ = some (.int .i64 5) := BA.at 0 rfl
    have a1 : w1.cell? ⟨w.heap.size + 1, 1, none⟩ = some (.int .i64 i) := BA.at 1 rfl
    have a2 : w1.cell? ⟨w.heap.size + 1, 2, none⟩ = some (.int .u64 ver) := BA.at 2 rfl
    have a3 : w1.cell? ⟨w.heap.size + 1, 3, none⟩ = some (.int .u64 word) := BA.at 3 rfl
    go_wp2_with (refine wpList_load_row rfl 69 _ rfl w.heap.size rfl 69 _ (0, 0) _ (BX).h Try.underlying69 rfl (by kernel_rfl) ?_)
    refine (dnamed_any M d word w1 h1 hW.1 hW.2).mono ?_
    rintro e w2 ⟨rfl, hb2⟩
    rw [nameI_no hN]
    have hB2 := below_push2 hB hb2 (Nat.le_refl _)
    have BX2 := BX.below hb2
    have BM2 := BM.below hb2
    have BR2 := BR.below hb2
    have FA : Fr [w.heap.size + 2] (w2) ((w2).setRow (w.heap.size + 2) (ddM M d)) := Fr.row (S := [w.heap.size + 2]) (w := w2) (w.heap.size + 2) (ddM M d) (by simp)
    have MA := Blk.row BM2 (ddM M d)
    have RA := FA.blk BR2 (by simp)
    have RAB := Blk.row RA (ddR false)
    have MAB := (Fr.row (S := [w.heap.size + 3]) (w.heap.size + 3) (ddR false) (by simp)).blk MA (by simp)
    go_wp2_with (first
      | (refine wpList_load_row rfl 69 _ rfl w.heap.size rfl 69 _ (0, 0) _ (BX2).h Try.underlying69 rfl (by kernel_rfl) ?_)
      | (refine wpList_store_row rfl 69 _ _ rfl (w.heap.size + 2) (ddM M d) rfl rfl 69 _ (BM2).h (by kernel_rfl) (by rfl) (by kernel_rfl) ?_)
      | (refine wpList_store_row rfl 50 _ _ rfl (w.heap.size + 3) (ddR false) rfl rfl 50 _ RA.h (by kernel_rfl) (by rfl) (by kernel_rfl) ?_))
    refine bodyPost_ret (res_cc rfl _ _ (w.heap.size + 2) 69 (ddM M d) (0, 0) _ (w.heap.size + 3) 50 (ddR false) (0, 0) _ rfl MAB.h Try.underlying69 rfl (by kernel_rfl) rfl RAB.h Try.underlying50 rfl (by kernel_rfl)) rfl ?_
    exact didd_no h (below_two hB2) hD false hR
  by_cases i2 : (M.T : Int) ≤ i
  · have i0' : 0 ≤ i := by omega
    have i1' : i < (M.L.length : Int) := by omega
    have j1 : decide (i < (M.L.length : Int)) = true := by simp; omega
    have j2 : decide (i < (M.T : Int)) = false := by simp; omega
    have hB : Below w.heap.size w ((((w.alloc (.cells (dmX M d) 69)).alloc (.cells (acc26 q ⟨5, i, ver, word, b, x⟩).toArray 39)).alloc (.cells #[.int .i64 0, .int .i64 0, .slice none 0 0, .slice none 0 0, .slice none 0 0] 69)).alloc (.cells #[.bool false, .int .u64 0, .int .u64 0, .int .i64 0, .int .i64 0, .string ⟨#[]⟩, .string ⟨#[]⟩, .bool false, .int .i64 0, .slice none 0 0, .slice none 0 0, .slice none 0 0, .int .i64 0, .int .i64 0, .string ⟨#[]⟩, .int .u64 0, .slice none 0 0, .slice none 0 0, .slice none 0 0, .slice none 0 0, .int .i64 0, .string ⟨#[]⟩, .string ⟨#[]⟩, .int .u64 0, .int .i64 0] 50)) := by (repeat (first | exact Below.refl _ _ | assumption | refine below_alloc2 ?_ (by first | exact Nat.le_refl _ | omega) _ | refine Below.drew ?_ | refine below_drewN ?_ _ | refine below_push2 ?_ ‹_› (by first | exact Nat.le_refl _ | omega) | refine Below.setCell ?_ (by first | (simp; done) | (simp; omega) | omega) _))
    have BX := (((Blk.new w (dmX M d) 69).alloc (.cells (acc26 q ⟨5, i, ver, word, b, x⟩).toArray 39)).alloc (.cells #[.int .i64 0, .int .i64 0, .slice none 0 0, .slice none 0 0, .slice none 0 0] 69)).alloc (.cells #[.bool false, .int .u64 0, .int .u64 0, .int .i64 0, .int .i64 0, .string ⟨#[]⟩, .string ⟨#[]⟩, .bool false, .int .i64 0, .slice none 0 0, .slice none 0 0, .slice none 0 0, .int .i64 0, .int .i64 0, .string ⟨#[]⟩, .int .u64 0, .slice none 0 0, .slice none 0 0, .slice none 0 0, .slice none 0 0, .int .i64 0, .string ⟨#[]⟩, .string ⟨#[]⟩, .int .u64 0, .int .i64 0] 50)
    have BA : Blk ((((w.alloc (.cells (dmX M d) 69)).alloc (.cells (acc26 q ⟨5, i, ver, word, b, x⟩).toArray 39)).alloc (.cells #[.int .i64 0, .int .i64 0, .slice none 0 0, .slice none 0 0, .slice none 0 0] 69)).alloc (.cells #[.bool false, .int .u64 0, .int .u64 0, .int .i64 0, .int .i64 0, .string ⟨#[]⟩, .string ⟨#[]⟩, .bool false, .int .i64 0, .slice none 0 0, .slice none 0 0, .slice none 0 0, .int .i64 0, .int .i64 0, .string ⟨#[]⟩, .int .u64 0, .slice none 0 0, .slice none 0 0, .slice none 0 0, .slice none 0 0, .int .i64 0, .string ⟨#[]⟩, .string ⟨#[]⟩, .int .u64 0, .int .i64 0] 50)) (w.heap.size + 1) (acc26 q ⟨5, i, ver, word, b, x⟩).toArray 39 := by
      have := ((Blk.new (w.alloc (.cells (dmX M d) 69)) (acc26 q ⟨5, i, ver, word, b, x⟩).toArray 39).alloc (.cells #[.int .i64 0, .int .i64 0, .slice none 0 0, .slice none 0 0, .slice none 0 0] 69)).alloc (.cells #[.bool false, .int .u64 0, .int .u64 0, .int .i64 0, .int .i64 0, .string ⟨#[]⟩, .string ⟨#[]⟩, .bool false, .int .i64 0, .slice none 0 0, .slice none 0 0, .slice none 0 0, .int .i64 0, .int .i64 0, .string ⟨#[]⟩, .int .u64 0, .slice none 0 0, .slice none 0 0, .slice none 0 0, .slice none 0 0, .int .i64 0, .string ⟨#[]⟩, .string ⟨#[]⟩, .int .u64 0, .int .i64 0] 50)
      simpa using this
    have BM : Blk ((((w.alloc (.cells (dmX M d) 69)).alloc (.cells (acc26 q ⟨5, i, ver, word, b, x⟩).toArray 39)).alloc (.cells #[.int .i64 0, .int .i64 0, .slice none 0 0, .slice none 0 0, .slice none 0 0] 69)).alloc (.cells #[.bool false, .int .u64 0, .int .u64 0, .int .i64 0, .int .i64 0, .string ⟨#[]⟩, .string ⟨#[]⟩, .bool false, .int .i64 0, .slice none 0 0, .slice none 0 0, .slice none 0 0, .int .i64 0, .int .i64 0, .string ⟨#[]⟩, .int .u64 0, .slice none 0 0, .slice none 0 0, .slice none 0 0, .slice none 0 0, .int .i64 0, .string ⟨#[]⟩, .string ⟨#[]⟩, .int .u64 0, .int .i64 0] 50)) (w.heap.size + 2) #[.int .i64 0, .int .i64 0, .slice none 0 0, .slice none 0 0, .slice none 0 0] 69 := by
      have := (Blk.new ((w.alloc (.cells (dmX M d) 69)).alloc (.cells (acc26 q ⟨5, i, ver, word, b, x⟩).toArray 39)) #[.int .i64 0, .int .i64 0, .slice none 0 0, .slice none 0 0, .slice none 0 0] 69).alloc (.cells #[.bool false, .int .u64 0, .int .u64 0, .int .i64 0, .int .i64 0, .string ⟨#[]⟩, .string ⟨#[]⟩, .bool false, .int .i64 0, .slice none 0 0, .slice none 0 0, .slice none 0 0, .int .i64 0, .int .i64 0, .string ⟨#[]⟩, .int .u64 0, .slice none 0 0, .slice none 0 0, .slice none 0 0, .slice none 0 0, .int .i64 0, .string ⟨#[]⟩, .string ⟨#[]⟩, .int .u64 0, .int .i64 0] 50)
      simpa using this
    have BR : Blk ((((w.alloc (.cells (dmX M d) 69)).alloc (.cells (acc26 q ⟨5, i, ver, word, b, x⟩).toArray 39)).alloc (.cells #[.int .i64 0, .int .i64 0, .slice none 0 0, .slice none 0 0, .slice none 0 0] 69)).alloc (.cells #[.bool false, .int .u64 0, .int .u64 0, .int .i64 0, .int .i64 0, .string ⟨#[]⟩, .string ⟨#[]⟩, .bool false, .int .i64 0, .slice none 0 0, .slice none 0 0, .slice none 0 0, .int .i64 0, .int .i64 0, .string ⟨#[]⟩, .int .u64 0, .slice none 0 0, .slice none 0 0, .slice none 0 0, .slice none 0 0, .int .i64 0, .string ⟨#[]⟩, .string ⟨#[]⟩, .int .u64 0, .int .i64 0] 50)) (w.heap.size + 3) #[.bool false, .int .u64 0, .int .u64 0, .int .i64 0, .int .i64 0, .string ⟨#[]⟩, .string ⟨#[]⟩, .bool false, .int .i64 0, .slice none 0 0, .slice none 0 0, .slice none 0 0, .int .i64 0, .int .i64 0, .string ⟨#[]⟩, .int .u64 0, .slice none 0 0, .slice none 0 0, .slice none 0 0, .slice none 0 0, .int .i64 0, .string ⟨#[]⟩, .string ⟨#[]⟩, .int .u64 0, .int .i64 0] 50 := by
      have := Blk.new (((w.alloc (.cells (dmX M d) 69)).alloc (.cells (acc26 q ⟨5, i, ver, word, b, x⟩).toArray 39)).alloc (.cells #[.int .i64 0, .int .i64 0, .slice none 0 0, .slice none 0 0, .slice none 0 0] 69)) #[.bool false, .int .u64 0, .int .u64 0, .int .i64 0, .int .i64 0, .string ⟨#[]⟩, .string ⟨#[]⟩, .bool false, .int .i64 0, .slice none 0 0, .slice none 0 0, .slice none 0 0, .int .i64 0, .int .i64 0, .string ⟨#[]⟩, .int .u64 0, .slice none 0 0, .slice none 0 0, .slice none 0 0, .slice none 0 0, .int .i64 0, .string ⟨#[]⟩, .string ⟨#[]⟩, .int .u64 0, .int .i64 0] 50
      simpa using this
    go_enter Try.func30, Try.ntmps30
    go_upto_region 1 with (fail)
    generalize ((((w.alloc (.cells (dmX M d) 69)).alloc (.cells (acc26 q ⟨5, i, ver, word, b, x⟩).toArray 39)).alloc (.cells #[.int .i64 0, .int .i64 0, .slice none 0 0, .slice none 0 0, .slice none 0 0] 69)).alloc (.cells #[.bool false, .int .u64 0, .int .u64 0, .int .i64 0, .int .i64 0, .string ⟨#[]⟩, .string ⟨#[]⟩, .bool false, .int .i64 0, .slice none 0 0, .slice none 0 0, .slice none 0 0, .int .i64 0, .int .i64 0, .string ⟨#[]⟩, .int .u64 0, .slice none 0 0, .slice none 0 0, .slice none 0 0, .slice none 0 0, .int .i64 0, .string ⟨#[]⟩, .string ⟨#[]⟩, .int .u64 0, .int .i64 0] 50)) = w1 at hB BX BA BM BR ⊢
    have h1 := h.below hB
    have c0 : w1.cell? ⟨w.heap.size, 0, none⟩ = some (.int .i64 M.A) := BX.at 0 rfl
    have c1 : w1.cell? ⟨w.heap.size, 1, none⟩ = some (.int .i64 M.T) := BX.at 1 rfl
    have c2 : w1.cell? ⟨w.heap.size, 2, none⟩ = some (.slice d.h1.a M.L.length d.h1.c) := BX.at 2 rfl
    have c3 : w1.cell? ⟨w.heap.size, 3, none⟩ = some (.slice d.h2.a M.B.length d.h2.c) := BX.at 3 rfl
    have c4 : w1.cell? ⟨w.heap.size, 4, none⟩ = some (.slice d.h3.a M.R.length d.h3.c) := BX.at 4 rfl
    have a0 : w1.cell? ⟨w.heap.size + 1, 0, none⟩ = some (.int .i64 5) := BA.at 0 rfl
    have a1 : w1.cell? ⟨w.heap.size + 1, 1, none⟩ = some (.int .i64 i) := BA.at 1 rfl
    have a2 : w1.cell? ⟨w.heap.size + 1, 2, none⟩ = some (.int .u64 ver) := BA.at 2 rfl
    have a3 : w1.cell? ⟨w.heap.size + 1, 3, none⟩ = some (.int .u64 word) := BA.at 3 rfl
    go_wp2_with (refine wpList_load_row rfl 69 _ rfl w.heap.size rfl 69 _ (0, 0) _ (BX).h Try.underlying69 rfl (by kernel_rfl) ?_)
    refine (dnamed_any M d word w1 h1 hW.1 hW.2).mono ?_
    rintro e w2 ⟨rfl, hb2⟩
    rw [nameI_no hN]
    have hB2 := below_push2 hB hb2 (Nat.le_refl _)
    have BX2 := BX.below hb2
    have BM2 := BM.below hb2
    have BR2 := BR.below hb2
    have FA : Fr [w.heap.size + 2] (w2) ((w2).setRow (w.heap.size + 2) (ddM M d)) := Fr.row (S := [w.heap.size + 2]) (w := w2) (w.heap.size + 2) (ddM M d) (by simp)
    have MA := Blk.row BM2 (ddM M d)
    have RA := FA.blk BR2 (by simp)
    have RAB := Blk.row RA (ddR false)
    have MAB := (Fr.row (S := [w.heap.size + 3]) (w.heap.size + 3) (ddR false) (by simp)).blk MA (by simp)
    go_wp2_with (first
      | (refine wpList_load_row rfl 69 _ rfl w.heap.size rfl 69 _ (0, 0) _ (BX2).h Try.underlying69 rfl (by kernel_rfl) ?_)
      | (refine wpList_store_row rfl 69 _ _ rfl (w.heap.size + 2) (ddM M d) rfl rfl 69 _ (BM2).h (by kernel_rfl) (by rfl) (by kernel_rfl) ?_)
      | (refine wpList_store_row rfl 50 _ _ rfl (w.heap.size + 3) (ddR false) rfl rfl 50 _ RA.h (by kernel_rfl) (by rfl) (by kernel_rfl) ?_))
    refine bodyPost_ret (res_cc rfl _ _ (w.heap.size + 2) 69 (ddM M d) (0, 0) _ (w.heap.size + 3) 50 (ddR false) (0, 0) _ rfl MAB.h Try.underlying69 rfl (by kernel_rfl) rfl RAB.h Try.underlying50 rfl (by kernel_rfl)) rfl ?_
    exact didd_no h (below_two hB2) hD false hR
  have i0' : 0 ≤ i := by omega
  have i1' : i < (M.L.length : Int) := by omega
  have i2' : i < (M.T : Int) := by omega
  have j1 : decide (i < (M.L.length : Int)) = true := by simp; omega
  have j2 : decide (i < (M.T : Int)) = true := by simp; omega
  have hB : Below w.heap.size w ((((w.alloc (.cells (dmX M d) 69)).alloc (.cells (acc26 q ⟨5, i, ver, word, b, x⟩).toArray 39)).alloc (.cells #[.int .i64 0, .int .i64 0, .slice none 0 0, .slice none 0 0, .slice none 0 0] 69)).alloc (.cells #[.bool false, .int .u64 0, .int .u64 0, .int .i64 0, .int .i64 0, .string ⟨#[]⟩, .string ⟨#[]⟩, .bool false, .int .i64 0, .slice none 0 0, .slice none 0 0, .slice none 0 0, .int .i64 0, .int .i64 0, .string ⟨#[]⟩, .int .u64 0, .slice none 0 0, .slice none 0 0, .slice none 0 0, .slice none 0 0, .int .i64 0, .string ⟨#[]⟩, .string ⟨#[]⟩, .int .u64 0, .int .i64 0] 50)) := by (repeat (first | exact Below.refl _ _ | assumption | refine below_alloc2 ?_ (by first | exact Nat.le_refl _ | omega) _ | refine Below.drew ?_ | refine below_drewN ?_ _ | refine below_push2 ?_ ‹_› (by first | exact Nat.le_refl _ | omega) | refine Below.setCell ?_ (by first | (simp; done) | (simp; omega) | omega) _))
  have BX := (((Blk.new w (dmX M d) 69).alloc (.cells (acc26 q ⟨5, i, ver, word, b, x⟩).toArray 39)).alloc (.cells #[.int .i64 0, .int .i64 0, .slice none 0 0, .slice none 0 0, .slice none 0 0] 69)).alloc (.cells #[.bool false, .int .u64 0, .int .u64 0, .int .i64 0, .int .i64 0, .string ⟨#[]⟩, .string ⟨#[]⟩, .bool false, .int .i64 0, .slice none 0 0, .slice none 0 0, .slice none 0 0, .int .i64 0, .int .i64 0, .string ⟨#[]⟩, .int .u64 0, .slice none 0 0, .slice none 0 0, .slice none 0 0, .slice none 0 0, .int .i64 0, .string ⟨#[]⟩, .string ⟨#[]⟩, .int .u64 0, .int .i64 0] 50)
  have BA : Blk ((((w.alloc (.cells (dmX M d) 69)).alloc (.cells (acc26 q ⟨5, i, ver, word, b, x⟩).toArray 39)).alloc (.cells #[.int .i64 0, .int .i64 0, .slice none 0 0, .slice none 0 0, .slice none 0 0] 69)).alloc (.cells #[.bool false, .int .u64 0, .int .u64 0, .int .i64 0, .int .i64 0, .string ⟨#[]⟩, .string ⟨#[]⟩, .bool false, .int .i64 0, .slice none 0 0, .slice none 0 0, .slice none 0 0, .int .i64 0, .int .i64 0, .string ⟨#[]⟩, .int .u64 0, .slice none 0 0, .slice none 0 0, .slice none 0 0, .slice none 0 0, .int .i64 0, .string ⟨#[]⟩, .string ⟨#[]⟩, .int .u64 0, .int .i64 0] 50)) (w.heap.size + 1) (acc26 q ⟨5, i, ver, word, b, x⟩).toArray 39 := by
    have := ((Blk.new (w.alloc (.cells (dmX M d) 69)) (acc26 q ⟨5, i, ver, word, b, x⟩).toArray 39).alloc (.cells #[.int .i64 0, .int .i64 0, .slice none 0 0, .slice none 0 0, .slice none 0 0] 69)).alloc (.cells #[.bool false, .int .u64 0, .int .u64 0, .int .i64 0, .int .i64 0, .string ⟨#[]⟩, .string ⟨#[]⟩, .bool false, .int .i64 0, .slice none 0 0, .slice none 0 0, .slice none 0 0, .int .i64 0, .int .i64 0, .string ⟨#[]⟩, .int .u64 0, .slice none 0 0, .slice none 0 0, .slice none 0 0, .slice none 0 0, .int .i64 0, .string ⟨#[]⟩, .string ⟨#[]⟩, .int .u64 0, .int .i64 0] 50)
    simpa using this
  have BM : Blk ((((w.alloc (.cells (dmX M d) 69)).alloc (.cells (acc26 q ⟨5, i, ver, word, b, x⟩).toArray 39)).alloc (.cells #[.int .i64 0, .int .i64 0, .slice none 0 0, .slice none 0 0, .slice none 0 0] 69)).alloc (.cells #[.bool false, .int .u64 0, .int .u64 0, .int .i64 0, .int .i64 0, .string ⟨#[]⟩, .string ⟨#[]⟩, .bool false, .int .i64 0, .slice none 0 0, .slice none 0 0, .slice none 0 0, .int .i64 0, .int .i64 0, .string ⟨#[]⟩, .int .u64 0, .slice none 0 0, .slice none 0 0, .slice none 0 0, .slice none 0 0, .int .i64 0, .string ⟨#[]⟩, .string ⟨#[]⟩, .int .u64 0, .int .i64 0] 50)) (w.heap.size + 2) #[.int .i64 0, .int .i64 0, .slice none 0 0, .slice none 0 0, .slice none 0 0] 69 := by
    have := (Blk.new ((w.alloc (.cells (dmX M d) 69)).alloc (.cells (acc26 q ⟨5, i, ver, word, b, x⟩).toArray 39)) #[.int .i64 0, .int .i64 0, .slice none 0 0, .slice none 0 0, .slice none 0 0] 69).alloc (.cells #[.bool false, .int .u64 0, .int .u64 0, .int .i64 0, .int .i64 0, .string ⟨#[]⟩, .string ⟨#[]⟩, .bool false, .int .i64 0, .slice none 0 0, .slice none 0 0, .slice none 0 0, .int .i64 0, .int .i64 0, .string ⟨#[]⟩, .int .u64 0, .slice none 0 0, .slice none 0 0, .slice none 0 0, .slice none 0 0, .int .i64 0, .string ⟨#[]⟩, .string ⟨#[]⟩, .int .u64 0, .int .i64 0] 50)
    simpa using this
  have BR : Blk ((((w.alloc (.cells (dmX M d) 69)).alloc (.cells (acc26 q ⟨5, i, ver, word, b, x⟩).toArray 39)).alloc (.cells #[.int .i64 0, .int .i64 0, .slice none 0 0, .slice none 0 0, .slice none 0 0] 69)).alloc (.cells #[.bool false, .int .u64 0, .int .u64 0, .int .i64 0, .int .i64 0, .string ⟨#[]⟩, .string ⟨#[]⟩, .bool false, .int .i64 0, .slice none 0 0, .slice none 0 0, .slice none 0 0, .int .i64 0, .int .i64 0, .string ⟨#[]⟩, .int .u64 0, .slice none 0 0, .slice none 0 0, .slice none 0 0, .slice none 0 0, .int .i64 0, .string ⟨#[]⟩, .string ⟨#[]⟩, .int .u64 0, .int .i64 0] 50)) (w.heap.size + 3) #[.bool false, .int .u64 0, .int .u64 0, .int .i64 0, .int .i64 0, .string ⟨#[]⟩, .string ⟨#[]⟩, .bool false, .int .i64 0, .slice none 0 0, .slice none 0 0, .slice none 0 0, .int .i64 0, .int .i64 0, .string ⟨#[]⟩, .int .u64 0, .slice none 0 0, .slice none 0 0, .slice none 0 0, .slice none 0 0, .int .i64 0, .string ⟨#[]⟩, .string ⟨#[]⟩, .int .u64 0, .int .i64 0] 50 := by
    have := Blk.new (((w.alloc (.cells (dmX M d) 69)).alloc (.cells (acc26 q ⟨5, i, ver, word, b, x⟩).toArray 39)).alloc (.cells #[.int .i64 0, .int .i64 0, .slice none 0 0, .slice none 0 0, .slice none 0 0] 69)) #[.bool false, .int .u64 0, .int .u64 0, .int .i64 0, .int .i64 0, .string ⟨#[]⟩, .string ⟨#[]⟩, .bool false, .int .i64 0, .slice none 0 0, .slice none 0 0, .slice none 0 0, .int .i64 0, .int .i64 0, .string ⟨#[]⟩, .int .u64 0, .slice none 0 0, .slice none 0 0, .slice none 0 0, .slice none 0 0, .int .i64 0, .string ⟨#[]⟩, .string ⟨#[]⟩, .int .u64 0, .int .i64 0] 50
    simpa using this
  go_enter Try.func30, Try.ntmps30
  go_upto_region 1 with (fail)
  generalize ((((w.alloc (.cells (dmX M d) 69)).alloc (.cells (acc26 q ⟨5, i, ver, word, b, x⟩).toArray 39)).alloc (.cells #[.int .i64 0, .int .i64 0, .slice none 0 0, .slice none 0 0, .slice none 0 0] 69)).alloc (.cells #[.bool false, .int .u64 0, .int .u64 0, .int .i64 0, .int .i64 0, .string ⟨#[]⟩, .string ⟨#[]⟩, .bool false, .int .i64 0, .slice none 0 0, .slice none 0 0, .slice none 0 0, .int .i64 0, .int .i64 0, .string ⟨#[]⟩, .int .u64 0, .slice none 0 0, .slice none 0 0, .slice none 0 0, .slice none 0 0, .int .i64 0, .string ⟨#[]⟩, .string ⟨#[]⟩, .int .u64 0, .int .i64 0] 50)) = w1 at hB BX BA BM BR ⊢
  have h1 := h.below hB
  have c0 : w1.cell? ⟨w.heap.size, 0, none⟩ = some (.int .i64 M.A) := BX.at 0 rfl
  have c1 : w1.cell? ⟨w.heap.size, 1, none⟩ = some (.int .i64 M.T) := BX.at 1 rfl
  have c2 : w1.cell? ⟨w.heap.size, 2, none⟩ = some (.slice d.h1.a M.L.length d.h1.c) := BX.at 2 rfl
  have c3 : w1.cell? ⟨w.heap.size, 3, none⟩ = some (.slice d.h2.a M.B.length d.h2.c) := BX.at 3 rfl
  have c4 : w1.cell? ⟨w.heap.size, 4, none⟩ = some (.slice d.h3.a M.R.length d.h3.c) := BX.at 4 rfl
  have a0 : w1.cell? ⟨w.heap.size + 1, 0, none⟩ = some (.int .i64 5) := BA.at 0 rfl
  have a1 : w1.cell? ⟨w.heap.size + 1, 1, none⟩ = some (.int .i64 i) := BA.at 1 rfl
  have a2 : w1.cell? ⟨w.heap.size + 1, 2, none⟩ = some (.int .u64 ver) := BA.at 2 rfl
  have a3 : w1.cell? ⟨w.heap.size + 1, 3, none⟩ = some (.int .u64 word) := BA.at 3 rfl
  go_wp2_with (refine wpList_load_row rfl 69 _ rfl w.heap.size rfl 69 _ (0, 0) _ (BX).h Try.underlying69 rfl (by kernel_rfl) ?_)
  refine (dnamed_any M d word w1 h1 hW.1 hW.2).mono ?_
  rintro e w2 ⟨rfl, hb2⟩
  rw [nameI_no hN]
  have hB2 := below_push2 hB hb2 (Nat.le_refl _)
  have BX2 := BX.below hb2
  have BM2 := BM.below hb2
  have BR2 := BR.below hb2
  have FA : Fr [w.heap.size + 2] (w2) ((w2).setRow (w.heap.size + 2) (ddM M d)) := Fr.row (S := [w.heap.size + 2]) (w := w2) (w.heap.size + 2) (ddM M d) (by simp)
  have MA := Blk.row BM2 (ddM M d)
  have RA := FA.blk BR2 (by simp)
  have RAB := Blk.row RA (ddR false)
  have MAB := (Fr.row (S := [w.heap.size + 3]) (w.heap.size + 3) (ddR false) (by simp)).blk MA (by simp)
  go_wp2_with (first
    | (refine wpList_load_row rfl 69 _ rfl w.heap.size rfl 69 _ (0, 0) _ (BX2).h Try.underlying69 rfl (by kernel_rfl) ?_)
    | (refine wpList_store_row rfl 69 _ _ rfl (w.heap.size + 2) (ddM M d) rfl rfl 69 _ (BM2).h (by kernel_rfl) (by rfl) (by kernel_rfl) ?_)
    | (refine wpList_store_row rfl 50 _ _ rfl (w.heap.size + 3) (ddR false) rfl rfl 50 _ RA.h (by kernel_rfl) (by rfl) (by kernel_rfl) ?_))
  refine bodyPost_ret (res_cc rfl _ _ (w.heap.size + 2) 69 (ddM M d) (0, 0) _ (w.heap.size + 3) 50 (ddR false) (0, 0) _ rfl MAB.h Try.underlying69 rfl (by kernel_rfl) rfl RAB.h Try.underlying50 rfl (by kernel_rfl)) rfl ?_
  exact didd_no h (below_two hB2) hD false hR
end Go.Proofs.Ytpempcefgfmniaa.MemP
