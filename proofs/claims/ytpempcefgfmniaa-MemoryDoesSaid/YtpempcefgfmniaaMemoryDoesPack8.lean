/-
  bowerref26: Do: contracts (store and cas).
-/
import Derived.Test.YtpempcefgfmniaaRows
import Derived.WalkLawsBesides
import Derived.WalkSpells
import Derived.Outline
import Derived.BigQuiet
import Derived.LoopTactic
import Derived.Lib.MinMax
import Derived.Lib.QuietBelow
import Derived.Deep.RegionLaw
import Derived.Deep.MidRow
import Derived.StillTailTactics
import Derived.Deep.DeepCutAuto
import Derived.Laws.OwnMore
import Derived.Laws.MakeOwn
import Derived.Deep.RegionHeld
import Derived.Laws.IdiomCopy
import Derived.Test.YtpempcefgfmniaaMemoryDoesPack7

namespace Go.Proofs.Ytpempcefgfmniaa.MemP
open Go.RowKit RefP CellP Dp
set_option linter.unusedVariables false
set_option linter.unusedSimpArgs false
theorem fin_mem {w wc wb w9 : World} {S : List Nat} {M M' : MemV} {d : DH} {a1 a2 : Option Addr} {c1 c2 : Nat} (h : DMem w S d M) (Fc : Fr [w.heap.size, w.heap.size + 2, w.heap.size + 3] wc w9) (Fb : Fr [w.heap.size, w.heap.size + 2, w.heap.size + 3] wb w9) (hb : Below w.heap.size w w9)
    (hc : RowRep cellT wc (boxS S w.heap.size) a1 M'.L) (hbk : RowRep blockT wb (boxS S w.heap.size) a2 M'.B) (eR : M'.R = M.R) (eA : M'.A = M.A) (eT : M'.T = M.T) (eL : M'.L.length = M.L.length) (eB : M'.B.length = M.B.length) :
    DMem w9 S ⟨⟨a1, c1⟩, ⟨a2, c2⟩, d.h3⟩ M' := by
  have hs : ∀ b ∈ [w.heap.size, w.heap.size + 2, w.heap.size + 3], b ∈ boxS S w.heap.size := fun b hb => by simp [boxS] at hb ⊢; omega
  have hs2 : ∀ b ∈ S, b ∈ boxS S w.heap.size ∨ w9.heap.size ≤ b := fun b hb => .inl (by simp [boxS, hb])
  refine ⟨(hc.keep (Fc.keeps.more hs)).more hs2, (hbk.keep (Fb.keeps.more hs)).more hs2, by rw [eR]; exact (h.below hb).recs, by rw [eL, eA, eT]; exact h.len, by rw [eB, eA]; exact h.lb, by rw [eR, eT]; exact h.lr, by rw [eA]; exact h.a1, by rw [eT]; exact h.t1⟩
theorem two_rows {w w1 : World} {n : Nat} (r1 r2 : Array Value) : Fr [n, n + 2, n + 3] w1 ((w1.setRow (n + 2) r1).setRow (n + 3) r2) := (Fr.row _ _ (by simp)).trans (Fr.row _ _ (by simp))
theorem dwr_off {w w2 w4 : World} {S : List Nat} {M : MemV} {d : DH} {kd ver word : Int} {b : BlockV} {x : OpV} {k cw : Nat} {aw : Option Addr} {r1 r2 : Array Value} (h : DMem w S d M) (hB : Below w.heap.size w w2) (F : Fr [w.heap.size, w.heap.size + 2, w.heap.size + 3] w2 w4)
    (hP : RowRep cellT w2 (boxS S w.heap.size) aw (writeL M.L k word)) (hk : k < M.L.length) (hoff : k < M.A ∨ 2 * M.A ≤ k) (hR : repV M ⟨kd, k, ver, word, b, x⟩ = ⟨true, 0, 0, blockZ, opZ⟩) (hD : doV M ⟨kd, k, ver, word, b, x⟩ = { M with L := writeL M.L k word, B := clearV M.B M.A k }) :
    DidD w S M ⟨kd, k, ver, word, b, x⟩ (.returned (.tuple #[.agg #[.int .i64 M.A, .int .i64 M.T, .slice aw M.L.length cw, .slice d.h2.a M.B.length d.h2.c, .slice d.h3.a M.R.length d.h3.c], .agg (ddR true)])) ((w4.setRow (w.heap.size + 2) r1).setRow (w.heap.size + 3) r2) := by
  have F2 := F.trans (two_rows (w := w) (n := w.heap.size) (w1 := w4) r1 r2)
  generalize ((w4.setRow (w.heap.size + 2) r1).setRow (w.heap.size + 3) r2) = w5 at F2
  have hb' := F2.below hB (Nat.le_refl _) (by simp)
  have hcl : clearV M.B M.A k = M.B := by unfold clearV; rw [if_neg (by omega)]
  rw [hcl] at hD
  refine ⟨⟨⟨aw, cw⟩, ⟨d.h2.a, d.h2.c⟩, d.h3⟩, nilH, ?_, ?_, ?_, hb'⟩
  · rw [hR, hD]; simp [blockZ, opZ, nilH, Hd.nil, writeL_length]
  · rw [hD]
    exact fin_mem h F2 (Fr.of_below hb') hb' hP (h.blocks.more boxS_more) rfl rfl rfl (writeL_length _ _ _) rfl
  · rw [hR]; exact blockZ_ok _ _
theorem dwr_on {w w2 w3 w7 : World} {S : List Nat} {M : MemV} {d : DH} {kd ver word : Int} {b : BlockV} {x : OpV} {k cw c' : Nat} {aw a' : Option Addr} {r1 r2 : Array Value} (h : DMem w S d M) (hB : Below w.heap.size w w2) (hB5 : Below w.heap.size w w3) (F47 : Fr [w.heap.size, w.heap.size + 2, w.heap.size + 3] w2 w3) (F7 : Fr [w.heap.size, w.heap.size + 2, w.heap.size + 3] w3 w7)
    (hP : RowRep cellT w2 (boxS S w.heap.size) aw (writeL M.L k word)) (hB' : RowRep blockT w3 (boxS S w.heap.size) a' (M.B.set (k - M.A) blockZ)) (hk : k < M.L.length) (hon : M.A ≤ k ∧ k < 2 * M.A) (hR : repV M ⟨kd, k, ver, word, b, x⟩ = ⟨true, 0, 0, blockZ, opZ⟩) (hD : doV M ⟨kd, k, ver, word, b, x⟩ = { M with L := writeL M.L k word, B := clearV M.B M.A k }) :
    DidD w S M ⟨kd, k, ver, word, b, x⟩ (.returned (.tuple #[.agg #[.int .i64 M.A, .int .i64 M.T, .slice aw M.L.length cw, .slice a' M.B.length c', .slice d.h3.a M.R.length d.h3.c], .agg (ddR true)])) ((w7.setRow (w.heap.size + 2) r1).setRow (w.heap.size + 3) r2) := by
  have F2 := F7.trans (two_rows (w := w) (n := w.heap.size) (w1 := w7) r1 r2)
  generalize ((w7.setRow (w.heap.size + 2) r1).setRow (w.heap.size + 3) r2) = w9 at F2
  have hb' := F2.below hB5 (Nat.le_refl _) (by simp)
  have hcl : clearV M.B M.A k = M.B.set (k - M.A) blockZ := by
    unfold clearV
    rw [if_pos (by omega), show ((k : Int) - (M.A : Int)).toNat = k - M.A by omega]
  rw [hcl] at hD
  refine ⟨⟨⟨aw, cw⟩, ⟨a', c'⟩, d.h3⟩, nilH, ?_, ?_, ?_, hb'⟩
  · rw [hR, hD]; simp [blockZ, opZ, nilH, Hd.nil, writeL_length]
  · rw [hD]
    exact fin_mem h (F47.trans F2) F2 hb' hP hB' rfl rfl rfl (writeL_length _ _ _) (by simp)
  · rw [hR]; exact blockZ_ok _ _
set_option maxRecDepth 100000 in
set_option maxHeartbeats 6400000 in
theorem ddo_store_yes {S : List Nat} (M : MemV) (d : DH) (k : Nat) (ver word : Int) (q : BlockH) (b : BlockV) (x : OpV) (w : World) (h : DMem w S d M) (hk : k < M.L.length) (hW : U64 word) (hS : ∀ b ∈ S, b < w.heap.size) :
    Calls Try.prog 30 #[.agg (dmX M d), .agg (acc26 q ⟨2, (k : Int), ver, word, b, x⟩).toArray] w (DidD w S M ⟨2, (k : Int), ver, word, b, x⟩) := by
  have hlen : 2 * M.A + 5 * M.T + 1 ≤ M.L.length := by have := h.len; omega
  have hT16 := h.t1
  have hA16 := h.a1
  have hin : inB M.L.length (k : Int) = true := inB_mk (by omega) (by omega)
  have i0' : 0 ≤ (k : Int) := by omega
  have i1' : (k : Int) < (M.L.length : Int) := by omega
  have j1 : decide (k < M.L.length) = true := by simp; omega
  obtain ⟨g2, j2⟩ : ∃ g2, decide (k < M.T) = g2 := ⟨_, rfl⟩
  have hR : repV M ⟨2, (k : Int), ver, word, b, x⟩ = ⟨true, 0, 0, blockZ, opZ⟩ := by simp [repV, hin]
  have hD : doV M ⟨2, (k : Int), ver, word, b, x⟩ = { M with L := writeL M.L k word, B := clearV M.B M.A k } := by simp [doV, hin, storeL]
  clear hin
  have hR := Lib.hid hR
  have hD := Lib.hid hD
  have hB : Below w.heap.size w ((((w.alloc (.cells (dmX M d) 69)).alloc (.cells (acc26 q ⟨2, (k : Int), ver, word, b, x⟩).toArray 39)).alloc (.cells #[.int .i64 0, .int .i64 0, .slice none 0 0, .slice none 0 0, .slice none 0 0] 69)).alloc (.cells #[.bool false, .int .u64 0, .int .u64 0, .int .i64 0, .int .i64 0, .string ⟨#[]⟩, .string ⟨#[]⟩, .bool false, .int .i64 0, .slice none 0 0, .slice none 0 0, .slice none 0 0, .int .i64 0, .int .i64 0, .string ⟨#[]⟩, .int .u64 0, .slice none 0 0, .slice none 0 0, .slice none 0 0, .slice none 0 0, .int .i64 0, .string ⟨#[]⟩, .string ⟨#[]⟩, .int .u64 0, .int .i64 0] 50)) := by (repeat (first | exact Below.refl _ _ | assumption | refine below_alloc2 ?_ (by first | exact Nat.le_refl _ | omega) _ | refine Below.drew ?_ | refine below_drewN ?_ _ | refine below_push2 ?_ ‹_› (by first | exact Nat.le_refl _ | omega) | refine Below.setCell ?_ (by first | (simp; done) | (simp; omega) | omega) _))
  have BX := (((Blk.new w (dmX M d) 69).alloc (.cells (acc26 q ⟨2, (k : Int), ver, word, b, x⟩).toArray 39)).alloc (.cells #[.int .i64 0, .int .i64 0, .slice none 0 0, .slice none 0 0, .slice none 0 0] 69)).alloc (.cells #[.bool false, .int .u64 0, .int .u64 0, .int .i64 0, .int .i64 0, .string ⟨#[]⟩, .string ⟨#[]⟩, .bool false, .int .i64 0, .slice none 0 0, .slice none 0 0, .slice none 0 0, .int .i64 0, .int .i64 0, .string ⟨#[]⟩, .int .u64 0, .slice none 0 0, .slice none 0 0, .slice none 0 0, .slice none 0 0, .int .i64 0, .string ⟨#[]⟩, .string ⟨#[]⟩, .int .u64 0, .int .i64 0] 50)
  have BA : Blk ((((w.alloc (.cells (dmX M d) 69)).alloc (.cells (acc26 q ⟨2, (k : Int), ver, word, b, x⟩).toArray 39)).alloc (.cells #[.int .i64 0, .int .i64 0, .slice none 0 0, .slice none 0 0, .slice none 0 0] 69)).alloc (.cells #[.bool false, .int .u64 0, .int .u64 0, .int .i64 0, .int .i64 0, .string ⟨#[]⟩, .string ⟨#[]⟩, .bool false, .int .i64 0, .slice none 0 0, .slice none 0 0, .slice none 0 0, .int .i64 0, .int .i64 0, .string ⟨#[]⟩, .int .u64 0, .slice none 0 0, .slice none 0 0, .slice none 0 0, .slice none 0 0, .int .i64 0, .string ⟨#[]⟩, .string ⟨#[]⟩, .int .u64 0, .int .i64 0] 50)) (w.heap.size + 1) (acc26 q ⟨2, (k : Int), ver, word, b, x⟩).toArray 39 := by
    have := ((Blk.new (w.alloc (.cells (dmX M d) 69)) (acc26 q ⟨2, (k : Int), ver, word, b, x⟩).toArray 39).alloc (.cells #[.int .i64 0, .int .i64 0, .slice none 0 0, .slice none 0 0, .slice none 0 0] 69)).alloc (.cells #[.bool false, .int .u64 0, .int .u64 0, .int .i64 0, .int .i64 0, .string ⟨#[]⟩, .string ⟨#[]⟩, .bool false, .int .i64 0, .slice none 0 0, .slice none 0 0, .slice none 0 0, .int .i64 0, .int .i64 0, .string ⟨#[]⟩, .int .u64 0, .slice none 0 0, .slice none 0 0, .slice none 0 0, .slice none 0 0, .int .i64 0, .string ⟨#[]⟩, .string ⟨#[]⟩, .int .u64 0, .int .i64 0] 50)
    simpa using this
  have BM : Blk ((((w.alloc (.cells (dmX M d) 69)).alloc (.cells (acc26 q ⟨2, (k : Int), ver, word, b, x⟩).toArray 39)).alloc (.cells #[.int .i64 0, .int .i64 0, .slice none 0 0, .slice none 0 0, .slice none 0 0] 69)).alloc (.cells #[.bool false, .int .u64 0, .int .u64 0, .int .i64 0, .int .i64 0, .string ⟨#[]⟩, .string ⟨#[]⟩, .bool false, .int .i64 0, .slice none 0 0, .slice none 0 0, .slice none 0 0, .int .i64 0, .int .i64 0, .string ⟨#[]⟩, .int .u64 0, .slice none 0 0, .slice none 0 0, .slice none 0 0, .slice none 0 0, .int .i64 0, .string ⟨#[]⟩, .string ⟨#[]⟩, .int .u64 0, .int .i64 0] 50)) (w.heap.size + 2) #[.int .i64 0, .int .i64 0, .slice none 0 0, .slice none 0 0, .slice none 0 0] 69 := by
    have := (Blk.new ((w.alloc (.cells (dmX M d) 69)).alloc (.cells (acc26 q ⟨2, (k : Int), ver, word, b, x⟩).toArray 39)) #[.int .i64 0, .int .i64 0, .slice none 0 0, .slice none 0 0, .slice none 0 0] 69).alloc (.cells #[.bool false, .int .u64 0, .int .u64 0, .int .i64 0, .int .i64 0, .string ⟨#[]⟩, .string ⟨#[]⟩, .bool false, .int .i64 0, .slice none 0 0, .slice none 0 0, .slice none 0 0, .int .i64 0, .int .i64 0, .string ⟨#[]⟩, .int .u64 0, .slice none 0 0, .slice none 0 0, .slice none 0 0, .slice none 0 0, .int .i64 0, .string ⟨#[]⟩, .string ⟨#[]⟩, .int .u64 0, .int .i64 0] 50)
    simpa using this
  have BR : Blk ((((w.alloc (.cells (dmX M d) 69)).alloc (.cells (acc26 q ⟨2, (k : Int), ver, word, b, x⟩).toArray 39)).alloc (.cells #[.int .i64 0, .int .i64 0, .slice none 0 0, .slice none 0 0, .slice none 0 0] 69)).alloc (.cells #[.bool false, .int .u64 0, .int .u64 0, .int .i64 0, .int .i64 0, .string ⟨#[]⟩, .string ⟨#[]⟩, .bool false, .int .i64 0, .slice none 0 0, .slice none 0 0, .slice none 0 0, .int .i64 0, .int .i64 0, .string ⟨#[]⟩, .int .u64 0, .slice none 0 0, .slice none 0 0, .slice none 0 0, .slice none 0 0, .int .i64 0, .string ⟨#[]⟩, .string ⟨#[]⟩, .int .u64 0, .int .i64 0] 50)) (w.heap.size + 3) #[.bool false, .int .u64 0, .int .u64 0, .int .i64 0, .int .i64 0, .string ⟨#[]⟩, .string ⟨#[]⟩, .bool false, .int .i64 0, .slice none 0 0, .slice none 0 0, .slice none 0 0, .int .i64 0, .int .i64 0, .string ⟨#[]⟩, .int .u64 0, .slice none 0 0, .slice none 0 0, .slice none 0 0, .slice none 0 0, .int .i64 0, .string ⟨#[]⟩, .string ⟨#[]⟩, .int .u64 0, .int .i64 0] 50 := by
    have := Blk.new (((w.alloc (.cells (dmX M d) 69)).alloc (.cells (acc26 q ⟨2, (k : Int), ver, word, b, x⟩).toArray 39)).alloc (.cells #[.int .i64 0, .int .i64 0, .slice none 0 0, .slice none 0 0, .slice none 0 0] 69)) #[.bool false, .int .u64 0, .int .u64 0, .int .i64 0, .int .i64 0, .string ⟨#[]⟩, .string ⟨#[]⟩, .bool false, .int .i64 0, .slice none 0 0, .slice none 0 0, .slice none 0 0, .int .i64 0, .int .i64 0, .string ⟨#[]⟩, .int .u64 0, .slice none 0 0, .slice none 0 0, .slice none 0 0, .slice none 0 0, .int .i64 0, .string ⟨#[]⟩, .string ⟨#[]⟩, .int .u64 0, .int .i64 0] 50
    simpa using this
  go_enter Try.func30, Try.ntmps30
  go_upto_region 1 with (fail)
  generalize ((((w.alloc (.cells (dmX M d) 69)).alloc (.cells (acc26 q ⟨2, (k : Int), ver, word, b, x⟩).toArray 39)).alloc (.cells #[.int .i64 0, .int .i64 0, .slice none 0 0, .slice none 0 0, .slice none 0 0] 69)).alloc (.cells #[.bool false, .int .u64 0, .int .u64 0, .int .i64 0, .int .i64 0, .string ⟨#[]⟩, .string ⟨#[]⟩, .bool false, .int .i64 0, .slice none 0 0, .slice none 0 0, .slice none 0 0, .int .i64 0, .int .i64 0, .string ⟨#[]⟩, .int .u64 0, .slice none 0 0, .slice none 0 0, .slice none 0 0, .slice none 0 0, .int .i64 0, .string ⟨#[]⟩, .string ⟨#[]⟩, .int .u64 0, .int .i64 0] 50)) = w1 at hB BX BA BM BR ⊢
  have h1 := h.below hB
  have c0 : w1.cell? ⟨w.heap.size, 0, none⟩ = some (.int .i64 M.A) := BX.at 0 rfl
  have c1 : w1.cell? ⟨w.heap.size, 1, none⟩ = some (.int .i64 M.T) := BX.at 1 rfl
  have c2 : w1.cell? ⟨w.heap.size, 2, none⟩ = some (.slice d.h1.a M.L.length d.h1.c) := BX.at 2 rfl
  have c3 : w1.cell? ⟨w.heap.size, 3, none⟩ = some (.slice d.h2.a M.B.length d.h2.c) := BX.at 3 rfl
  have c4 : w1.cell? ⟨w.heap.size, 4, none⟩ = some (.slice d.h3.a M.R.length d.h3.c) := BX.at 4 rfl
  have a0 : w1.cell? ⟨w.heap.size + 1, 0, none⟩ = some (.int .i64 2) := BA.at 0 rfl
  have a1 : w1.cell? ⟨w.heap.size + 1, 1, none⟩ = some (.int .i64 (k : Int)) := BA.at 1 rfl
  have a2 : w1.cell? ⟨w.heap.size + 1, 2, none⟩ = some (.int .u64 ver) := BA.at 2 rfl
  have a3 : w1.cell? ⟨w.heap.size + 1, 3, none⟩ = some (.int .u64 word) := BA.at 3 rfl
  obtain ⟨bb, off, ha, hbl, hbS, e0, e1, u0, u1⟩ := h1.cell k hk
  have c2' : w1.cell? ⟨w.heap.size, 2, none⟩ = some (.slice (some ⟨bb, off, none⟩) M.L.length d.h1.c) := by rw [← ha]; exact c2
  clear ha hbl hbS u0 u1
  skip
  clear e0
  go_upto_region 9 with (fail)
  have k0 := fun dd os => cell_regrown a0 dd os
  have k1 := fun dd os => cell_regrown a1 dd os
  have k2 := fun dd os => cell_regrown c2' dd os
  have k3 := fun dd os => cell_regrown a2 dd os
  have ke := fun dd os => cell_regrown e1 dd os
  refine wp_region_quiet_below (by kernel_rfl) (by kernel_rfl) ?_
  repeat (go_big_quiet_step (fail))
  refine wpQuiet_nil ?_
  intro w6 hw'
  have hb6 := RefP.below_of_regrown hw'
  clear hw'
  clear k0 k1 k2 k3 ke e1
  clear c0 c1 c2 c3 c4 a0 a1 a2 a3 c2'
  replace hB := below_push2 hB hb6 (Nat.le_refl _)
  replace BX := BX.below hb6
  replace BA := BA.below hb6
  replace BM := BM.below hb6
  replace BR := BR.below hb6
  clear h1 hb6
  have c0 : w6.cell? ⟨w.heap.size, 0, none⟩ = some (.int .i64 M.A) := BX.at 0 rfl
  have c2 : w6.cell? ⟨w.heap.size, 2, none⟩ = some (.slice d.h1.a M.L.length d.h1.c) := BX.at 2 rfl
  have a1 : w6.cell? ⟨w.heap.size + 1, 1, none⟩ = some (.int .i64 (k : Int)) := BA.at 1 rfl
  have a3 : w6.cell? ⟨w.heap.size + 1, 3, none⟩ = some (.int .u64 word) := BA.at 3 rfl
  go_wp2_with fail
  refine (write_any d.h1.a d.h1.c M.L k word w6 (h.below hB).pairs (inB_mk (by omega) (by omega)) hW.1 hW.2).mono ?_
  rintro e w2 ⟨aw, cw, rfl, hP, hb2, hge⟩
  rw [writeL_length]
  replace hP : RowRep cellT w2 (boxS S w.heap.size) aw (writeL M.L k word) := pairs_row hP (fun b' off e hb => by
    have h1 := hge b' off e
    have h2 := boxS_lt hS BR.lt b' hb
    omega)
  clear hge c0 c2 a1 a3
  replace hB := below_push2 hB hb2 (Nat.le_refl _)
  replace BX := BX.below hb2
  replace BA := BA.below hb2
  replace BM := BM.below hb2
  replace BR := BR.below hb2
  clear hb2
  have c2' : w2.cell? ⟨w.heap.size, 2, none⟩ = some (.slice d.h1.a M.L.length d.h1.c) := BX.at 2 rfl
  have f2 := BX.free 2
  have BX4 : Blk (w2.setCell ⟨w.heap.size, 2, none⟩ (.slice aw M.L.length cw)) w.heap.size #[.int .i64 M.A, .int .i64 M.T, .slice aw M.L.length cw, .slice d.h2.a M.B.length d.h2.c, .slice d.h3.a M.R.length d.h3.c] 69 := BX.set 2 (.slice aw M.L.length cw)
  have F4 : Fr [w.heap.size, w.heap.size + 2, w.heap.size + 3] w2 (w2.setCell ⟨w.heap.size, 2, none⟩ (.slice aw M.L.length cw)) := (Fr.refl _ _).set _ _ (.inl (by simp))
  have BM4 := BM.far ⟨w.heap.size, 2, none⟩ (.slice aw M.L.length cw) (by simp only; omega)
  have BR4 := BR.far ⟨w.heap.size, 2, none⟩ (.slice aw M.L.length cw) (by simp only; omega)
  have BA4 := BA.far ⟨w.heap.size, 2, none⟩ (.slice aw M.L.length cw) (by simp only; omega)
  clear BX BM BR BA
  go_upto_region 11 with (fail)
  generalize w2.setCell ⟨w.heap.size, 2, none⟩ (.slice aw M.L.length cw) = w4 at BX4 F4 BM4 BR4 BA4 ⊢
  clear c2' f2
  have c0 : w4.cell? ⟨w.heap.size, 0, none⟩ = some (.int .i64 M.A) := BX4.at 0 rfl
  have c3 : w4.cell? ⟨w.heap.size, 3, none⟩ = some (.slice d.h2.a M.B.length d.h2.c) := BX4.at 3 rfl
  have a1 : w4.cell? ⟨w.heap.size + 1, 1, none⟩ = some (.int .i64 (k : Int)) := BA4.at 1 rfl
  have hB4 := F4.below hB (Nat.le_refl _) (by simp)
  have hR := hR.out
  have hD := hD.out
  by_cases i3 : k < M.A
  · have hoff : k < M.A ∨ 2 * M.A ≤ k := .inl i3
    have i3' : (k : Int) < (M.A : Int) := by omega
    have FA : Fr [w.heap.size + 2] (w4) ((w4).setRow (w.heap.size + 2) (#[.int .i64 M.A, .int .i64 M.T, .slice aw M.L.length cw, .slice d.h2.a M.B.length d.h2.c, .slice d.h3.a M.R.length d.h3.c])) := Fr.row (S := [w.heap.size + 2]) (w := w4) (w.heap.size + 2) (#[.int .i64 M.A, .int .i64 M.T, .slice aw M.L.length cw, .slice d.h2.a M.B.length d.h2.c, .slice d.h3.a M.R.length d.h3.c]) (by simp)
    have MA := Blk.row BM4 (#[.int .i64 M.A, .int .i64 M.T, .slice aw M.L.length cw, .slice d.h2.a M.B.length d.h2.c, .slice d.h3.a M.R.length d.h3.c])
    have RA := FA.blk BR4 (by simp)
    have RAB := Blk.row RA (ddR true)
    have MAB := (Fr.row (S := [w.heap.size + 3]) (w.heap.size + 3) (ddR true) (by simp)).blk MA (by simp)
    go_wp2_with (first
      | (refine wpList_load_row rfl 69 _ rfl w.heap.size rfl 69 _ (0, 0) _ (BX4).h Try.underlying69 rfl (by kernel_rfl) ?_)
      | (refine wpList_store_row rfl 69 _ _ rfl (w.heap.size + 2) (#[.int .i64 M.A, .int .i64 M.T, .slice aw M.L.length cw, .slice d.h2.a M.B.length d.h2.c, .slice d.h3.a M.R.length d.h3.c]) rfl rfl 69 _ (BM4).h (by kernel_rfl) (by rfl) (by kernel_rfl) ?_)
      | (refine wpList_store_row rfl 50 _ _ rfl (w.heap.size + 3) (ddR true) rfl rfl 50 _ RA.h (by kernel_rfl) (by rfl) (by kernel_rfl) ?_))
    refine bodyPost_ret (res_cc rfl _ _ (w.heap.size + 2) 69 (#[.int .i64 M.A, .int .i64 M.T, .slice aw M.L.length cw, .slice d.h2.a M.B.length d.h2.c, .slice d.h3.a M.R.length d.h3.c]) (0, 0) _ (w.heap.size + 3) 50 (ddR true) (0, 0) _ rfl MAB.h Try.underlying69 rfl (by kernel_rfl) rfl RAB.h Try.underlying50 rfl (by kernel_rfl)) rfl ?_
    exact dwr_off h hB F4 hP hk hoff hR hD
  by_cases i4 : k < 2 * M.A
  · have hon : M.A ≤ k ∧ k < 2 * M.A := ⟨by omega, i4⟩
    have i3' : (M.A : Int) ≤ (k : Int) := by omega
    have i4' : (k : Int) < 2 * (M.A : Int) := by omega
    have hsub : (k : Int) - (M.A : Int) = ((k - M.A : Nat) : Int) := by omega
    go_wp2_with fail
    have hl : k - M.A < M.B.length ∧ M.B.length ≤ 8192 := by have := h.lb; omega
    refine (dset_any (S := boxS S w.heap.size) d.h2.a d.h2.c M.B (k - M.A) nilH blockZ w4 ((h.blocks.more boxS_more).keep (Keeps.of_below hB4)) hl.2 hl.1 (blockZ_ok _ _) (boxS_lt hS BR4.lt)).mono ?_
    rintro e w3 ⟨a', c', rfl, hB', hb3⟩
    have hl2 : (M.B.set (k - M.A) blockZ).length = M.B.length := by simp
    rw [hl2]
    clear c0 c3 a1
    have hB5 := below_push2 hB4 hb3 (Nat.le_refl _)
    have BX5 := BX4.below hb3
    have BM5 := BM4.below hb3
    have BR5 := BR4.below hb3
    have c3' : w3.cell? ⟨w.heap.size, 3, none⟩ = some (.slice d.h2.a M.B.length d.h2.c) := BX5.at 3 rfl
    have f3 := BX5.free 3
    have BX7 : Blk (w3.setCell ⟨w.heap.size, 3, none⟩ (.slice a' M.B.length c')) w.heap.size #[.int .i64 M.A, .int .i64 M.T, .slice aw M.L.length cw, .slice a' M.B.length c', .slice d.h3.a M.R.length d.h3.c] 69 := BX5.set 3 (.slice a' M.B.length c')
    have F7 : Fr [w.heap.size, w.heap.size + 2, w.heap.size + 3] w3 (w3.setCell ⟨w.heap.size, 3, none⟩ (.slice a' M.B.length c')) := (Fr.refl _ _).set _ _ (.inl (by simp))
    have BM7 := BM5.far ⟨w.heap.size, 3, none⟩ (.slice a' M.B.length c') (by simp only; omega)
    have BR7 := BR5.far ⟨w.heap.size, 3, none⟩ (.slice a' M.B.length c') (by simp only; omega)
    have F47 : Fr [w.heap.size, w.heap.size + 2, w.heap.size + 3] w2 w3 := F4.trans (Fr.of_below hb3)
    clear BX5 BM5 BR5 BX4 BM4 BR4 BA4 hb3
    go_upto_region 13 with (fail)
    generalize w3.setCell ⟨w.heap.size, 3, none⟩ (.slice a' M.B.length c') = w7 at BX7 F7 BM7 BR7 ⊢
    have FA : Fr [w.heap.size + 2] (w7) ((w7).setRow (w.heap.size + 2) (#[.int .i64 M.A, .int .i64 M.T, .slice aw M.L.length cw, .slice a' M.B.length c', .slice d.h3.a M.R.length d.h3.c])) := Fr.row (S := [w.heap.size + 2]) (w := w7) (w.heap.size + 2) (#[.int .i64 M.A, .int .i64 M.T, .slice aw M.L.length cw, .slice a' M.B.length c', .slice d.h3.a M.R.length d.h3.c]) (by simp)
    have MA := Blk.row BM7 (#[.int .i64 M.A, .int .i64 M.T, .slice aw M.L.length cw, .slice a' M.B.length c', .slice d.h3.a M.R.length d.h3.c])
    have RA := FA.blk BR7 (by simp)
    have RAB := Blk.row RA (ddR true)
    have MAB := (Fr.row (S := [w.heap.size + 3]) (w.heap.size + 3) (ddR true) (by simp)).blk MA (by simp)
    go_wp2_with (first
      | (refine wpList_load_row rfl 69 _ rfl w.heap.size rfl 69 _ (0, 0) _ (BX7).h Try.underlying69 rfl (by kernel_rfl) ?_)
      | (refine wpList_store_row rfl 69 _ _ rfl (w.heap.size + 2) (#[.int .i64 M.A, .int .i64 M.T, .slice aw M.L.length cw, .slice a' M.B.length c', .slice d.h3.a M.R.length d.h3.c]) rfl rfl 69 _ (BM7).h (by kernel_rfl) (by rfl) (by kernel_rfl) ?_)
      | (refine wpList_store_row rfl 50 _ _ rfl (w.heap.size + 3) (ddR true) rfl rfl 50 _ RA.h (by kernel_rfl) (by rfl) (by kernel_rfl) ?_))
    refine bodyPost_ret (res_cc rfl _ _ (w.heap.size + 2) 69 (#[.int .i64 M.A, .int .i64 M.T, .slice aw M.L.length cw, .slice a' M.B.length c', .slice d.h3.a M.R.length d.h3.c]) (0, 0) _ (w.heap.size + 3) 50 (ddR true) (0, 0) _ rfl MAB.h Try.underlying69 rfl (by kernel_rfl) rfl RAB.h Try.underlying50 rfl (by kernel_rfl)) rfl ?_
    exact dwr_on h hB hB5 F47 F7 hP hB' hk hon hR hD
  have hoff : k < M.A ∨ 2 * M.A ≤ k := .inr (by omega)
  have i3' : (M.A : Int) ≤ (k : Int) := by omega
  have i4' : 2 * (M.A : Int) ≤ (k : Int) := by omega
  have FA : Fr [w.heap.size + 2] (w4) ((w4).setRow (w.heap.size + 2) (#[.int .i64 M.A, .int .i64 M.T, .slice aw M.L.length cw, .slice d.h2.a M.B.length d.h2.c, .slice d.h3.a M.R.length d.h3.c])) := Fr.row (S := [w.heap.size + 2]) (w := w4) (w.heap.size + 2) (#[.int .i64 M.A, .int .i64 M.T, .slice aw M.L.length cw, .slice d.h2.a M.B.length d.h2.c, .slice d.h3.a M.R.length d.h3.c]) (by simp)
  have MA := Blk.row BM4 (#[.int .i64 M.A, .int .i64 M.T, .slice aw M.L.length cw, .slice d.h2.a M.B.length d.h2.c, .slice d.h3.a M.R.length d.h3.c])
  have RA := FA.blk BR4 (by simp)
  have RAB := Blk.row RA (ddR true)
  have MAB := (Fr.row (S := [w.heap.size + 3]) (w.heap.size + 3) (ddR true) (by simp)).blk MA (by simp)
  go_wp2_with (first
    | (refine wpList_load_row rfl 69 _ rfl w.heap.size rfl 69 _ (0, 0) _ (BX4).h Try.underlying69 rfl (by kernel_rfl) ?_)
    | (refine wpList_store_row rfl 69 _ _ rfl (w.heap.size + 2) (#[.int .i64 M.A, .int .i64 M.T, .slice aw M.L.length cw, .slice d.h2.a M.B.length d.h2.c, .slice d.h3.a M.R.length d.h3.c]) rfl rfl 69 _ (BM4).h (by kernel_rfl) (by rfl) (by kernel_rfl) ?_)
    | (refine wpList_store_row rfl 50 _ _ rfl (w.heap.size + 3) (ddR true) rfl rfl 50 _ RA.h (by kernel_rfl) (by rfl) (by kernel_rfl) ?_))
  refine bodyPost_ret (res_cc rfl _ _ (w.heap.size + 2) 69 (#[.int .i64 M.A, .int .i64 M.T, .slice aw M.L.length cw, .slice d.h2.a M.B.length d.h2.c, .slice d.h3.a M.R.length d.h3.c]) (0, 0) _ (w.heap.size + 3) 50 (ddR true) (0, 0) _ rfl MAB.h Try.underlying69 rfl (by kernel_rfl) rfl RAB.h Try.underlying50 rfl (by kernel_rfl)) rfl ?_
  exact dwr_off h hB F4 hP hk hoff hR hD
set_option maxRecDepth 100000 in
set_option maxHeartbeats 6400000 in
theorem ddo_cas_yes {S : List Nat} (M : MemV) (d : DH) (k : Nat) (ver word : Int) (q : BlockH) (b : BlockV) (x : OpV) (w : World) (h : DMem w S d M) (hk : k < M.L.length) (hv : (at2 M.L k).2 = ver) (hW : U64 word) (hS : ∀ b ∈ S, b < w.heap.size) :
    Calls Try.prog 30 #[.agg (dmX M d), .agg (acc26 q ⟨3, (k : Int), ver, word, b, x⟩).toArray] w (DidD w S M ⟨3, (k : Int), ver, word, b, x⟩) := by
  have hlen : 2 * M.A + 5 * M.T + 1 ≤ M.L.length := by have := h.len; omega
  have hT16 := h.t1
  have hA16 := h.a1
  have hin : inB M.L.length (k : Int) = true := inB_mk (by omega) (by omega)
  have i0' : 0 ≤ (k : Int) := by omega
  have i1' : (k : Int) < (M.L.length : Int) := by omega
  have j1 : decide (k < M.L.length) = true := by simp; omega
  obtain ⟨g2, j2⟩ : ∃ g2, decide (k < M.T) = g2 := ⟨_, rfl⟩
  have hcb : casB M.L (k : Int) ver = true := by simp [casB, hin, hv]
  have hR : repV M ⟨3, (k : Int), ver, word, b, x⟩ = ⟨true, 0, 0, blockZ, opZ⟩ := by simp [repV, hcb]
  have hD : doV M ⟨3, (k : Int), ver, word, b, x⟩ = { M with L := writeL M.L k word, B := clearV M.B M.A k } := by simp [doV, hcb, casL]
  clear hin hcb
  have hR := Lib.hid hR
  have hD := Lib.hid hD
  have hB : Below w.heap.size w ((((w.alloc (.cells (dmX M d) 69)).alloc (.cells (acc26 q ⟨3, (k : Int), ver, word, b, x⟩).toArray 39)).alloc (.cells #[.int .i64 0, .int .i64 0, .slice none 0 0, .slice none 0 0, .slice none 0 0] 69)).alloc (.cells #[.bool false, .int .u64 0, .int .u64 0, .int .i64 0, .int .i64 0, .string ⟨#[]⟩, .string ⟨#[]⟩, .bool false, .int .i64 0, .slice none 0 0, .slice none 0 0, .slice none 0 0, .int .i64 0, .int .i64 0, .string ⟨#[]⟩, .int .u64 0, .slice none 0 0, .slice none 0 0, .slice none 0 0, .slice none 0 0, .int .i64 0, .string ⟨#[]⟩, .string ⟨#[]⟩, .int .u64 0, .int .i64 0] 50)) := by (repeat (first | exact Below.refl _ _ | assumption | refine below_alloc2 ?_ (by first | exact Nat.le_refl _ | omega) _ | refine Below.drew ?_ | refine below_drewN ?_ _ | refine below_push2 ?_ ‹_› (by first | exact Nat.le_refl _ | omega) | refine Below.setCell ?_ (by first | (simp; done) | (simp; omega) | omega) _))
  have BX := (((Blk.new w (dmX M d) 69).alloc (.cells (acc26 q ⟨3, (k : Int), ver, word, b, x⟩).toArray 39)).alloc (.cells #[.int .i64 0, .int .i64 0, .slice none 0 0, .slice none 0 0, .slice none 0 0] 69)).alloc (.cells #[.bool false, .int .u64 0, .int .u64 0, .int .i64 0, .int .i64 0, .string ⟨#[]⟩, .string ⟨#[]⟩, .bool false, .int .i64 0, .slice none 0 0, .slice none 0 0, .slice none 0 0, .int .i64 0, .int .i64 0, .string ⟨#[]⟩, .int .u64 0, .slice none 0 0, .slice none 0 0, .slice none 0 0, .slice none 0 0, .int .i64 0, .string ⟨#[]⟩, .string ⟨#[]⟩, .int .u64 0, .int .i64 0] 50)
  have BA : Blk ((((w.alloc (.cells (dmX M d) 69)).alloc (.cells (acc26 q ⟨3, (k : Int), ver, word, b, x⟩).toArray 39)).alloc (.cells #[.int .i64 0, .int .i64 0, .slice none 0 0, .slice none 0 0, .slice none 0 0] 69)).alloc (.cells #[.bool false, .int .u64 0, .int .u64 0, .int .i64 0, .int .i64 0, .string ⟨#[]⟩, .string ⟨#[]⟩, .bool false, .int .i64 0, .slice none 0 0, .slice none 0 0, .slice none 0 0, .int .i64 0, .int .i64 0, .string ⟨#[]⟩, .int .u64 0, .slice none 0 0, .slice none 0 0, .slice none 0 0, .slice none 0 0, .int .i64 0, .string ⟨#[]⟩, .string ⟨#[]⟩, .int .u64 0, .int .i64 0] 50)) (w.heap.size + 1) (acc26 q ⟨3, (k : Int), ver, word, b, x⟩).toArray 39 := by
    have := ((Blk.new (w.alloc (.cells (dmX M d) 69)) (acc26 q ⟨3, (k : Int), ver, word, b, x⟩).toArray 39).alloc (.cells #[.int .i64 0, .int .i64 0, .slice none 0 0, .slice none 0 0, .slice none 0 0] 69)).alloc (.cells #[.bool false, .int .u64 0, .int .u64 0, .int .i64 0, .int .i64 0, .string ⟨#[]⟩, .string ⟨#[]⟩, .bool false, .int .i64 0, .slice none 0 0, .slice none 0 0, .slice none 0 0, .int .i64 0, .int .i64 0, .string ⟨#[]⟩, .int .u64 0, .slice none 0 0, .slice none 0 0, .slice none 0 0, .slice none 0 0, .int .i64 0, .string ⟨#[]⟩, .string ⟨#[]⟩, .int .u64 0, .int .i64 0] 50)
    simpa using this
  have BM : Blk ((((w.alloc (.cells (dmX M d) 69)).alloc (.cells (acc26 q ⟨3, (k : Int), ver, word, b, x⟩).toArray 39)).alloc (.cells #[.int .i64 0, .int .i64 0, .slice none 0 0, .slice none 0 0, .slice none 0 0] 69)).alloc (.cells #[.bool false, .int .u64 0, .int .u64 0, .int .i64 0, .int .i64 0, .string ⟨#[]⟩, .string ⟨#[]⟩, .bool false, .int .i64 0, .slice none 0 0, .slice none 0 0, .slice none 0 0, .int .i64 0, .int .i64 0, .string ⟨#[]⟩, .int .u64 0, .slice none 0 0, .slice none 0 0, .slice none 0 0, .slice none 0 0, .int .i64 0, .string ⟨#[]⟩, .string ⟨#[]⟩, .int .u64 0, .int .i64 0] 50)) (w.heap.size + 2) #[.int .i64 0, .int .i64 0, .slice none 0 0, .slice none 0 0, .slice none 0 0] 69 := by
    have := (Blk.new ((w.alloc (.cells (dmX M d) 69)).alloc (.cells (acc26 q ⟨3, (k : Int), ver, word, b, x⟩).toArray 39)) #[.int .i64 0, .int .i64 0, .slice none 0 0, .slice none 0 0, .slice none 0 0] 69).alloc (.cells #[.bool false, .int .u64 0, .int .u64 0, .int .i64 0, .int .i64 0, .string ⟨#[]⟩, .string ⟨#[]⟩, .bool false, .int .i64 0, .slice none 0 0, .slice none 0 0, .slice none 0 0, .int .i64 0, .int .i64 0, .string ⟨#[]⟩, .int .u64 0, .slice none 0 0, .slice none 0 0, .slice none 0 0, .slice none 0 0, .int .i64 0, .string ⟨#[]⟩, .string ⟨#[]⟩, .int .u64 0, .int .i64 0] 50)
    simpa using this
  have BR : Blk ((((w.alloc (.cells (dmX M d) 69)).alloc (.cells (acc26 q ⟨3, (k : Int), ver, word, b, x⟩).toArray 39)).alloc (.cells #[.int .i64 0, .int .i64 0, .slice none 0 0, .slice none 0 0, .slice none 0 0] 69)).alloc (.cells #[.bool false, .int .u64 0, .int .u64 0, .int .i64 0, .int .i64 0, .string ⟨#[]⟩, .string ⟨#[]⟩, .bool false, .int .i64 0, .slice none 0 0, .slice none 0 0, .slice none 0 0, .int .i64 0, .int .i64 0, .string ⟨#[]⟩, .int .u64 0, .slice none 0 0, .slice none 0 0, .slice none 0 0, .slice none 0 0, .int .i64 0, .string ⟨#[]⟩, .string ⟨#[]⟩, .int .u64 0, .int .i64 0] 50)) (w.heap.size + 3) #[.bool false, .int .u64 0, .int .u64 0, .int .i64 0, .int .i64 0, .string ⟨#[]⟩, .string ⟨#[]⟩, .bool false, .int .i64 0, .slice none 0 0, .slice none 0 0, .slice none 0 0, .int .i64 0, .int .i64 0, .string ⟨#[]⟩, .int .u64 0, .slice none 0 0, .slice none 0 0, .slice none 0 0, .slice none 0 0, .int .i64 0, .string ⟨#[]⟩, .string ⟨#[]⟩, .int .u64 0, .int .i64 0] 50 := by
    have := Blk.new (((w.alloc (.cells (dmX M d) 69)).alloc (.cells (acc26 q ⟨3, (k : Int), ver, word, b, x⟩).toArray 39)).alloc (.cells #[.int .i64 0, .int .i64 0, .slice none 0 0, .slice none 0 0, .slice none 0 0] 69)) #[.bool false, .int .u64 0, .int .u64 0, .int .i64 0, .int .i64 0, .string ⟨#[]⟩, .string ⟨#[]⟩, .bool false, .int .i64 0, .slice none 0 0, .slice none 0 0, .slice none 0 0, .int .i64 0, .int .i64 0, .string ⟨#[]⟩, .int .u64 0, .slice none 0 0, .slice none 0 0, .slice none 0 0, .slice none 0 0, .int .i64 0, .string ⟨#[]⟩, .string ⟨#[]⟩, .int .u64 0, .int .i64 0] 50
    simpa using this
  go_enter Try.func30, Try.ntmps30
  go_upto_region 1 with (fail)
  generalize ((((w.alloc (.cells (dmX M d) 69)).alloc (.cells (acc26 q ⟨3, (k : Int), ver, word, b, x⟩).toArray 39)).alloc (.cells #[.int .i64 0, .int .i64 0, .slice none 0 0, .slice none 0 0, .slice none 0 0] 69)).alloc (.cells #[.bool false, .int .u64 0, .int .u64 0, .int .i64 0, .int .i64 0, .string ⟨#[]⟩, .string ⟨#[]⟩, .bool false, .int .i64 0, .slice none 0 0, .slice none 0 0, .slice none 0 0, .int .i64 0, .int .i64 0, .string ⟨#[]⟩, .int .u64 0, .slice none 0 0, .slice none 0 0, .slice none 0 0, .slice none 0 0, .int .i64 0, .string ⟨#[]⟩, .string ⟨#[]⟩, .int .u64 0, .int .i64 0] 50)) = w1 at hB BX BA BM BR ⊢
  have h1 := h.below hB
  have c0 : w1.cell? ⟨w.heap.size, 0, none⟩ = some (.int .i64 M.A) := BX.at 0 rfl
  have c1 : w1.cell? ⟨w.heap.size, 1, none⟩ = some (.int .i64 M.T) := BX.at 1 rfl
  have c2 : w1.cell? ⟨w.heap.size, 2, none⟩ = some (.slice d.h1.a M.L.length d.h1.c) := BX.at 2 rfl
  have c3 : w1.cell? ⟨w.heap.size, 3, none⟩ = some (.slice d.h2.a M.B.length d.h2.c) := BX.at 3 rfl
  have c4 : w1.cell? ⟨w.heap.size, 4, none⟩ = some (.slice d.h3.a M.R.length d.h3.c) := BX.at 4 rfl
  have a0 : w1.cell? ⟨w.heap.size + 1, 0, none⟩ = some (.int .i64 3) := BA.at 0 rfl
  have a1 : w1.cell? ⟨w.heap.size + 1, 1, none⟩ = some (.int .i64 (k : Int)) := BA.at 1 rfl
  have a2 : w1.cell? ⟨w.heap.size + 1, 2, none⟩ = some (.int .u64 ver) := BA.at 2 rfl
  have a3 : w1.cell? ⟨w.heap.size + 1, 3, none⟩ = some (.int .u64 word) := BA.at 3 rfl
  obtain ⟨bb, off, ha, hbl, hbS, e0, e1, u0, u1⟩ := h1.cell k hk
  have c2' : w1.cell? ⟨w.heap.size, 2, none⟩ = some (.slice (some ⟨bb, off, none⟩) M.L.length d.h1.c) := by rw [← ha]; exact c2
  clear ha hbl hbS u0 u1
  rw [hv] at e1
  clear e0
  go_upto_region 9 with (fail)
  have k0 := fun dd os => cell_regrown a0 dd os
  have k1 := fun dd os => cell_regrown a1 dd os
  have k2 := fun dd os => cell_regrown c2' dd os
  have k3 := fun dd os => cell_regrown a2 dd os
  have ke := fun dd os => cell_regrown e1 dd os
  refine wp_region_quiet_below (by kernel_rfl) (by kernel_rfl) ?_
  repeat (go_big_quiet_step (fail))
  refine wpQuiet_nil ?_
  intro w6 hw'
  have hb6 := RefP.below_of_regrown hw'
  clear hw'
  clear k0 k1 k2 k3 ke e1
  clear c0 c1 c2 c3 c4 a0 a1 a2 a3 c2'
  replace hB := below_push2 hB hb6 (Nat.le_refl _)
  replace BX := BX.below hb6
  replace BA := BA.below hb6
  replace BM := BM.below hb6
  replace BR := BR.below hb6
  clear h1 hb6
  have c0 : w6.cell? ⟨w.heap.size, 0, none⟩ = some (.int .i64 M.A) := BX.at 0 rfl
  have c2 : w6.cell? ⟨w.heap.size, 2, none⟩ = some (.slice d.h1.a M.L.length d.h1.c) := BX.at 2 rfl
  have a1 : w6.cell? ⟨w.heap.size + 1, 1, none⟩ = some (.int .i64 (k : Int)) := BA.at 1 rfl
  have a3 : w6.cell? ⟨w.heap.size + 1, 3, none⟩ = some (.int .u64 word) := BA.at 3 rfl
  go_wp2_with fail
  refine (write_any d.h1.a d.h1.c M.L k word w6 (h.below hB).pairs (inB_mk (by omega) (by omega)) hW.1 hW.2).mono ?_
  rintro e w2 ⟨aw, cw, rfl, hP, hb2, hge⟩
  rw [writeL_length]
  replace hP : RowRep cellT w2 (boxS S w.heap.size) aw (writeL M.L k word) := pairs_row hP (fun b' off e hb => by
    have h1 := hge b' off e
    have h2 := boxS_lt hS BR.lt b' hb
    omega)
  clear hge c0 c2 a1 a3
  replace hB := below_push2 hB hb2 (Nat.le_refl _)
  replace BX := BX.below hb2
  replace BA := BA.below hb2
  replace BM := BM.below hb2
  replace BR := BR.below hb2
  clear hb2
  have c2' : w2.cell? ⟨w.heap.size, 2, none⟩ = some (.slice d.h1.a M.L.length d.h1.c) := BX.at 2 rfl
  have f2 := BX.free 2
  have BX4 : Blk (w2.setCell ⟨w.heap.size, 2, none⟩ (.slice aw M.L.length cw)) w.heap.size #[.int .i64 M.A, .int .i64 M.T, .slice aw M.L.length cw, .slice d.h2.a M.B.length d.h2.c, .slice d.h3.a M.R.length d.h3.c] 69 := BX.set 2 (.slice aw M.L.length cw)
  have F4 : Fr [w.heap.size, w.heap.size + 2, w.heap.size + 3] w2 (w2.setCell ⟨w.heap.size, 2, none⟩ (.slice aw M.L.length cw)) := (Fr.refl _ _).set _ _ (.inl (by simp))
  have BM4 := BM.far ⟨w.heap.size, 2, none⟩ (.slice aw M.L.length cw) (by simp only; omega)
  have BR4 := BR.far ⟨w.heap.size, 2, none⟩ (.slice aw M.L.length cw) (by simp only; omega)
  have BA4 := BA.far ⟨w.heap.size, 2, none⟩ (.slice aw M.L.length cw) (by simp only; omega)
  clear BX BM BR BA
  go_upto_region 11 with (fail)
  generalize w2.setCell ⟨w.heap.size, 2, none⟩ (.slice aw M.L.length cw) = w4 at BX4 F4 BM4 BR4 BA4 ⊢
  clear c2' f2
  have c0 : w4.cell? ⟨w.heap.size, 0, none⟩ = some (.int .i64 M.A) := BX4.at 0 rfl
  have c3 : w4.cell? ⟨w.heap.size, 3, none⟩ = some (.slice d.h2.a M.B.length d.h2.c) := BX4.at 3 rfl
  have a1 : w4.cell? ⟨w.heap.size + 1, 1, none⟩ = some (.int .i64 (k : Int)) := BA4.at 1 rfl
  have hB4 := F4.below hB (Nat.le_refl _) (by simp)
  have hR := hR.out
  have hD := hD.out
  by_cases i3 : k < M.A
  · have hoff : k < M.A ∨ 2 * M.A ≤ k := .inl i3
    have i3' : (k : Int) < (M.A : Int) := by omega
    have FA : Fr [w.heap.size + 2] (w4) ((w4).setRow (w.heap.size + 2) (#[.int .i64 M.A, .int .i64 M.T, .slice aw M.L.length cw, .slice d.h2.a M.B.length d.h2.c, .slice d.h3.a M.R.length d.h3.c])) := Fr.row (S := [w.heap.size + 2]) (w := w4) (w.heap.size + 2) (#[.int .i64 M.A, .int .i64 M.T, .slice aw M.L.length cw, .slice d.h2.a M.B.length d.h2.c, .slice d.h3.a M.R.length d.h3.c]) (by simp)
    have MA := Blk.row BM4 (#[.int .i64 M.A, .int .i64 M.T, .slice aw M.L.length cw, .slice d.h2.a M.B.length d.h2.c, .slice d.h3.a M.R.length d.h3.c])
    have RA := FA.blk BR4 (by simp)
    have RAB := Blk.row RA (ddR true)
    have MAB := (Fr.row (S := [w.heap.size + 3]) (w.heap.size + 3) (ddR true) (by simp)).blk MA (by simp)
    go_wp2_with (first
      | (refine wpList_load_row rfl 69 _ rfl w.heap.size rfl 69 _ (0, 0) _ (BX4).h Try.underlying69 rfl (by kernel_rfl) ?_)
      | (refine wpList_store_row rfl 69 _ _ rfl (w.heap.size + 2) (#[.int .i64 M.A, .int .i64 M.T, .slice aw M.L.length cw, .slice d.h2.a M.B.length d.h2.c, .slice d.h3.a M.R.length d.h3.c]) rfl rfl 69 _ (BM4).h (by kernel_rfl) (by rfl) (by kernel_rfl) ?_)
      | (refine wpList_store_row rfl 50 _ _ rfl (w.heap.size + 3) (ddR true) rfl rfl 50 _ RA.h (by kernel_rfl) (by rfl) (by kernel_rfl) ?_))
    refine bodyPost_ret (res_cc rfl _ _ (w.heap.size + 2) 69 (#[.int .i64 M.A, .int .i64 M.T, .slice aw M.L.length cw, .slice d.h2.a M.B.length d.h2.c, .slice d.h3.a M.R.length d.h3.c]) (0, 0) _ (w.heap.size + 3) 50 (ddR true) (0, 0) _ rfl MAB.h Try.underlying69 rfl (by kernel_rfl) rfl RAB.h Try.underlying50 rfl (by kernel_rfl)) rfl ?_
    exact dwr_off h hB F4 hP hk hoff hR hD
  by_cases i4 : k < 2 * M.A
  · have hon : M.A ≤ k ∧ k < 2 * M.A := ⟨by omega, i4⟩
    have i3' : (M.A : Int) ≤ (k : Int) := by omega
    have i4' : (k : Int) < 2 * (M.A : Int) := by omega
    have hsub : (k : Int) - (M.A : Int) = ((k - M.A : Nat) : Int) := by omega
    go_wp2_with fail
    have hl : k - M.A < M.B.length ∧ M.B.length ≤ 8192 := by have := h.lb; omega
    refine (dset_any (S := boxS S w.heap.size) d.h2.a d.h2.c M.B (k - M.A) nilH blockZ w4 ((h.blocks.more boxS_more).keep (Keeps.of_below hB4)) hl.2 hl.1 (blockZ_ok _ _) (boxS_lt hS BR4.lt)).mono ?_
    rintro e w3 ⟨a', c', rfl, hB', hb3⟩
    have hl2 : (M.B.set (k - M.A) blockZ).length = M.B.length := by simp
    rw [hl2]
    clear c0 c3 a1
    have hB5 := below_push2 hB4 hb3 (Nat.le_refl _)
    have BX5 := BX4.below hb3
    have BM5 := BM4.below hb3
    have BR5 := BR4.below hb3
    have c3' : w3.cell? ⟨w.heap.size, 3, none⟩ = some (.slice d.h2.a M.B.length d.h2.c) := BX5.at 3 rfl
    have f3 := BX5.free 3
    have BX7 : Blk (w3.setCell ⟨w.heap.size, 3, none⟩ (.slice a' M.B.length c')) w.heap.size #[.int .i64 M.A, .int .i64 M.T, .slice aw M.L.length cw, .slice a' M.B.length c', .slice d.h3.a M.R.length d.h3.c] 69 := BX5.set 3 (.slice a' M.B.length c')
    have F7 : Fr [w.heap.size, w.heap.size + 2, w.heap.size + 3] w3 (w3.setCell ⟨w.heap.size, 3, none⟩ (.slice a' M.B.length c')) := (Fr.refl _ _).set _ _ (.inl (by simp))
    have BM7 := BM5.far ⟨w.heap.size, 3, none⟩ (.slice a' M.B.length c') (by simp only; omega)
    have BR7 := BR5.far ⟨w.heap.size, 3, none⟩ (.slice a' M.B.length c') (by simp only; omega)
    have F47 : Fr [w.heap.size, w.heap.size + 2, w.heap.size + 3] w2 w3 := F4.trans (Fr.of_below hb3)
    clear BX5 BM5 BR5 BX4 BM4 BR4 BA4 hb3
    go_upto_region 13 with (fail)
    generalize w3.setCell ⟨w.heap.size, 3, none⟩ (.slice a' M.B.length c') = w7 at BX7 F7 BM7 BR7 ⊢
    have FA : Fr [w.heap.size + 2] (w7) ((w7).setRow (w.heap.size + 2) (#[.int .i64 M.A, .int .i64 M.T, .slice aw M.L.length cw, .slice a' M.B.length c', .slice d.h3.a M.R.length d.h3.c])) := Fr.row (S := [w.heap.size + 2]) (w := w7) (w.heap.size + 2) (#[.int .i64 M.A, .int .i64 M.T, .slice aw M.L.length cw, .slice a' M.B.length c', .slice d.h3.a M.R.length d.h3.c]) (by simp)
    have MA := Blk.row BM7 (#[.int .i64 M.A, .int .i64 M.T, .slice aw M.L.length cw, .slice a' M.B.length c', .slice d.h3.a M.R.length d.h3.c])
    have RA := FA.blk BR7 (by simp)
    have RAB := Blk.row RA (ddR true)
    have MAB := (Fr.row (S := [w.heap.size + 3]) (w.heap.size + 3) (ddR true) (by simp)).blk MA (by simp)
    go_wp2_with (first
      | (refine wpList_load_row rfl 69 _ rfl w.heap.size rfl 69 _ (0, 0) _ (BX7).h Try.underlying69 rfl (by kernel_rfl) ?_)
      | (refine wpList_store_row rfl 69 _ _ rfl (w.heap.size + 2) (#[.int .i64 M.A, .int .i64 M.T, .slice aw M.L.length cw, .slice a' M.B.length c', .slice d.h3.a M.R.length d.h3.c]) rfl rfl 69 _ (BM7).h (by kernel_rfl) (by rfl) (by kernel_rfl) ?_)
      | (refine wpList_store_row rfl 50 _ _ rfl (w.heap.size + 3) (ddR true) rfl rfl 50 _ RA.h (by kernel_rfl) (by rfl) (by kernel_rfl) ?_))
    refine bodyPost_ret (res_cc rfl _ _ (w.heap.size + 2) 69 (#[.int .i64 M.A, .int .i64 M.T, .slice aw M.L.length cw, .slice a' M.B.length c', .slice d.h3.a M.R.length d.h3.c]) (0, 0) _ (w.heap.size + 3) 50 (ddR true) (0, 0) _ rfl MAB.h Try.underlying69 rfl (by kernel_rfl) rfl RAB.h Try.underlying50 rfl (by kernel_rfl)) rfl ?_
    exact dwr_on h hB hB5 F47 F7 hP hB' hk hon hR hD
  have hoff : k < M.A ∨ 2 * M.A ≤ k := .inr (by omega)
  have i3' : (M.A : Int) ≤ (k : Int) := by omega
  have i4' : 2 * (M.A : Int) ≤ (k : Int) := by omega
  have FA : Fr [w.heap.size + 2] (w4) ((w4).setRow (w.heap.size + 2) (#[.int .i64 M.A, .int .i64 M.T, .slice aw M.L.length cw, .slice d.h2.a M.B.length d.h2.c, .slice d.h3.a M.R.length d.h3.c])) := Fr.row (S := [w.heap.size + 2]) (w := w4) (w.heap.size + 2) (#[.int .i64 M.A, .int .i64 M.T, .slice aw M.L.length cw, .slice d.h2.a M.B.length d.h2.c, .slice d.h3.a M.R.length d.h3.c]) (by simp)
  have MA := Blk.row BM4 (#[.int .i64 M.A, .int .i64 M.T, .slice aw M.L.length cw, .slice d.h2.a M.B.length d.h2.c, .slice d.h3.a M.R.length d.h3.c])
  have RA := FA.blk BR4 (by simp)
  have RAB := Blk.row RA (ddR true)
  have MAB := (Fr.row (S := [w.heap.size + 3]) (w.heap.size + 3) (ddR true) (by simp)).blk MA (by simp)
  go_wp2_with (first
    | (refine wpList_load_row rfl 69 _ rfl w.heap.size rfl 69 _ (0, 0) _ (BX4).h Try.underlying69 rfl (by kernel_rfl) ?_)
    | (refine wpList_store_row rfl 69 _ _ rfl (w.heap.size + 2) (#[.int .i64 M.A, .int .i64 M.T, .slice aw M.L.length cw, .slice d.h2.a M.B.length d.h2.c, .slice d.h3.a M.R.length d.h3.c]) rfl rfl 69 _ (BM4).h (by kernel_rfl) (by rfl) (by kernel_rfl) ?_)
    | (refine wpList_store_row rfl 50 _ _ rfl (w.heap.size + 3) (ddR true) rfl rfl 50 _ RA.h (by kernel_rfl) (by rfl) (by kernel_rfl) ?_))
  refine bodyPost_ret (res_cc rfl _ _ (w.heap.size + 2) 69 (#[.int .i64 M.A, .int .i64 M.T, .slice aw M.L.length cw, .slice d.h2.a M.B.length d.h2.c, .slice d.h3.a M.R.length d.h3.c]) (0, 0) _ (w.heap.size + 3) 50 (ddR true) (0, 0) _ rfl MAB.h Try.underlying69 rfl (by kernel_rfl) rfl RAB.h Try.underlying50 rfl (by kernel_rfl)) rfl ?_
  exact dwr_off h hB F4 hP hk hoff hR hD
set_option maxRecDepth 100000 in
set_option maxHeartbeats 6400000 in
theorem ddo_cas_no {S : List Nat} (M : MemV) (d : DH) (k : Nat) (ver word : Int) (q : BlockH) (b : BlockV) (x : OpV) (w : World) (h : DMem w S d M) (hk : k < M.L.length) (hv : ¬ (at2 M.L k).2 = ver) :
    Calls Try.prog 30 #[.agg (dmX M d), .agg (acc26 q ⟨3, (k : Int), ver, word, b, x⟩).toArray] w (DidD w S M ⟨3, (k : Int), ver, word, b, x⟩) := by
  have hlen : 2 * M.A + 5 * M.T + 1 ≤ M.L.length := by have := h.len; omega
  have hT16 := h.t1
  have hA16 := h.a1
  have hin : inB M.L.length (k : Int) = true := inB_mk (by omega) (by omega)
  have i0' : 0 ≤ (k : Int) := by omega
  have i1' : (k : Int) < (M.L.length : Int) := by omega
  have j1 : decide (k < M.L.length) = true := by simp; omega
  obtain ⟨g2, j2⟩ : ∃ g2, decide (k < M.T) = g2 := ⟨_, rfl⟩
  have hcb : casB M.L (k : Int) ver = false := by simp [casB, hin, hv]
  have hR : repV M ⟨3, (k : Int), ver, word, b, x⟩ = ⟨false, 0, 0, blockZ, opZ⟩ := by simp [repV, hcb]
  have hD : doV M ⟨3, (k : Int), ver, word, b, x⟩ = M := by simp [doV, hcb]
  clear hin hcb
  have hR := Lib.hid hR
  have hD := Lib.hid hD
  have hne : ((at2 M.L k).2 == ver) = false := by simpa using hv
  clear hv
  have hB : Below w.heap.size w ((((w.alloc (.cells (dmX M d) 69)).alloc (.cells (acc26 q ⟨3, (k : Int), ver, word, b, x⟩).toArray 39)).alloc (.cells #[.int .i64 0, .int .i64 0, .slice none 0 0, .slice none 0 0, .slice none 0 0] 69)).alloc (.cells #[.bool false, .int .u64 0, .int .u64 0, .int .i64 0, .int .i64 0, .string ⟨#[]⟩, .string ⟨#[]⟩, .bool false, .int .i64 0, .slice none 0 0, .slice none 0 0, .slice none 0 0, .int .i64 0, .int .i64 0, .string ⟨#[]⟩, .int .u64 0, .slice none 0 0, .slice none 0 0, .slice none 0 0, .slice none 0 0, .int .i64 0, .string ⟨#[]⟩, .string ⟨#[]⟩, .int .u64 0, .int .i64 0] 50)) := by (repeat (first | exact Below.refl _ _ | assumption | refine below_alloc2 ?_ (by first | exact Nat.le_refl _ | omega) _ | refine Below.drew ?_ | refine below_drewN ?_ _ | refine below_push2 ?_ ‹_› (by first | exact Nat.le_refl _ | omega) | refine Below.setCell ?_ (by first | (simp; done) | (simp; omega) | omega) _))
  have BX := (((Blk.new w (dmX M d) 69).alloc (.cells (acc26 q ⟨3, (k : Int), ver, word, b, x⟩).toArray 39)).alloc (.cells #[.int .i64 0, .int .i64 0, .slice none 0 0, .slice none 0 0, .slice none 0 0] 69)).alloc (.cells #[.bool false, .int .u64 0, .int .u64 0, .int .i64 0, .int .i64 0, .string ⟨#[]⟩, .string ⟨#[]⟩, .bool false, .int .i64 0, .slice none 0 0, .slice none 0 0, .slice none 0 0, .int .i64 0, .int .i64 0, .string ⟨#[]⟩, .int .u64 0, .slice none 0 0, .slice none 0 0, .slice none 0 0, .slice none 0 0, .int .i64 0, .string ⟨#[]⟩, .string ⟨#[]⟩, .int .u64 0, .int .i64 0] 50)
  have BA : Blk ((((w.alloc (.cells (dmX M d) 69)).alloc (.cells (acc26 q ⟨3, (k : Int), ver, word, b, x⟩).toArray 39)).alloc (.cells #[.int .i64 0, .int .i64 0, .slice none 0 0, .slice none 0 0, .slice none 0 0] 69)).alloc (.cells #[.bool false, .int .u64 0, .int .u64 0, .int .i64 0, .int .i64 0, .string ⟨#[]⟩, .string ⟨#[]⟩, .bool false, .int .i64 0, .slice none 0 0, .slice none 0 0, .slice none 0 0, .int .i64 0, .int .i64 0, .string ⟨#[]⟩, .int .u64 0, .slice none 0 0, .slice none 0 0, .slice none 0 0, .slice none 0 0, .int .i64 0, .string ⟨#[]⟩, .string ⟨#[]⟩, .int .u64 0, .int .i64 0] 50)) (w.heap.size + 1) (acc26 q ⟨3, (k : Int), ver, word, b, x⟩).toArray 39 := by
    have := ((Blk.new (w.alloc (.cells (dmX M d) 69)) (acc26 q ⟨3, (k : Int), ver, word, b, x⟩).toArray 39).alloc (.cells #[.int .i64 0, .int .i64 0, .slice none 0 0, .slice none 0 0, .slice none 0 0] 69)).alloc (.cells #[.bool false, .int .u64 0, .int .u64 0, .int .i64 0, .int .i64 0, .string ⟨#[]⟩, .string ⟨#[]⟩, .bool false, .int .i64 0, .slice none 0 0, .slice none 0 0, .slice none 0 0, .int .i64 0, .int .i64 0, .string ⟨#[]⟩, .int .u64 0, .slice none 0 0, .slice none 0 0, .slice none 0 0, .slice none 0 0, .int .i64 0, .string ⟨#[]⟩, .string ⟨#[]⟩, .int .u64 0, .int .i64 0] 50)
    simpa using this
  have BM : Blk ((((w.alloc (.cells (dmX M d) 69)).alloc (.cells (acc26 q ⟨3, (k : Int), ver, word, b, x⟩).toArray 39)).alloc (.cells #[.int .i64 0, .int .i64 0, .slice none 0 0, .slice none 0 0, .slice none 0 0] 69)).alloc (.cells #[.bool false, .int .u64 0, .int .u64 0, .int .i64 0, .int .i64 0, .string ⟨#[]⟩, .string ⟨#[]⟩, .bool false, .int .i64 0, .slice none 0 0, .slice none 0 0, .slice none 0 0, .int .i64 0, .int .i64 0, .string ⟨#[]⟩, .int .u64 0, .slice none 0 0, .slice none 0 0, .slice none 0 0, .slice none 0 0, .int .i64 0, .string ⟨#[]⟩, .string ⟨#[]⟩, .int .u64 0, .int .i64 0] 50)) (w.heap.size + 2) #[.int .i64 0, .int .i64 0, .slice none 0 0, .slice none 0 0, .slice none 0 0] 69 := by
    have := (Blk.new ((w.alloc (.cells (dmX M d) 69)).alloc (.cells (acc26 q ⟨3, (k : Int), ver, word, b, x⟩).toArray 39)) #[.int .i64 0, .int .i64 0, .slice none 0 0, .slice none 0 0, .slice none 0 0] 69).alloc (.cells #[.bool false, .int .u64 0, .int .u64 0, .int .i64 0, .int .i64 0, .string ⟨#[]⟩, .string ⟨#[]⟩, .bool false, .int .i64 0, .slice none 0 0, .slice none 0 0, .slice none 0 0, .int .i64 0, .int .i64 0, .string ⟨#[]⟩, .int .u64 0, .slice none 0 0, .slice none 0 0, .slice none 0 0, .slice none 0 0, .int .i64 0, .string ⟨#[]⟩, .string ⟨#[]⟩, .int .u64 0, .int .i64 0] 50)
    simpa using this
  have BR : Blk ((((w.alloc (.cells (dmX M d) 69)).alloc (.cells (acc26 q ⟨3, (k : Int), ver, word, b, x⟩).toArray 39)).alloc (.cells #[.int .i64 0, .int .i64 0, .slice none 0 0, .slice none 0 0, .slice none 0 0] 69)).alloc (.cells #[.bool false, .int .u64 0, .int .u64 0, .int .i64 0, .int .i64 0, .string ⟨#[]⟩, .string ⟨#[]⟩, .bool false, .int .i64 0, .slice none 0 0, .slice none 0 0, .slice none 0 0, .int .i64 0, .int .i64 0, .string ⟨#[]⟩, .int .u64 0, .slice none 0 0, .slice none 0 0, .slice none 0 0, .slice none 0 0, .int .i64 0, .string ⟨#[]⟩, .string ⟨#[]⟩, .int .u64 0, .int .i64 0] 50)) (w.heap.size + 3) #[.bool false, .int .u64 0, .int .u64 0, .int .i64 0, .int .i64 0, .string ⟨#[]⟩, .string ⟨#[]⟩, .bool false, .int .i64 0, .slice none 0 0, .slice none 0 0, .slice none 0 0, .int .i64 0, .int .i64 0, .string ⟨#[]⟩, .int .u64 0, .slice none 0 0, .slice none 0 0, .slice none 0 0, .slice none 0 0, .int .i64 0, .string ⟨#[]⟩, .string ⟨#[]⟩, .int .u64 0, .int .i64 0] 50 := by
    have := Blk.new (((w.alloc (.cells (dmX M d) 69)).alloc (.cells (acc26 q ⟨3, (k : Int), ver, word, b, x⟩).toArray 39)).alloc (.cells #[.int .i64 0, .int .i64 0, .slice none 0 0, .slice none 0 0, .slice none 0 0] 69)) #[.bool false, .int .u64 0, .int .u64 0, .int .i64 0, .int .i64 0, .string ⟨#[]⟩, .string ⟨#[]⟩, .bool false, .int .i64 0, .slice none 0 0, .slice none 0 0, .slice none 0 0, .int .i64 0, .int .i64 0, .string ⟨#[]⟩, .int .u64 0, .slice none 0 0, .slice none 0 0, .slice none 0 0, .slice none 0 0, .int .i64 0, .string ⟨#[]⟩, .string ⟨#[]⟩, .int .u64 0, .int .i64 0] 50
    simpa using this
  go_enter Try.func30, Try.ntmps30
  go_upto_region 1 with (fail)
  generalize ((((w.alloc (.cells (dmX M d) 69)).alloc (.cells (acc26 q ⟨3, (k : Int), ver, word, b, x⟩).toArray 39)).alloc (.cells #[.int .i64 0, .int .i64 0, .slice none 0 0, .slice none 0 0, .slice none 0 0] 69)).alloc (.cells #[.bool false, .int .u64 0, .int .u64 0, .int .i64 0, .int .i64 0, .string ⟨#[]⟩, .string ⟨#[]⟩, .bool false, .int .i64 0, .slice none 0 0, .slice none 0 0, .slice none 0 0, .int .i64 0, .int .i64 0, .string ⟨#[]⟩, .int .u64 0, .slice none 0 0, .slice none 0 0, .slice none 0 0, .slice none 0 0, .int .i64 0, .string ⟨#[]⟩, .string ⟨#[]⟩, .int .u64 0, .int .i64 0] 50)) = w1 at hB BX BA BM BR ⊢
  have h1 := h.below hB
  have c0 : w1.cell? ⟨w.heap.size, 0, none⟩ = some (.int .i64 M.A) := BX.at 0 rfl
  have c1 : w1.cell? ⟨w.heap.size, 1, none⟩ = some (.int .i64 M.T) := BX.at 1 rfl
  have c2 : w1.cell? ⟨w.heap.size, 2, none⟩ = some (.slice d.h1.a M.L.length d.h1.c) := BX.at 2 rfl
  have c3 : w1.cell? ⟨w.heap.size, 3, none⟩ = some (.slice d.h2.a M.B.length d.h2.c) := BX.at 3 rfl
  have c4 : w1.cell? ⟨w.heap.size, 4, none⟩ = some (.slice d.h3.a M.R.length d.h3.c) := BX.at 4 rfl
  have a0 : w1.cell? ⟨w.heap.size + 1, 0, none⟩ = some (.int .i64 3) := BA.at 0 rfl
  have a1 : w1.cell? ⟨w.heap.size + 1, 1, none⟩ = some (.int .i64 (k : Int)) := BA.at 1 rfl
  have a2 : w1.cell? ⟨w.heap.size + 1, 2, none⟩ = some (.int .u64 ver) := BA.at 2 rfl
  have a3 : w1.cell? ⟨w.heap.size + 1, 3, none⟩ = some (.int .u64 word) := BA.at 3 rfl
  obtain ⟨bb, off, ha, hbl, hbS, e0, e1, u0, u1⟩ := h1.cell k hk
  have c2' : w1.cell? ⟨w.heap.size, 2, none⟩ = some (.slice (some ⟨bb, off, none⟩) M.L.length d.h1.c) := by rw [← ha]; exact c2
  clear ha hbl hbS u0 u1
  skip
  clear e0
  go_upto_region 9 with (fail)
  have k0 := fun dd os => cell_regrown a0 dd os
  have k1 := fun dd os => cell_regrown a1 dd os
  have k2 := fun dd os => cell_regrown c2' dd os
  have k3 := fun dd os => cell_regrown a2 dd os
  have ke := fun dd os => cell_regrown e1 dd os
  refine wp_region_quiet_below (by kernel_rfl) (by kernel_rfl) ?_
  repeat (go_big_quiet_step (fail))
  refine wpQuiet_nil ?_
  intro w6 hw'
  have hb6 := RefP.below_of_regrown hw'
  clear hw'
  clear k0 k1 k2 k3 ke e1
  clear c0 c1 c2 c3 c4 a0 a1 a2 a3 c2'
  replace hB := below_push2 hB hb6 (Nat.le_refl _)
  replace BX := BX.below hb6
  replace BA := BA.below hb6
  replace BM := BM.below hb6
  replace BR := BR.below hb6
  clear h1 hb6
  have FA : Fr [w.heap.size + 2] (w6) ((w6).setRow (w.heap.size + 2) (ddM M d)) := Fr.row (S := [w.heap.size + 2]) (w := w6) (w.heap.size + 2) (ddM M d) (by simp)
  have MA := Blk.row BM (ddM M d)
  have RA := FA.blk BR (by simp)
  have RAB := Blk.row RA (ddR false)
  have MAB := (Fr.row (S := [w.heap.size + 3]) (w.heap.size + 3) (ddR false) (by simp)).blk MA (by simp)
  go_wp2_with (first
    | (refine wpList_load_row rfl 69 _ rfl w.heap.size rfl 69 _ (0, 0) _ (BX).h Try.underlying69 rfl (by kernel_rfl) ?_)
    | (refine wpList_store_row rfl 69 _ _ rfl (w.heap.size + 2) (ddM M d) rfl rfl 69 _ (BM).h (by kernel_rfl) (by rfl) (by kernel_rfl) ?_)
    | (refine wpList_store_row rfl 50 _ _ rfl (w.heap.size + 3) (ddR false) rfl rfl 50 _ RA.h (by kernel_rfl) (by rfl) (by kernel_rfl) ?_))
  refine bodyPost_ret (res_cc rfl _ _ (w.heap.size + 2) 69 (ddM M d) (0, 0) _ (w.heap.size + 3) 50 (ddR false) (0, 0) _ rfl MAB.h Try.underlying69 rfl (by kernel_rfl) rfl RAB.h Try.underlying50 rfl (by kernel_rfl)) rfl ?_
  exact didd_no h (below_two hB) hD.out false hR.out
end Go.Proofs.Ytpempcefgfmniaa.MemP

/-
  bowerref26: Do: contract of any access.
-/
namespace Go.Proofs.Ytpempcefgfmniaa.MemP
open Go.RowKit RefP CellP Dp
set_option linter.unusedVariables false
set_option linter.unusedSimpArgs false
theorem in_nat {n : Nat} {i : Int} (h : inB n i = true) : ∃ k : Nat, i = (k : Int) ∧ k < n := by
  obtain ⟨h0, h1⟩ := inB_yes h
  exact ⟨i.toNat, by omega, by omega⟩
theorem ddo_any {S : List Nat} (M : MemV) (d : DH) (a : AccV) (q : BlockH) (w : World) (h : DMem w S d M) (hS : ∀ b ∈ S, b < w.heap.size) (ha : AccOk w S q a) :
    Calls Try.prog 30 #[.agg (dmX M d), .agg (acc26 q a).toArray] w (DidD w S M a) := by
  obtain ⟨kd, i, ver, word, b, x⟩ := a
  have hW : U64 word := ha.word
  have hb : BlockOk w S q b := ha.block
  have hx : OpOk x := ha.op
  by_cases k1 : kd = 1
  · subst k1
    by_cases hi : inB M.L.length i = true
    · obtain ⟨k, rfl, hk⟩ := in_nat hi
      exact ddo_load_in M d k ver word q b x w h hk
    · exact ddo_load_no M d i ver word q b x w h (by simpa using hi)
  by_cases k2 : kd = 2
  · subst k2
    by_cases hi : inB M.L.length i = true
    · obtain ⟨k, rfl, hk⟩ := in_nat hi
      exact ddo_store_yes M d k ver word q b x w h hk hW hS
    · exact ddo_store_no M d i 0 ver word q b x w h (by simpa using hi)
  by_cases k3 : kd = 3
  · subst k3
    by_cases hi : inB M.L.length i = true
    · obtain ⟨k, rfl, hk⟩ := in_nat hi
      by_cases hv : (at2 M.L k).2 = ver
      · exact ddo_cas_yes M d k ver word q b x w h hk hv hW hS
      · exact ddo_cas_no M d k ver word q b x w h hk hv
    · exact ddo_cas_out M d i ver word q b x w h (by simpa using hi)
  by_cases k4 : kd = 4
  · subst k4
    by_cases hn : nameB M.A M.T M.L word = true
    · exact ddo_get_yes M d i 0 ver word q b x w h hW hn
    · exact ddo_get_no M d i 0 ver word q b x w h hW (by simpa using hn)
  by_cases k5 : kd = 5
  · subst k5
    by_cases hn : nameB M.A M.T M.L word = true
    · exact ddo_put_yes M d i 0 ver word q b x w h hW hn hb hS
    · exact ddo_put_no M d i 0 ver word q b x w h hW (by simpa using hn)
  by_cases k6 : kd = 6
  · subst k6
    by_cases hw : 0 ≤ i ∧ i < (M.T : Int)
    · exact ddo_read_yes M d i ver word q b x w h i.toNat (by omega) (by omega)
    · exact ddo_read_no M d i 0 ver word q b x w h hw
  by_cases k7 : kd = 7
  · subst k7
    by_cases hw : 0 ≤ i ∧ i < (M.T : Int)
    · obtain ⟨p, rfl⟩ : ∃ p : Nat, i = (p : Int) := ⟨i.toNat, by omega⟩
      exact ddo_write_yes M d p ver word q b x w h (by omega) hx hS
    · exact ddo_write_no M d i 0 ver word q b x w h hw
  exact ddo_other M d i kd ver word q b x w h k1 k2 k3 k4 k5 k6 k7
end Go.Proofs.Ytpempcefgfmniaa.MemP

/-
  A memory that no call made: named, Block, Hazard: contracts.
-/
namespace Go.Proofs.Ytpempcefgfmniaa.MemP
open Go.RowKit RefP CellP
set_option linter.unusedVariables false
set_option linter.unusedSimpArgs false
set_option maxHeartbeats 1600000 in
theorem named_zero (o : Nat) (x : Int) (w : World) (h : NoMem w o) (x0 : 0 ≤ x) (x1 : x ≤ 18446744073709551615) : Calls Try.prog 48 #[.pointer (some ⟨o, 0, none⟩), .int .u64 x] w fun e w' => e = .returned (.tuple #[.int .i64 0, .bool false]) ∧ Below w.heap.size w w' := by
  have hp := (open_bounds x).1
  have q1 : decide ((0 : Int) ≤ openP x) = true := by simpa using hp
  cases ho : opensB x
  · go_enter Try.func48, Try.ntmps48
    go_wp2_with fail
    refine (open_any _ _ x0 x1).mono ?_
    rw [ho]
    rintro e w1 ⟨rfl, hb1⟩
    go_wp2_with fail
    go_ret2
    exact ⟨rfl, hb1⟩
  · go_enter Try.func48, Try.ntmps48
    go_wp2_with fail
    refine (open_any _ _ x0 x1).mono ?_
    rw [ho]
    rintro e w1 ⟨rfl, hb1⟩
    go_wp2_with fail
    refine (arena_zero _ _ (h.below hb1)).mono ?_
    rintro e w2 ⟨rfl, rfl⟩
    go_wp2_with fail
    go_ret2
    exact ⟨rfl, hb1⟩
abbrev zbA : Array Value := #[.int .i64 0, .int .i64 0, .string ⟨#[]⟩, .string ⟨#[]⟩, .bool false, .int .i64 0, .slice none 0 0, .slice none 0 0, .slice none 0 0, .int .i64 0, .int .i64 0, .string ⟨#[]⟩, .int .u64 0, .slice none 0 0, .slice none 0 0, .slice none 0 0, .slice none 0 0]
theorem results_cell_tmp {P : Program} {fn : Func} {p q : Tmp} {ty : TypeId} (h : fn.results = #[.cell p ty, .tmp q]) (tmps : Array Value) (w : World) (g : Nat) (t : TypeId) (cs : Array Value) (fr : Nat × Nat) (d : TypeDesc)
    (v : Value) (hv : tmps.getD q undef = v) (hp : tmps.getD p undef = .pointer (some ⟨g, 0, none⟩)) (hg : w.heap[g]? = some (.cells cs t fr))
    (hu : P.underlying ty = some d) (hd : (match d with | .struct _ | .array _ _ => true | _ => false) = true) (hi : (P.info? ty).map (·.size) = some cs.size) :
    (results fn tmps).run P w = .ok (.tuple #[.agg cs, v]) w := by
  subst hv
  have hp' : tmps[p]?.getD undef = .pointer (some ⟨g, 0, none⟩) := by simpa using hp
  simp [results, h, hp', asAddr, run_loadVar_row w g t ty cs fr d hg hu hd hi]
set_option maxRecDepth 100000 in
set_option maxHeartbeats 1600000 in
theorem block_zero (o : Nat) (x : Int) (w : World) (h : NoMem w o) (x0 : 0 ≤ x) (x1 : x ≤ 18446744073709551615) : Calls Try.prog 13 #[.pointer (some ⟨o, 0, none⟩), .int .u64 x] w fun e w' => e = .returned (.tuple #[.agg zbA, .bool false]) ∧ Below w.heap.size w w' := by
  have hb0 : Below w.heap.size w (w.alloc (.cells zbA 35)) := by (repeat (first | exact Below.refl _ _ | assumption | refine below_alloc2 ?_ (by first | exact Nat.le_refl _ | omega) _ | refine Below.drew ?_ | refine below_drewN ?_ _ | refine below_push2 ?_ ‹_› (by first | exact Nat.le_refl _ | omega) | refine Below.setCell ?_ (by first | (simp; done) | (simp; omega) | omega) _))
  go_enter Try.func13, Try.ntmps13
  go_wp2_with fail
  refine (named_zero _ _ _ (h.below hb0) x0 x1).mono ?_
  rintro e w1 ⟨rfl, hb1⟩
  have hB1 := below_push2 hb0 hb1 (Nat.le_refl _)
  have BR := (Blk.new w zbA 35).below hb1
  go_wp2_with (refine wpList_store_row rfl 35 _ _ rfl w.heap.size _ rfl rfl 35 _ BR.h (by kernel_rfl) (by rfl) (by kernel_rfl) ?_)
  refine bodyPost_ret (v := .tuple #[.agg zbA, .bool false]) (results_cell_tmp rfl _ _ w.heap.size 35 zbA (0, 0) _ (.bool false) rfl rfl (Blk.row BR zbA).h Try.underlying35 rfl (by kernel_rfl)) rfl ⟨rfl, below_setRow hB1 (by omega) _⟩
set_option maxHeartbeats 800000 in
theorem haz_zero (o : Nat) (w : World) (h : NoMem w o) : Calls Try.prog 19 #[.pointer (some ⟨o, 0, none⟩), .int .i64 0, .int .i64 0] w fun e w' => e = .returned (.int .i64 (-1)) ∧ w = w' := by
  go_enter Try.func19, Try.ntmps19
  go_wp2_with fail
  refine (threads_zero _ _ h).mono ?_
  rintro e w2 ⟨rfl, rfl⟩
  go_wp2_with fail
  go_ret
  exact ⟨rfl, rfl⟩
end Go.Proofs.Ytpempcefgfmniaa.MemP

/-
  Who is ahead, which phase is behind others: plain laws.
-/
namespace Go.Proofs.Ytpempcefgfmniaa.GateP
open RefP
set_option linter.unusedVariables false
set_option linter.unusedSimpArgs false

def maxL (xs : List Int) : Int := xs.foldl max 0
def afterI (xs : List Int) : Int := if maxL xs = 18446744073709551615 then maxL xs else maxL xs + 1

theorem maxL_snoc (xs : List Int) (k : Nat) (h : k < xs.length) : maxL (xs.take (k + 1)) = max (maxL (xs.take k)) (at0 xs k) := by
  unfold maxL
  rw [take_succ_at0 xs k h, List.foldl_append]; rfl
theorem foldl_max_ge (xs : List Int) : ∀ a : Int, a ≤ xs.foldl max a := by
  induction xs with
  | nil => intro a; exact Int.le_refl _
  | cons x xs ih => intro a; exact Int.le_trans (Int.le_max_left a x) (ih (max a x))
theorem foldl_max_mem (xs : List Int) : ∀ a : Int, ∀ x ∈ xs, x ≤ xs.foldl max a := by
  induction xs with
  | nil => intro a x h; cases h
  | cons y ys ih =>
    intro a x h
    rcases List.mem_cons.1 h with rfl | h
    · exact Int.le_trans (Int.le_max_right a x) (foldl_max_ge ys _)
    · exact ih _ x h
theorem foldl_max_le (xs : List Int) (m : Int) : ∀ a : Int, a ≤ m → (∀ x ∈ xs, x ≤ m) → xs.foldl max a ≤ m := by
  induction xs with
  | nil => intro a h _; exact h
  | cons y ys ih =>
    intro a h k
    exact ih _ (Int.max_le.2 ⟨h, k y (by simp)⟩) (fun x hx => k x (by simp [hx]))
theorem maxL_lo (xs : List Int) : 0 ≤ maxL xs := foldl_max_ge xs 0
theorem maxL_hi (xs : List Int) (h : ∀ x ∈ xs, 0 ≤ x ∧ x ≤ 18446744073709551615) : maxL xs ≤ 18446744073709551615 := foldl_max_le xs _ 0 (by omega) (fun x hx => (h x hx).2)
theorem maxL_take_hi (xs : List Int) (k : Nat) (h : ∀ x ∈ xs, 0 ≤ x ∧ x ≤ 18446744073709551615) : maxL (xs.take k) ≤ 18446744073709551615 := maxL_hi _ (fun x hx => h x (List.mem_of_mem_take hx))
theorem maxL_mem (xs : List Int) (x : Int) (h : x ∈ xs) : x ≤ maxL xs := foldl_max_mem xs 0 x h

/-- is one ahead of another? -/
def aheadB (t p u q : Int) : Bool := decide (p < q ∨ p = q ∧ t < u)

def ahead (a b : Int × Int) : Bool := aheadB a.1 a.2 b.1 b.2
theorem ahead_iff (a b : Int × Int) : ahead a b = true ↔ (a.2 < b.2 ∨ a.2 = b.2 ∧ a.1 < b.1) := by simp [ahead, aheadB]
theorem ahead_no (a b : Int × Int) : ahead a b = false ↔ ¬ (a.2 < b.2 ∨ a.2 = b.2 ∧ a.1 < b.1) := by rw [← ahead_iff]; simp
theorem ahead_irrefl (a : Int × Int) : ahead a a = false := by rw [ahead_no]; omega
theorem ahead_eq {a b : Int × Int} (h : ahead a b = false) (k : ahead b a = false) : a = b := by
  rw [ahead_no] at h k
  exact Prod.ext (by omega) (by omega)

/-- who is first so far -/
def pick (b c : Int × Int) : Int × Int := if ahead c b = true then c else b
def bestTo (l : List (Int × Int)) (k : Nat) : Int × Int := (l.take k).foldl pick (at2 l 0)
theorem bestTo_zero (l : List (Int × Int)) : bestTo l 0 = at2 l 0 := rfl
theorem bestTo_succ (l : List (Int × Int)) (k : Nat) (h : k < l.length) : bestTo l (k + 1) = pick (bestTo l k) (at2 l k) := by
  unfold bestTo
  rw [take_succ_at2 l k h, List.foldl_append]; rfl
theorem bestTo_mem (l : List (Int × Int)) (h : 0 < l.length) : ∀ k, k ≤ l.length → bestTo l k ∈ l := by
  intro k
  induction k with
  | zero => intro _; exact at2_mem l 0 h
  | succ k ih =>
    intro hk
    rw [bestTo_succ l k (by omega)]
    unfold pick
    split
    · exact at2_mem l k (by omega)
    · exact ih (by omega)
theorem bestTo_min (l : List (Int × Int)) : ∀ k, k ≤ l.length → ∀ i, i < k → ahead (at2 l i) (bestTo l k) = false := by
  intro k
  induction k with
  | zero => intro _ i hi; omega
  | succ k ih =>
    intro hk i hi
    rw [bestTo_succ l k (by omega)]
    unfold pick
    by_cases c : ahead (at2 l k) (bestTo l k) = true
    · rw [if_pos c]
      by_cases e : i = k
      · subst e; exact ahead_irrefl _
      · have h1 := ih (by omega) i (by omega)
        rw [ahead_no] at h1 ⊢
        rw [ahead_iff] at c
        omega
    · rw [if_neg c]
      by_cases e : i = k
      · subst e; simpa using c
      · exact ih (by omega) i (by omega)
def firstT (l : List (Int × Int)) : Int := if l.length = 0 then 0 else (bestTo l l.length).1
def firstB (l : List (Int × Int)) : Bool := !(l.length == 0)
end Go.Proofs.Ytpempcefgfmniaa.GateP

/-
  gate.After, gate.Ahead and the document's: contracts.
-/
namespace Go.Proofs.Ytpempcefgfmniaa.GateP
open Go.RowKit RefP
set_option linter.unusedVariables false
set_option linter.unusedSimpArgs false
theorem ret_after {xs : List Int} : Hid (maxL xs = 18446744073709551615 → afterI xs = maxL xs) ∧ Hid (maxL xs ≠ 18446744073709551615 → afterI xs = maxL xs + 1) :=
  ⟨fun h => if_pos h, fun h => if_neg h⟩
theorem aheadB_def (t p u q : Int) : aheadB t p u q = decide (p < q ∨ p = q ∧ t < u) := rfl
end Go.Proofs.Ytpempcefgfmniaa.GateP

/-
  gate.First: contract. The example of chapter 32 is true.
-/
namespace Go.Proofs.Ytpempcefgfmniaa.GateP
open Go.RowKit RefP
set_option linter.unusedVariables false
set_option linter.unusedSimpArgs false

theorem ret_ib {a b : Int} {x y : Bool} (h : a = b) (k : x = y) : Ending.returned (.tuple #[.int .i64 a, .bool x]) = .returned (.tuple #[.int .i64 b, .bool y]) := by rw [h, k]
end Go.Proofs.Ytpempcefgfmniaa.GateP

/-
  Choosing: the task as a plain thing; what stays where a world changes above a base.
-/
namespace Go.Proofs.Ytpempcefgfmniaa.MemP
open Go.RowKit RefP CellP GateP
set_option linter.unusedVariables false
set_option linter.unusedSimpArgs false
theorem OwnR.heap {α : Type} {k : Nat} {f : α → Nat → Value} {d : α} {w w' : World} {base : Nat} {e : TypeId} {a : Option Addr} {c : Nat} {l : List α} (h : OwnR k f d w base e a c l) (hk : ∀ g, (Value.slice a l.length c).ownBlock = some g → w'.heap[g]? = w.heap[g]?) : OwnR k f d w' base e a c l := by
  refine ⟨⟨h.own.1, ?_⟩⟩
  rcases h.own.2 with q | ⟨g, cap, cur, e', hg, hh, r⟩
  · exact .inl q
  · refine .inr ⟨g, cap, cur, e', hg, ?_, r⟩
    rw [hk g (by rw [e']; rfl)]; exact hh
theorem OwnR.fr {α : Type} {k : Nat} {f : α → Nat → Value} {d : α} {w w' : World} {S : List Nat} {base : Nat} {e : TypeId} {a : Option Addr} {c : Nat} {l : List α} (h : OwnR k f d w base e a c l) (F : Fr S w w') (hS : ∀ g ∈ S, g < base) : OwnR k f d w' base e a c l :=
  OwnR.heap h fun g hg => F.block g (OwnR.lt h g hg).2 (fun hm => by have := hS g hm; have := (OwnR.lt h g hg).1; omega)
/-- a memory that lies below a base -/
structure MemB (w : World) (base o oc g gb gr A T : Nat) (L : List (Int × Int)) (bs rs : List (List Value)) : Prop where
  m : MemAt w o oc g gb gr A T L bs rs
  lo : o < base ∧ oc < base ∧ g < base ∧ gb < base ∧ gr < base
theorem MemB.below {w w' : World} {base o oc g gb gr A T : Nat} {L : List (Int × Int)} {bs rs : List (List Value)} (h : MemB w base o oc g gb gr A T L bs rs) (hb : Below base w w') (hs : base ≤ w.heap.size) : MemB w' base o oc g gb gr A T L bs rs := by
  have F : ∀ b, b < base → w'.heap[b]? = w.heap[b]? := hb.block
  have n := h.lo
  refine ⟨⟨⟨(F _ n.1).trans h.m.head.h⟩, ⟨⟨(F _ n.2.1).trans h.m.cells.head.h⟩, ⟨(F _ n.2.2.1).trans h.m.cells.rows.h⟩, h.m.cells.ne, h.m.cells.rng, h.m.cells.len⟩, ⟨(F _ n.2.2.2.1).trans h.m.blocks.h⟩, ⟨(F _ n.2.2.2.2).trans h.m.records.h⟩, h.m.len, h.m.lb, h.m.lr, h.m.a1, h.m.t1, h.m.ne⟩, n⟩
theorem MemB.under {w w' : World} {base o oc g gb gr A T : Nat} {L : List (Int × Int)} {bs rs : List (List Value)} (h : MemB w base o oc g gb gr A T L bs rs) (hb : Below w.heap.size w w') : MemB w' base o oc g gb gr A T L bs rs := ⟨h.m.below hb, h.lo⟩
/-- where choosing is -/
structure CS where
  th : Nat
  at_ : Nat
  ver : Int
  done : Int
  ph : Int
  L : List (Int × Int)
structure CS.Ok (s : CS) : Prop where
  th : s.th ≤ 16
  at_ : s.at_ ≤ 3
  ver : 0 ≤ s.ver ∧ s.ver ≤ 18446744073709551615
  done : 0 ≤ s.done ∧ s.done ≤ 18446744073709551615
  ph : 0 ≤ s.ph ∧ s.ph ≤ 18446744073709551615
  L : ∀ x ∈ s.L, (0 ≤ x.1 ∧ x.1 ≤ 16) ∧ 0 ≤ x.2 ∧ x.2 ≤ 18446744073709551615
  len : s.L.length ≤ s.th
/-- an access's reply is told: word and version -/
def CS.tell (s : CS) (x v : Int) : CS :=
  match s.at_ with
  | 0 => if x = 0 then { s with ver := v, th := s.th + 1 } else { s with ver := v, at_ := 1 }
  | 1 => { s with done := x, at_ := 2 }
  | 2 => { s with ph := x, at_ := 3 }
  | _ => { s with L := if v = s.ver ∧ s.done = 0 then s.L ++ [((s.th : Int), s.ph)] else s.L, th := s.th + 1, at_ := 0 }
theorem CS.Ok.tell {s : CS} (h : s.Ok) (x v : Int) (hT : s.th < 16) (hx : 0 ≤ x ∧ x ≤ 18446744073709551615) (hv : 0 ≤ v ∧ v ≤ 18446744073709551615) : (s.tell x v).Ok := by
  have hl := h.len
  have ha := h.at_
  unfold CS.tell
  split
  · split
    · exact ⟨by show s.th + 1 ≤ 16; omega, h.at_, hv, h.done, h.ph, h.L, by show s.L.length ≤ s.th + 1; omega⟩
    · exact ⟨h.th, (by decide : 1 ≤ 3), hv, h.done, h.ph, h.L, h.len⟩
  · exact ⟨h.th, (by decide : 2 ≤ 3), h.ver, hx, h.ph, h.L, h.len⟩
  · exact ⟨h.th, (by decide : 3 ≤ 3), h.ver, h.done, hx, h.L, h.len⟩
  · refine ⟨(by omega : s.th + 1 ≤ 16), (by decide : 0 ≤ 3), h.ver, h.done, h.ph, ?_, ?_⟩
    · intro y hy
      try simp only at hy
      split at hy
      · rcases List.mem_append.1 hy with hy | hy
        · exact h.L y hy
        · rw [List.mem_singleton.1 hy]; exact ⟨⟨(by omega : (0:Int) ≤ (s.th : Int)), (by omega : (s.th : Int) ≤ 16)⟩, h.ph⟩
      · exact h.L y hy
    · show (if v = s.ver ∧ s.done = 0 then s.L ++ [((s.th : Int), s.ph)] else s.L).length ≤ s.th + 1
      split
      · simp; omega
      · omega
/-- the cell of its next access -/
def CS.cell (s : CS) (A T : Nat) : Int := match s.at_ with
  | 1 => atI A T 3 s.th
  | 2 => atI A T 4 s.th
  | _ => atI A T 2 s.th
abbrev candG (x : Int × Int) (j : Nat) : Value := if j = 0 then .int .i64 x.1 else .int .u64 x.2
abbrev taskA (o : Nat) (s : CS) (a : Option Addr) (c : Nat) : Array Value := #[.pointer (some ⟨o, 0, none⟩), .int .i64 s.th, .int .i64 s.at_, .int .u64 s.ver, .int .u64 s.done, .int .u64 s.ph, .slice a s.L.length c]
end Go.Proofs.Ytpempcefgfmniaa.MemP

/-
  bowerref26.New: contract: the two numbers, and some rows.
-/
namespace Go.Proofs.Ytpempcefgfmniaa.MemP
open Go.RowKit RefP CellP
set_option linter.unusedVariables false
set_option linter.unusedSimpArgs false
theorem infoCellD : (Try.prog.info? 76).map (fun i => (i.zero, i.size, i.bytes)) = some (some (.agg #[.int .u64 0, .int .u64 0]), 2, 16) := by kernel_rfl
abbrev cellG (x : Int) (j : Nat) : Value := if j = 0 then .int .u64 x else .int .u64 0
abbrev blkG (_ : Unit) (j : Nat) : Value := zb.getD j (.int .i64 0)
abbrev opG (_ : Unit) (j : Nat) : Value := zo.getD j (.int .i64 0)
theorem addCell {w : World} (base : Nat) {a : Option Addr} {c : Nat} {l : List Int} (h : OwnR 2 cellG 0 w base 76 a c l) {b : Nat} (x : Int) (B : Blk w b #[.int .u64 x, .int .u64 0] 76) (hn : l.length + 1 ≤ 60000) (hbase : base ≤ w.heap.size) :
    ∃ g cap w', AddedR Try.prog 2 cellG 0 w base 67 76 a c l (.slice (some ⟨b, 0, none⟩) 1 1) 1 (l ++ [x]) g cap w' := by
  obtain ⟨i0, hi, hz0, hz1, hz2⟩ := info_parts' infoCellD
  have two : ∀ j, j < 2 → j = 0 ∨ j = 1 := by omega
  have hx : RecS 2 cellG 0 w (some ⟨b, 0, none⟩) [x] := rec_lit B x (fun j hj => by rcases two j hj with e | e <;> subst e <;> rfl)
  exact addRecs base _ _ i0 _ 16 Try.underlying67 hi hz0 hz1 hz2 (by simp [Value.cells]) (by omega) (fun _ j hj => by rcases two j hj with e | e <;> subst e <;> rfl) h hx (by simp) (by simp [maxLen]; omega) (by simp; omega) hbase
theorem addBlk {w : World} (base : Nat) {a : Option Addr} {c : Nat} {l : List Unit} (h : OwnR 17 blkG () w base 35 a c l) {b : Nat} (B : Blk w b zb.toArray 35) (hn : l.length + 1 ≤ 60000) (hbase : base ≤ w.heap.size) :
    ∃ g cap w', AddedR Try.prog 17 blkG () w base 45 35 a c l (.slice (some ⟨b, 0, none⟩) 1 1) 1 (l ++ [()]) g cap w' := by
  obtain ⟨i0, hi, hz0, hz1, hz2⟩ := info_parts' infoBlock
  have hx : RecS 17 blkG () w (some ⟨b, 0, none⟩) [()] := rec_lit B () (fun j hj => by rcases lt17 hj with e | e | e | e | e | e | e | e | e | e | e | e | e | e | e | e | e <;> subst e <;> rfl)
  exact addRecs base _ _ i0 _ 272 Try.underlying45 hi hz0 hz1 hz2 (by simp [Value.cells]) (by omega) (fun _ j hj => by rcases lt17 hj with e | e | e | e | e | e | e | e | e | e | e | e | e | e | e | e | e <;> subst e <;> rfl) h hx (by simp) (by simp [maxLen]; omega) (by simp; omega) hbase
theorem addOp {w : World} (base : Nat) {a : Option Addr} {c : Nat} {l : List Unit} (h : OwnR 5 opG () w base 37 a c l) {b : Nat} (B : Blk w b zo.toArray 37) (hn : l.length + 1 ≤ 60000) (hbase : base ≤ w.heap.size) :
    ∃ g cap w', AddedR Try.prog 5 opG () w base 46 37 a c l (.slice (some ⟨b, 0, none⟩) 1 1) 1 (l ++ [()]) g cap w' := by
  obtain ⟨i0, hi, hz0, hz1, hz2⟩ := info_parts' infoOp
  have five : ∀ j, j < 5 → j = 0 ∨ j = 1 ∨ j = 2 ∨ j = 3 ∨ j = 4 := by omega
  have hx : RecS 5 opG () w (some ⟨b, 0, none⟩) [()] := rec_lit B () (fun j hj => by rcases five j hj with e | e | e | e | e <;> subst e <;> rfl)
  exact addRecs base _ _ i0 _ 56 Try.underlying46 hi hz0 hz1 hz2 (by simp [Value.cells]) (by omega) (fun _ j hj => by rcases five j hj with e | e | e | e | e <;> subst e <;> rfl) h hx (by simp) (by simp [maxLen]; omega) (by simp; omega) hbase
/-- own blocks are other ones -/
def Ne2 (v u : Value) : Prop := ∀ q q', v.ownBlock = some q → u.ownBlock = some q' → q ≠ q'
theorem Ne2.kept {v u : Value} (h : Ne2 v u) : u.ownBlock = none ∨ u.ownBlock ≠ v.ownBlock := by
  cases hu : u.ownBlock with
  | none => exact .inl rfl
  | some q => exact .inr (fun e => h q q e.symm hu rfl)
theorem Ne2.symm {v u : Value} (h : Ne2 v u) : Ne2 u v := fun q q' a b e => h q' q b a e.symm
theorem Ne2.grow {v u : Value} {g n c m : Nat} (h : Ne2 v u) (hat : v.ownBlock = some g ∨ g = m) (hu : ∀ q, u.ownBlock = some q → q < m) : Ne2 (.slice (some ⟨g, 0, none⟩) n c) u := by
  intro q q' hq hq' e
  simp only [Value.ownBlock, Option.some.injEq] at hq
  subst hq
  rcases hat with k | k
  · exact h _ _ k hq' e
  · have := hu q' hq'; omega
abbrev dmemA (A T : Int) (a1 : Option Addr) (n1 c1 : Nat) (a2 : Option Addr) (n2 c2 : Nat) (a3 : Option Addr) (n3 c3 : Nat) : Array Value := #[.int .i64 A, .int .i64 T, .slice a1 n1 c1, .slice a2 n2 c2, .slice a3 n3 c3]
/-- while it is made -/
structure DN (w0 : World) (A T : Nat) (a1 : Option Addr) (c1 : Nat) (l1 : List Int) (a2 : Option Addr) (c2 : Nat) (l2 : List Unit) (a3 : Option Addr) (c3 : Nat) (l3 : List Unit) (wr : World) : Prop where
  b : Below w0.heap.size w0 wr
  z : Blk wr w0.heap.size (dmemA 0 0 none 0 0 none 0 0 none 0 0) 69
  m : Blk wr (w0.heap.size + 1) (dmemA A T a1 l1.length c1 a2 l2.length c2 a3 l3.length c3) 69
  o1 : OwnR 2 cellG 0 wr (w0.heap.size + 2) 76 a1 c1 l1
  o2 : OwnR 17 blkG () wr (w0.heap.size + 2) 35 a2 c2 l2
  o3 : OwnR 5 opG () wr (w0.heap.size + 2) 37 a3 c3 l3
  n12 : Ne2 (.slice a1 l1.length c1) (.slice a2 l2.length c2)
  n13 : Ne2 (.slice a1 l1.length c1) (.slice a3 l3.length c3)
  n23 : Ne2 (.slice a2 l2.length c2) (.slice a3 l3.length c3)
theorem DN.below {w0 : World} {A T : Nat} {a1 : Option Addr} {c1 : Nat} {l1 : List Int} {a2 : Option Addr} {c2 : Nat} {l2 : List Unit} {a3 : Option Addr} {c3 : Nat} {l3 : List Unit} {wr wx : World} (h : DN w0 A T a1 c1 l1 a2 c2 l2 a3 c3 l3 wr) (hb : Below wr.heap.size wr wx) : DN w0 A T a1 c1 l1 a2 c2 l2 a3 c3 l3 wx :=
  ⟨below_push2 h.b hb (Nat.le_refl _), h.z.below hb, h.m.below hb, OwnR.below h.o1 hb, OwnR.below h.o2 hb, OwnR.below h.o3 hb, h.n12, h.n13, h.n23⟩
theorem DN.add1 {w0 : World} {A T : Nat} {a1 : Option Addr} {c1 : Nat} {l1 : List Int} {a2 : Option Addr} {c2 : Nat} {l2 : List Unit} {a3 : Option Addr} {c3 : Nat} {l3 : List Unit} {wr : World} (h : DN w0 A T a1 c1 l1 a2 c2 l2 a3 c3 l3 wr) {x : Int} {v : Value} {g' cap : Nat} {w' : World}
    (K : AddedR Try.prog 2 cellG 0 wr (w0.heap.size + 2) 67 76 a1 c1 l1 v 1 (l1 ++ [x]) g' cap w') : DN w0 A T (some ⟨g', 0, none⟩) cap (l1 ++ [x]) a2 c2 l2 a3 c3 l3 (w'.setCell ⟨w0.heap.size + 1, 2, none⟩ (.slice (some ⟨g', 0, none⟩) (l1.length + 1) cap)) := by
  have hgr := K.grown
  have hlt := fun q e => (OwnR.lt h.o1 q e).1
  have hF : Fr [w0.heap.size + 1] w' (w'.setCell ⟨w0.heap.size + 1, 2, none⟩ (.slice (some ⟨g', 0, none⟩) (l1.length + 1) cap)) := (Fr.refl _ _).set _ _ (.inl (by simp))
  have hge := K.ge
  have hs := h.z.lt
  have hs2 := h.m.lt
  have B' := h.m.grown hgr (fun e => by have := hlt _ e.symm; omega)
  have Z' := h.z.grown hgr (fun e => by have := hlt _ e.symm; omega)
  have hown : OwnR 2 cellG 0 (w'.setCell ⟨w0.heap.size + 1, 2, none⟩ (.slice (some ⟨g', 0, none⟩) (l1.length + 1) cap)) (w0.heap.size + 2) 76 (some ⟨g', 0, none⟩) cap (l1 ++ [x]) := OwnR.heap K.own fun q hq => hF.block q (OwnR.lt K.own q hq).2 (by have := (OwnR.lt K.own q hq).1; simp; omega)
  have hb' : Below w0.heap.size w0 w' := K.keeps hlt w0 _ (by omega) h.b (by omega)
  have hat := K.at'
  have k2 := OwnR.kept h.o2 hgr h.n12.kept
  have k3 := OwnR.kept h.o3 hgr h.n13.kept
  have m2 := OwnR.heap k2 fun q hq => hF.block q (OwnR.lt k2 q hq).2 (by have := (OwnR.lt k2 q hq).1; simp; omega)
  have m3 := OwnR.heap k3 fun q hq => hF.block q (OwnR.lt k3 q hq).2 (by have := (OwnR.lt k3 q hq).1; simp; omega)
  refine ⟨hb'.setCell (by show w0.heap.size ≤ w0.heap.size + 1; omega) _, hF.blk Z' (by simp), ?_, hown, m2, m3, h.n12.grow hat (fun q e => (OwnR.lt h.o2 q e).2), h.n13.grow hat (fun q e => (OwnR.lt h.o3 q e).2), h.n23⟩
  have := B'.set 2 (.slice (some ⟨g', 0, none⟩) (l1.length + 1) cap)
  simpa [dmemA] using this
theorem DN.add2 {w0 : World} {A T : Nat} {a1 : Option Addr} {c1 : Nat} {l1 : List Int} {a2 : Option Addr} {c2 : Nat} {l2 : List Unit} {a3 : Option Addr} {c3 : Nat} {l3 : List Unit} {wr : World} (h : DN w0 A T a1 c1 l1 a2 c2 l2 a3 c3 l3 wr) {x : Unit} {v : Value} {g' cap : Nat} {w' : World}
    (K : AddedR Try.prog 17 blkG () wr (w0.heap.size + 2) 45 35 a2 c2 l2 v 1 (l2 ++ [x]) g' cap w') : DN w0 A T a1 c1 l1 (some ⟨g', 0, none⟩) cap (l2 ++ [x]) a3 c3 l3 (w'.setCell ⟨w0.heap.size + 1, 3, none⟩ (.slice (some ⟨g', 0, none⟩) (l2.length + 1) cap)) := by
  have hgr := K.grown
  have hlt := fun q e => (OwnR.lt h.o2 q e).1
  have hF : Fr [w0.heap.size + 1] w' (w'.setCell ⟨w0.heap.size + 1, 3, none⟩ (.slice (some ⟨g', 0, none⟩) (l2.length + 1) cap)) := (Fr.refl _ _).set _ _ (.inl (by simp))
  have hge := K.ge
  have hs := h.z.lt
  have hs2 := h.m.lt
  have B' := h.m.grown hgr (fun e => by have := hlt _ e.symm; omega)
  have Z' := h.z.grown hgr (fun e => by have := hlt _ e.symm; omega)
  have hown : OwnR 17 blkG () (w'.setCell ⟨w0.heap.size + 1, 3, none⟩ (.slice (some ⟨g', 0, none⟩) (l2.length + 1) cap)) (w0.heap.size + 2) 35 (some ⟨g', 0, none⟩) cap (l2 ++ [x]) := OwnR.heap K.own fun q hq => hF.block q (OwnR.lt K.own q hq).2 (by have := (OwnR.lt K.own q hq).1; simp; omega)
  have hb' : Below w0.heap.size w0 w' := K.keeps hlt w0 _ (by omega) h.b (by omega)
  have hat := K.at'
  have k1 := OwnR.kept h.o1 hgr h.n12.symm.kept
  have k3 := OwnR.kept h.o3 hgr h.n23.kept
  have m1 := OwnR.heap k1 fun q hq => hF.block q (OwnR.lt k1 q hq).2 (by have := (OwnR.lt k1 q hq).1; simp; omega)
  have m3 := OwnR.heap k3 fun q hq => hF.block q (OwnR.lt k3 q hq).2 (by have := (OwnR.lt k3 q hq).1; simp; omega)
  refine ⟨hb'.setCell (by show w0.heap.size ≤ w0.heap.size + 1; omega) _, hF.blk Z' (by simp), ?_, m1, hown, m3, (h.n12.symm.grow hat (fun q e => (OwnR.lt h.o1 q e).2)).symm, h.n13, h.n23.grow hat (fun q e => (OwnR.lt h.o3 q e).2)⟩
  have := B'.set 3 (.slice (some ⟨g', 0, none⟩) (l2.length + 1) cap)
  simpa [dmemA] using this
theorem DN.add3 {w0 : World} {A T : Nat} {a1 : Option Addr} {c1 : Nat} {l1 : List Int} {a2 : Option Addr} {c2 : Nat} {l2 : List Unit} {a3 : Option Addr} {c3 : Nat} {l3 : List Unit} {wr : World} (h : DN w0 A T a1 c1 l1 a2 c2 l2 a3 c3 l3 wr) {x : Unit} {v : Value} {g' cap : Nat} {w' : World}
    (K : AddedR Try.prog 5 opG () wr (w0.heap.size + 2) 46 37 a3 c3 l3 v 1 (l3 ++ [x]) g' cap w') : DN w0 A T a1 c1 l1 a2 c2 l2 (some ⟨g', 0, none⟩) cap (l3 ++ [x]) (w'.setCell ⟨w0.heap.size + 1, 4, none⟩ (.slice (some ⟨g', 0, none⟩) (l3.length + 1) cap)) := by
  have hgr := K.grown
  have hlt := fun q e => (OwnR.lt h.o3 q e).1
  have hF : Fr [w0.heap.size + 1] w' (w'.setCell ⟨w0.heap.size + 1, 4, none⟩ (.slice (some ⟨g', 0, none⟩) (l3.length + 1) cap)) := (Fr.refl _ _).set _ _ (.inl (by simp))
  have hge := K.ge
  have hs := h.z.lt
  have hs2 := h.m.lt
  have B' := h.m.grown hgr (fun e => by have := hlt _ e.symm; omega)
  have Z' := h.z.grown hgr (fun e => by have := hlt _ e.symm; omega)
  have hown : OwnR 5 opG () (w'.setCell ⟨w0.heap.size + 1, 4, none⟩ (.slice (some ⟨g', 0, none⟩) (l3.length + 1) cap)) (w0.heap.size + 2) 37 (some ⟨g', 0, none⟩) cap (l3 ++ [x]) := OwnR.heap K.own fun q hq => hF.block q (OwnR.lt K.own q hq).2 (by have := (OwnR.lt K.own q hq).1; simp; omega)
  have hb' : Below w0.heap.size w0 w' := K.keeps hlt w0 _ (by omega) h.b (by omega)
  have hat := K.at'
  have k1 := OwnR.kept h.o1 hgr h.n13.symm.kept
  have k2 := OwnR.kept h.o2 hgr h.n23.symm.kept
  have m1 := OwnR.heap k1 fun q hq => hF.block q (OwnR.lt k1 q hq).2 (by have := (OwnR.lt k1 q hq).1; simp; omega)
  have m2 := OwnR.heap k2 fun q hq => hF.block q (OwnR.lt k2 q hq).2 (by have := (OwnR.lt k2 q hq).1; simp; omega)
  refine ⟨hb'.setCell (by show w0.heap.size ≤ w0.heap.size + 1; omega) _, hF.blk Z' (by simp), ?_, m1, m2, hown, h.n12, (h.n13.symm.grow hat (fun q e => (OwnR.lt h.o1 q e).2)).symm, (h.n23.symm.grow hat (fun q e => (OwnR.lt h.o2 q e).2)).symm⟩
  have := B'.set 4 (.slice (some ⟨g', 0, none⟩) (l3.length + 1) cap)
  simpa [dmemA] using this
end Go.Proofs.Ytpempcefgfmniaa.MemP

/-
  memory: where cells lie: contracts that tell the world that is left (so many draws behind).
-/
namespace Go.Proofs.Ytpempcefgfmniaa.MemP
open Go.RowKit RefP CellP
set_option linter.unusedVariables false
set_option linter.unusedSimpArgs false
set_option maxRecDepth 100000 in
set_option maxHeartbeats 3200000 in
theorem atx_0 {o oc g gb gr A T : Nat} {L : List (Int × Int)} {bs rs : List (List Value)} (i : Int) (w : World) (h : MemAt w o oc g gb gr A T L bs rs) (i0 : -9223372036854775808 ≤ i) (i1 : i ≤ 9223372036854775807) :
    Calls Try.prog 52 #[.pointer (some ⟨o, 0, none⟩), .int .i64 0, .int .i64 i] w fun e w' => e = .returned (.int .i64 (atI A T 0 i)) ∧ ∃ n, w' = w.drewN n := by
  have c1 : w.cell? ⟨o, 1, none⟩ = some (.int .i64 (fromI A T 0)) := h.head.at 1 rfl
  have c2 : w.cell? ⟨o, 2, none⟩ = some (.int .i64 (fromI A T 1)) := h.head.at 2 rfl
  have e1 := from_succ A T 0 (by omega)
  have e2 := from_rng A T 0 h.a1.2 h.t1.2
  have e3 := size_rng A T 0 h.a1.2 h.t1.2
  simp only [Nat.reduceAdd] at e1
  have hw : IntKind.i64.wrap (fromI A T 1 - fromI A T 0) = sizeI A T 0 := by rw [IntKind.wrap_i64]; omega
  have hk : IntKind.i64.wrap 1 = 1 := by rw [IntKind.wrap_i64]; rfl
  clear e1
  by_cases hn : i < 0
  · have q1 : decide (i < 0) = true := by simpa using hn
    have hR : Hid (atI A T 0 i = -1) := atI_no (by omega)
    clear hn
    go_enter Try.func52, Try.ntmps52
    go_wp2_with fail
    go_quiet (exact Calls.quiet_of_same ((none_any _ (h.drewN _)).flip))
    go_wp2_with fail
    go_ret
    exact ⟨ret_int hR.out.symm, _, rfl⟩
  · have q1 : decide (i < 0) = false := by simpa using hn
    by_cases hm : sizeI A T 0 ≤ i
    · have q2 : decide (sizeI A T 0 ≤ i) = true := by simpa using hm
      have hR : Hid (atI A T 0 i = -1) := atI_no (by omega)
      clear hn hm
      go_enter Try.func52, Try.ntmps52
      go_wp2_with fail
      go_quiet (exact Calls.quiet_of_same ((none_any _ (h.drewN _)).flip))
      go_wp2_with fail
      go_ret
      exact ⟨ret_int hR.out.symm, _, rfl⟩
    · have q2 : decide (sizeI A T 0 ≤ i) = false := by simpa using hm
      have hR : Hid (atI A T 0 i = fromI A T 0 + i) := atI_yes (by omega) (by omega)
      have hw3 : IntKind.i64.wrap (fromI A T 0 + i) = fromI A T 0 + i := by rw [IntKind.wrap_i64]; omega
      clear hn hm
      go_enter Try.func52, Try.ntmps52
      go_wp2_with fail
      go_quiet (exact Calls.quiet_of_same ((none_any _ (h.drewN _)).flip))
      go_wp2_with fail
      go_ret
      exact ⟨ret_int hR.out.symm, _, rfl⟩
set_option maxRecDepth 100000 in
set_option maxHeartbeats 3200000 in
theorem atx_1 {o oc g gb gr A T : Nat} {L : List (Int × Int)} {bs rs : List (List Value)} (i : Int) (w : World) (h : MemAt w o oc g gb gr A T L bs rs) (i0 : -9223372036854775808 ≤ i) (i1 : i ≤ 9223372036854775807) :
    Calls Try.prog 52 #[.pointer (some ⟨o, 0, none⟩), .int .i64 1, .int .i64 i] w fun e w' => e = .returned (.int .i64 (atI A T 1 i)) ∧ ∃ n, w' = w.drewN n := by
  have c1 : w.cell? ⟨o, 2, none⟩ = some (.int .i64 (fromI A T 1)) := h.head.at 2 rfl
  have c2 : w.cell? ⟨o, 3, none⟩ = some (.int .i64 (fromI A T 2)) := h.head.at 3 rfl
  have e1 := from_succ A T 1 (by omega)
  have e2 := from_rng A T 1 h.a1.2 h.t1.2
  have e3 := size_rng A T 1 h.a1.2 h.t1.2
  simp only [Nat.reduceAdd] at e1
  have hw : IntKind.i64.wrap (fromI A T 2 - fromI A T 1) = sizeI A T 1 := by rw [IntKind.wrap_i64]; omega
  have hk : IntKind.i64.wrap 2 = 2 := by rw [IntKind.wrap_i64]; rfl
  clear e1
  by_cases hn : i < 0
  · have q1 : decide (i < 0) = true := by simpa using hn
    have hR : Hid (atI A T 1 i = -1) := atI_no (by omega)
    clear hn
    go_enter Try.func52, Try.ntmps52
    go_wp2_with fail
    go_quiet (exact Calls.quiet_of_same ((none_any _ (h.drewN _)).flip))
    go_wp2_with fail
    go_ret
    exact ⟨ret_int hR.out.symm, _, rfl⟩
  · have q1 : decide (i < 0) = false := by simpa using hn
    by_cases hm : sizeI A T 1 ≤ i
    · have q2 : decide (sizeI A T 1 ≤ i) = true := by simpa using hm
      have hR : Hid (atI A T 1 i = -1) := atI_no (by omega)
      clear hn hm
      go_enter Try.func52, Try.ntmps52
      go_wp2_with fail
      go_quiet (exact Calls.quiet_of_same ((none_any _ (h.drewN _)).flip))
      go_wp2_with fail
      go_ret
      exact ⟨ret_int hR.out.symm, _, rfl⟩
    · have q2 : decide (sizeI A T 1 ≤ i) = false := by simpa using hm
      have hR : Hid (atI A T 1 i = fromI A T 1 + i) := atI_yes (by omega) (by omega)
      have hw3 : IntKind.i64.wrap (fromI A T 1 + i) = fromI A T 1 + i := by rw [IntKind.wrap_i64]; omega
      clear hn hm
      go_enter Try.func52, Try.ntmps52
      go_wp2_with fail
      go_quiet (exact Calls.quiet_of_same ((none_any _ (h.drewN _)).flip))
      go_wp2_with fail
      go_ret
      exact ⟨ret_int hR.out.symm, _, rfl⟩
set_option maxRecDepth 100000 in
set_option maxHeartbeats 3200000 in
theorem atx_3 {o oc g gb gr A T : Nat} {L : List (Int × Int)} {bs rs : List (List Value)} (i : Int) (w : World) (h : MemAt w o oc g gb gr A T L bs rs) (i0 : -9223372036854775808 ≤ i) (i1 : i ≤ 9223372036854775807) :
    Calls Try.prog 52 #[.pointer (some ⟨o, 0, none⟩), .int .i64 3, .int .i64 i] w fun e w' => e = .returned (.int .i64 (atI A T 3 i)) ∧ ∃ n, w' = w.drewN n := by
  have c1 : w.cell? ⟨o, 4, none⟩ = some (.int .i64 (fromI A T 3)) := h.head.at 4 rfl
  have c2 : w.cell? ⟨o, 5, none⟩ = some (.int .i64 (fromI A T 4)) := h.head.at 5 rfl
  have e1 := from_succ A T 3 (by omega)
  have e2 := from_rng A T 3 h.a1.2 h.t1.2
  have e3 := size_rng A T 3 h.a1.2 h.t1.2
  simp only [Nat.reduceAdd] at e1
  have hw : IntKind.i64.wrap (fromI A T 4 - fromI A T 3) = sizeI A T 3 := by rw [IntKind.wrap_i64]; omega
  have hk : IntKind.i64.wrap 4 = 4 := by rw [IntKind.wrap_i64]; rfl
  clear e1
  by_cases hn : i < 0
  · have q1 : decide (i < 0) = true := by simpa using hn
    have hR : Hid (atI A T 3 i = -1) := atI_no (by omega)
    clear hn
    go_enter Try.func52, Try.ntmps52
    go_wp2_with fail
    go_quiet (exact Calls.quiet_of_same ((none_any _ (h.drewN _)).flip))
    go_wp2_with fail
    go_ret
    exact ⟨ret_int hR.out.symm, _, rfl⟩
  · have q1 : decide (i < 0) = false := by simpa using hn
    by_cases hm : sizeI A T 3 ≤ i
    · have q2 : decide (sizeI A T 3 ≤ i) = true := by simpa using hm
      have hR : Hid (atI A T 3 i = -1) := atI_no (by omega)
      clear hn hm
      go_enter Try.func52, Try.ntmps52
      go_wp2_with fail
      go_quiet (exact Calls.quiet_of_same ((none_any _ (h.drewN _)).flip))
      go_wp2_with fail
      go_ret
      exact ⟨ret_int hR.out.symm, _, rfl⟩
    · have q2 : decide (sizeI A T 3 ≤ i) = false := by simpa using hm
      have hR : Hid (atI A T 3 i = fromI A T 3 + i) := atI_yes (by omega) (by omega)
      have hw3 : IntKind.i64.wrap (fromI A T 3 + i) = fromI A T 3 + i := by rw [IntKind.wrap_i64]; omega
      clear hn hm
      go_enter Try.func52, Try.ntmps52
      go_wp2_with fail
      go_quiet (exact Calls.quiet_of_same ((none_any _ (h.drewN _)).flip))
      go_wp2_with fail
      go_ret
      exact ⟨ret_int hR.out.symm, _, rfl⟩
set_option maxRecDepth 100000 in
set_option maxHeartbeats 3200000 in
theorem atx_5 {o oc g gb gr A T : Nat} {L : List (Int × Int)} {bs rs : List (List Value)} (i : Int) (w : World) (h : MemAt w o oc g gb gr A T L bs rs) (i0 : -9223372036854775808 ≤ i) (i1 : i ≤ 9223372036854775807) :
    Calls Try.prog 52 #[.pointer (some ⟨o, 0, none⟩), .int .i64 5, .int .i64 i] w fun e w' => e = .returned (.int .i64 (atI A T 5 i)) ∧ ∃ n, w' = w.drewN n := by
  have c1 : w.cell? ⟨o, 6, none⟩ = some (.int .i64 (fromI A T 5)) := h.head.at 6 rfl
  have c2 : w.cell? ⟨o, 7, none⟩ = some (.int .i64 (fromI A T 6)) := h.head.at 7 rfl
  have e1 := from_succ A T 5 (by omega)
  have e2 := from_rng A T 5 h.a1.2 h.t1.2
  have e3 := size_rng A T 5 h.a1.2 h.t1.2
  simp only [Nat.reduceAdd] at e1
  have hw : IntKind.i64.wrap (fromI A T 6 - fromI A T 5) = sizeI A T 5 := by rw [IntKind.wrap_i64]; omega
  have hk : IntKind.i64.wrap 6 = 6 := by rw [IntKind.wrap_i64]; rfl
  clear e1
  by_cases hn : i < 0
  · have q1 : decide (i < 0) = true := by simpa using hn
    have hR : Hid (atI A T 5 i = -1) := atI_no (by omega)
    clear hn
    go_enter Try.func52, Try.ntmps52
    go_wp2_with fail
    go_quiet (exact Calls.quiet_of_same ((none_any _ (h.drewN _)).flip))
    go_wp2_with fail
    go_ret
    exact ⟨ret_int hR.out.symm, _, rfl⟩
  · have q1 : decide (i < 0) = false := by simpa using hn
    by_cases hm : sizeI A T 5 ≤ i
    · have q2 : decide (sizeI A T 5 ≤ i) = true := by simpa using hm
      have hR : Hid (atI A T 5 i = -1) := atI_no (by omega)
      clear hn hm
      go_enter Try.func52, Try.ntmps52
      go_wp2_with fail
      go_quiet (exact Calls.quiet_of_same ((none_any _ (h.drewN _)).flip))
      go_wp2_with fail
      go_ret
      exact ⟨ret_int hR.out.symm, _, rfl⟩
    · have q2 : decide (sizeI A T 5 ≤ i) = false := by simpa using hm
      have hR : Hid (atI A T 5 i = fromI A T 5 + i) := atI_yes (by omega) (by omega)
      have hw3 : IntKind.i64.wrap (fromI A T 5 + i) = fromI A T 5 + i := by rw [IntKind.wrap_i64]; omega
      clear hn hm
      go_enter Try.func52, Try.ntmps52
      go_wp2_with fail
      go_quiet (exact Calls.quiet_of_same ((none_any _ (h.drewN _)).flip))
      go_wp2_with fail
      go_ret
      exact ⟨ret_int hR.out.symm, _, rfl⟩
set_option maxRecDepth 100000 in
set_option maxHeartbeats 3200000 in
theorem atx_6 {o oc g gb gr A T : Nat} {L : List (Int × Int)} {bs rs : List (List Value)} (i : Int) (w : World) (h : MemAt w o oc g gb gr A T L bs rs) (i0 : -9223372036854775808 ≤ i) (i1 : i ≤ 9223372036854775807) :
    Calls Try.prog 52 #[.pointer (some ⟨o, 0, none⟩), .int .i64 6, .int .i64 i] w fun e w' => e = .returned (.int .i64 (atI A T 6 i)) ∧ ∃ n, w' = w.drewN n := by
  have c1 : w.cell? ⟨o, 7, none⟩ = some (.int .i64 (fromI A T 6)) := h.head.at 7 rfl
  have c2 : w.cell? ⟨o, 8, none⟩ = some (.int .i64 (fromI A T 7)) := h.head.at 8 rfl
  have e1 := from_succ A T 6 (by omega)
  have e2 := from_rng A T 6 h.a1.2 h.t1.2
  have e3 := size_rng A T 6 h.a1.2 h.t1.2
  simp only [Nat.reduceAdd] at e1
  have hw : IntKind.i64.wrap (fromI A T 7 - fromI A T 6) = sizeI A T 6 := by rw [IntKind.wrap_i64]; omega
  have hk : IntKind.i64.wrap 7 = 7 := by rw [IntKind.wrap_i64]; rfl
  clear e1
  by_cases hn : i < 0
  · have q1 : decide (i < 0) = true := by simpa using hn
    have hR : Hid (atI A T 6 i = -1) := atI_no (by omega)
    clear hn
    go_enter Try.func52, Try.ntmps52
    go_wp2_with fail
    go_quiet (exact Calls.quiet_of_same ((none_any _ (h.drewN _)).flip))
    go_wp2_with fail
    go_ret
    exact ⟨ret_int hR.out.symm, _, rfl⟩
  · have q1 : decide (i < 0) = false := by simpa using hn
    by_cases hm : sizeI A T 6 ≤ i
    · have q2 : decide (sizeI A T 6 ≤ i) = true := by simpa using hm
      have hR : Hid (atI A T 6 i = -1) := atI_no (by omega)
      clear hn hm
      go_enter Try.func52, Try.ntmps52
      go_wp2_with fail
      go_quiet (exact Calls.quiet_of_same ((none_any _ (h.drewN _)).flip))
      go_wp2_with fail
      go_ret
      exact ⟨ret_int hR.out.symm, _, rfl⟩
    · have q2 : decide (sizeI A T 6 ≤ i) = false := by simpa using hm
      have hR : Hid (atI A T 6 i = fromI A T 6 + i) := atI_yes (by omega) (by omega)
      have hw3 : IntKind.i64.wrap (fromI A T 6 + i) = fromI A T 6 + i := by rw [IntKind.wrap_i64]; omega
      clear hn hm
      go_enter Try.func52, Try.ntmps52
      go_wp2_with fail
      go_quiet (exact Calls.quiet_of_same ((none_any _ (h.drewN _)).flip))
      go_wp2_with fail
      go_ret
      exact ⟨ret_int hR.out.symm, _, rfl⟩
set_option maxHeartbeats 800000 in
theorem node_x {o oc g gb gr A T : Nat} {L : List (Int × Int)} {bs rs : List (List Value)} (i : Int) (w : World) (h : MemAt w o oc g gb gr A T L bs rs) (i0 : -9223372036854775808 ≤ i) (i1 : i ≤ 9223372036854775807) :
    Calls Try.prog 22 #[.pointer (some ⟨o, 0, none⟩), .int .i64 i] w fun e w' => e = .returned (.int .i64 (atI A T 0 i)) ∧ ∃ n, w' = w.drewN n := by
  go_enter Try.func22, Try.ntmps22
  go_wp2_with fail
  refine (atx_0 i _ h i0 i1).mono ?_
  rintro e w1 ⟨rfl, n, rfl⟩
  go_wp2_with fail
  go_ret
  exact ⟨rfl, _, rfl⟩
set_option maxHeartbeats 800000 in
theorem muse_x {o oc g gb gr A T : Nat} {L : List (Int × Int)} {bs rs : List (List Value)} (i : Int) (w : World) (h : MemAt w o oc g gb gr A T L bs rs) (i0 : -9223372036854775808 ≤ i) (i1 : i ≤ 9223372036854775807) :
    Calls Try.prog 20 #[.pointer (some ⟨o, 0, none⟩), .int .i64 i] w fun e w' => e = .returned (.int .i64 (atI A T 1 i)) ∧ ∃ n, w' = w.drewN n := by
  go_enter Try.func20, Try.ntmps20
  go_wp2_with fail
  refine (atx_1 i _ h i0 i1).mono ?_
  rintro e w1 ⟨rfl, n, rfl⟩
  go_wp2_with fail
  go_ret
  exact ⟨rfl, _, rfl⟩
set_option maxHeartbeats 800000 in
theorem done_x {o oc g gb gr A T : Nat} {L : List (Int × Int)} {bs rs : List (List Value)} (i : Int) (w : World) (h : MemAt w o oc g gb gr A T L bs rs) (i0 : -9223372036854775808 ≤ i) (i1 : i ≤ 9223372036854775807) :
    Calls Try.prog 24 #[.pointer (some ⟨o, 0, none⟩), .int .i64 i] w fun e w' => e = .returned (.int .i64 (atI A T 3 i)) ∧ ∃ n, w' = w.drewN n := by
  go_enter Try.func24, Try.ntmps24
  go_wp2_with fail
  refine (atx_3 i _ h i0 i1).mono ?_
  rintro e w1 ⟨rfl, n, rfl⟩
  go_wp2_with fail
  go_ret
  exact ⟨rfl, _, rfl⟩
set_option maxHeartbeats 800000 in
theorem gate_x {o oc g gb gr A T : Nat} {L : List (Int × Int)} {bs rs : List (List Value)} (w : World) (h : MemAt w o oc g gb gr A T L bs rs) :
    Calls Try.prog 18 #[.pointer (some ⟨o, 0, none⟩)] w fun e w' => e = .returned (.int .i64 (gateI A T)) ∧ ∃ n, w' = w.drewN n := by
  go_enter Try.func18, Try.ntmps18
  go_wp2_with fail
  refine (atx_6 0 _ h (by omega) (by omega)).mono ?_
  rw [gate_at]
  rintro e w1 ⟨rfl, n, rfl⟩
  go_wp2_with fail
  go_ret
  exact ⟨rfl, _, rfl⟩
end Go.Proofs.Ytpempcefgfmniaa.MemP

/-
  Chapter 27 (hazard): what its functions compute, in plain terms.
-/
namespace Go.Proofs.Ytpempcefgfmniaa.HazP
open RefP
set_option linter.unusedVariables false
set_option linter.unusedSimpArgs false

def memB (xs : List Int) (x : Int) : Bool := decide (x ∈ xs)
theorem memB_iff {xs : List Int} {x : Int} : memB xs x = true ↔ x ∈ xs := by simp [memB]
/-- x is none of the first k -/
def noneTo (xs : List Int) (x : Int) (k : Nat) : Prop := ∀ i, i < k → at0 xs i ≠ x
theorem noneTo_zero (xs : List Int) (x : Int) : noneTo xs x 0 := fun i h => by omega
theorem noneTo_succ {xs : List Int} {x : Int} {k : Nat} (h : noneTo xs x k) (e : at0 xs k ≠ x) : noneTo xs x (k + 1) := fun i hi => by
  by_cases c : i = k
  · subst c; exact e
  · exact h i (by omega)
theorem memB_none {xs : List Int} {x : Int} (h : noneTo xs x xs.length) : memB xs x = false := by
  simp only [memB, decide_eq_false_iff_not]
  intro hm
  obtain ⟨i, hi, e⟩ := List.getElem_of_mem hm
  exact h i hi (by rw [at0_of xs i hi, e])
theorem memB_at {xs : List Int} {x : Int} {k : Nat} (hk : k < xs.length) (e : at0 xs k = x) : memB xs x = true := by
  rw [memB_iff, ← e]; exact at0_mem xs k hk
/-- those of l that stand in named (keep), or do not -/
def siftL (l named : List Int) (keep : Bool) : List Int := l.filter (fun x => memB named x == keep)
theorem siftL_zero (l named : List Int) (keep : Bool) : siftL (l.take 0) named keep = [] := by simp [siftL]
theorem siftL_yes {l named : List Int} {keep : Bool} {k : Nat} (hk : k < l.length) (h : memB named (at0 l k) = keep) : siftL (l.take (k + 1)) named keep = siftL (l.take k) named keep ++ [at0 l k] := by
  rw [take_succ_at0 l k hk]; unfold siftL; rw [List.filter_append]; simp [h]
theorem siftL_no {l named : List Int} {keep : Bool} {k : Nat} (hk : k < l.length) (h : memB named (at0 l k) = !keep) : siftL (l.take (k + 1)) named keep = siftL (l.take k) named keep := by
  rw [take_succ_at0 l k hk]; unfold siftL; rw [List.filter_append]; simp [h]
theorem siftL_length (l named : List Int) (keep : Bool) : (siftL l named keep).length ≤ l.length := List.length_filter_le _ _
theorem siftL_rng {l named : List Int} {keep : Bool} {p : Int → Prop} (h : ∀ x ∈ l, p x) : ∀ x ∈ siftL l named keep, p x := fun x hx => h x (List.mem_filter.1 hx).1
theorem siftL_both (l named : List Int) : (siftL l named true).length + (siftL l named false).length = l.length := by
  unfold siftL
  induction l with
  | nil => rfl
  | cons x l ih =>
    simp only [List.filter_cons]
    cases hm : memB named x
    · simp only [Bool.false_eq_true, beq_iff_eq, Bool.true_eq_false, if_false, if_true, List.length_cons, reduceCtorEq]; omega
    · simp only [Bool.false_eq_true, beq_iff_eq, Bool.true_eq_false, if_false, if_true, List.length_cons, reduceCtorEq]; omega
def roomI (t r : Int) : Int := if t < 1 ∨ 16 < t ∨ r < 1 ∨ 1024 < r then 0 else t * 2 + r
def freedI (w : Int) : Int := if opensB w = true then (if openG w = 4294967295 then useI 2 (openG w) else useI 0 (openG w)) else 18446744073709551615
/-- the words of a row are another's -/
theorem at0_ext {xs ys : List Int} (hl : xs.length = ys.length) (h : ∀ i, i < xs.length → at0 xs i = at0 ys i) : xs = ys := by
  apply List.ext_getElem hl
  intro i h1 h2
  have := h i h1
  rwa [at0_of xs i h1, at0_of ys i h2] at this
end Go.Proofs.Ytpempcefgfmniaa.HazP

/-
  Chapter 27: the pure functions' contracts.
-/
namespace Go.Proofs.Ytpempcefgfmniaa.HazP
open Go.RowKit RefP
set_option linter.unusedVariables false
set_option linter.unusedSimpArgs false

end Go.Proofs.Ytpempcefgfmniaa.HazP

/-
  Chapter 27: sifting.
-/
namespace Go.Proofs.Ytpempcefgfmniaa.HazP
open Go.RowKit RefP
set_option linter.unusedVariables false
set_option linter.unusedSimpArgs false

def SiftAt (w : World) (l nm : List Int) (e : Ending) (w' : World) : Prop :=
  ∃ ya yc na nc, e = .returned (.tuple #[.slice ya (siftL l nm true).length yc, .slice na (siftL l nm false).length nc]) ∧ OwnsU w' w.heap.size ya yc (siftL l nm true) ∧ OwnsU w' w.heap.size na nc (siftL l nm false) ∧ Below w.heap.size w w'
structure PartRel (w wr : World) (l nm : List Int) (k : Nat) (ya : Option Addr) (yc : Nat) (na : Option Addr) (nc : Nat) : Prop where
  b : Below w.heap.size w wr
  Y : OwnsU wr w.heap.size ya yc (siftL (l.take k) nm true)
  N : OwnsU wr w.heap.size na nc (siftL (l.take k) nm false)
  ne : ∀ p q, ya = some p → na = some q → p.block ≠ q.block
theorem own_none {a : Option Addr} {n c m d : Nat} {b : Option Addr} (h : ∀ p q, a = some p → b = some q → p.block ≠ q.block) : (Value.slice a n c).ownBlock = none ∨ (Value.slice a n c).ownBlock ≠ (Value.slice b m d).ownBlock := by
  cases a with
  | none => exact .inl rfl
  | some p =>
    refine .inr ?_
    cases b with
    | none => simp [Value.ownBlock]
    | some q => simpa [Value.ownBlock] using h p q rfl rfl
theorem new_ne {w : World} {base : Nat} {a : Option Addr} {c : Nat} {l : List Int} {b : Option Addr} {d : Nat} {m : List Int} {g H : Nat} (hN : OwnsU w base b d m) (hne : ∀ p q, a = some p → b = some q → p.block ≠ q.block)
    (hat : (Value.slice a l.length c).ownBlock = some g ∨ g = H) (hH : w.heap.size ≤ H) : ∀ p q, some (⟨g, 0, none⟩ : Addr) = some p → b = some q → p.block ≠ q.block := by
  intro p q hp hq
  simp only [Option.some.injEq] at hp
  subst hp hq
  rcases hat with e | e
  · cases a with
    | none => cases e
    | some r =>
      simp only [Value.ownBlock, Option.some.injEq] at e
      subst e
      exact hne r q rfl rfl
  · have := (hN.lt q.block rfl).2
    show g ≠ q.block
    omega

end Go.Proofs.Ytpempcefgfmniaa.HazP

/-
  Chapter 27: the list.
-/
namespace Go.Proofs.Ytpempcefgfmniaa.HazP
open Go.RowKit RefP
set_option linter.unusedVariables false
set_option linter.unusedSimpArgs false

theorem run_append_zero {P : Program} {w : World} {base : Nat} (t ty e : TypeId) (i : TypeInfo) (size : Nat) (ht : P.underlying t = some (.slice e)) (hi : P.info? e = some i)
    (v : Value) (n : Nat) (xs : List Value) (hown : w.ownsRow base e size v n xs) (p : Option Addr) (c' : Nat) :
    (Builtin.append_ #[t, t] ty #[v, .slice p 0 c']).run P w = .ok v w := by
  rcases hown.2 with ⟨rfl, rfl⟩ | ⟨g, cap, cur, rfl, _, _, hnc, _⟩
  · cases p <;> simp [Builtin.append_, run_underlying ht, sizeOf, typeInfo, hi, Builtin.lenOf, Builtin.firstCells, loadCells, loadCellsFrom, Result.andThen]
  · cases p <;> simp [Builtin.append_, run_underlying ht, sizeOf, typeInfo, hi, Builtin.lenOf, Builtin.firstCells, hnc, storeCells, loadCells, loadCellsFrom, Result.andThen]
theorem OwnsU.empty (w : World) (base : Nat) (hb : base ≤ w.heap.size) : OwnsU (w.alloc (.cells #[] 22)) base (some ⟨w.heap.size, 0, none⟩) 0 [] := ⟨Owns.empty _ _ _ _ _ hb, by simp⟩

set_option maxRecDepth 100000 in
set_option maxHeartbeats 800000 in
theorem sclone_any (a : Option Addr) (c : Nat) (l : List Int) (w : World) (h : U64s w a l) (hsm : l.length ≤ 60000) :
    Calls Try.prog 74 #[.slice a l.length c] w (WordsAt w l) := by
  cases ha : a with
  | none =>
    subst ha
    have h0 : l.length = 0 := by
      rcases Nat.eq_zero_or_pos l.length with h0 | h0
      · exact h0
      · obtain ⟨b, off, e, _⟩ := h.row.get h0; cases e
    obtain rfl : l = [] := List.eq_nil_of_length_eq_zero h0
    have hnil : ∀ w, (binOp .eql 24 (.slice none 0 c) (.slice none 0 0)).run Try.prog w = .ok (.bool true) w := fun w => Lib.run_eql_slice_nil w _ _ none 0 c 0 0 Try.underlying24
    go_enter Try.func74, Try.ntmps74
    go_wp2_with fail
    go_ret
    exact ⟨none, 0, rfl, OwnsU.nil _ _, Below.refl _ _⟩
  | some p =>
    subst ha
    have E := OwnsU.empty w w.heap.size (Nat.le_refl _)
    have hB : Below w.heap.size w (w.alloc (.cells #[] 22)) := (Below.refl _ w).alloc (Nat.le_refl _) _
    obtain ⟨i0, hi, hz0, hz1, hz2⟩ := info_parts' infoWord
    by_cases h0 : l.length = 0
    · obtain rfl : l = [] := List.eq_nil_of_length_eq_zero h0
      have hrun := fun ty => run_append_zero (P := Try.prog) 24 ty 22 i0 1 Try.underlying24 hi _ _ _ E.own (some p) c
      have hrun := Lib.hid hrun
      have hnil : ∀ w, (binOp .eql 24 (.slice (some p) 0 c) (.slice none 0 0)).run Try.prog w = .ok (.bool false) w := fun w => Lib.run_eql_slice_nil w _ _ (some p) 0 c 0 0 Try.underlying24
      go_enter Try.func74, Try.ntmps74
      go_wp2_with (at_builtin; refine wpList_append_run hrun.out rfl (by rfl) (by rfl) (by rfl) ?_)
      go_ret
      exact ⟨_, 0, rfl, E, hB⟩
    · obtain ⟨g, cap, w', A⟩ := addAll (w := w.alloc (.cells #[] 22)) w.heap.size E (c' := c) (h.below hB) (by omega) (by simpa using (by omega : l.length ≤ 65536)) (by simp)
      have hrun := Lib.hid A.run
      have AO := A.own
      have AB := A.keeps (fun k e => (E.lt k e).1) w w.heap.size (Nat.le_refl _) hB (by simp)
      simp only [List.nil_append] at AO
      clear A E
      simp only [List.length_nil, Nat.zero_add] at hrun
      have hnil : ∀ w, (binOp .eql 24 (.slice (some p) l.length c) (.slice none 0 0)).run Try.prog w = .ok (.bool false) w := fun w => Lib.run_eql_slice_nil w _ _ (some p) l.length c 0 0 Try.underlying24
      go_enter Try.func74, Try.ntmps74
      go_wp2_with (at_builtin; refine wpList_append_run hrun.out rfl (by rfl) (by rfl) (by rfl) ?_)
      go_ret
      exact ⟨_, cap, rfl, AO, AB⟩

end Go.Proofs.Ytpempcefgfmniaa.HazP

/-
  The first block is got: named, copied, Block, Do: contracts for a block without rows.
-/
namespace Go.Proofs.Ytpempcefgfmniaa.MemP
open Go.RowKit RefP CellP
set_option linter.unusedVariables false
set_option linter.unusedSimpArgs false
/-- the first node, with rows -/
abbrev ndA (k v d : Value) : Array Value := #[.int .i64 0, .string ⟨#[]⟩, .string ⟨#[]⟩, .bool true, .int .i64 (-1), k, v, d]
abbrev nlV : Value := .slice none 0 0
abbrev e0V (b : Nat) : Value := .slice (some ⟨b, 0, none⟩) 0 0
theorem infoStr : (Try.prog.info? 9).map (fun i => (i.zero, i.size, i.bytes)) = some (some (.string ⟨#[]⟩), 1, 16) := by kernel_rfl
theorem infoU64 : (Try.prog.info? 22).map (fun i => (i.zero, i.size, i.bytes)) = some (some (.int .u64 0), 1, 8) := by kernel_rfl
theorem infoI64 : (Try.prog.info? 3).map (fun i => (i.zero, i.size, i.bytes)) = some (some (.int .i64 0), 1, 8) := by kernel_rfl
theorem mk0_string (W : World) : (Instr.makeSlice 23 (.int .i64 0) (.int .i64 0)).run Try.prog W = .ok (.slice (some ⟨W.heap.size, 0, none⟩) 0 0) (W.alloc (.cells #[] 9)) := by
  obtain ⟨i0, hi, hz0, hz1, hz2⟩ := info_parts infoStr
  have hr := run_make (P := Try.prog) W 23 9 i0 _ Try.underlying23 hi hz0 .i64 .i64 0 0 (by omega) (by omega) (by simp) (by omega)
  simpa [madeCells, Array.range_zero'] using hr
theorem mk0_uint64 (W : World) : (Instr.makeSlice 24 (.int .i64 0) (.int .i64 0)).run Try.prog W = .ok (.slice (some ⟨W.heap.size, 0, none⟩) 0 0) (W.alloc (.cells #[] 22)) := by
  obtain ⟨i0, hi, hz0, hz1, hz2⟩ := info_parts infoU64
  have hr := run_make (P := Try.prog) W 24 22 i0 _ Try.underlying24 hi hz0 .i64 .i64 0 0 (by omega) (by omega) (by simp) (by omega)
  simpa [madeCells, Array.range_zero'] using hr
theorem mk0_int (W : World) : (Instr.makeSlice 25 (.int .i64 0) (.int .i64 0)).run Try.prog W = .ok (.slice (some ⟨W.heap.size, 0, none⟩) 0 0) (W.alloc (.cells #[] 3)) := by
  obtain ⟨i0, hi, hz0, hz1, hz2⟩ := info_parts infoI64
  have hr := run_make (P := Try.prog) W 25 3 i0 _ Try.underlying25 hi hz0 .i64 .i64 0 0 (by omega) (by omega) (by simp) (by omega)
  simpa [madeCells, Array.range_zero'] using hr
set_option maxRecDepth 100000 in
set_option maxHeartbeats 3200000 in
theorem nclone_first (w : World) : Calls Try.prog 72 #[.agg (ndA nlV nlV nlV)] w fun e w' => (∃ b1 b2 b3, e = .returned (.agg (ndA (e0V b1) (e0V b2) (e0V b3)))) ∧ Below w.heap.size w w' := by
  have hb0 : Below w.heap.size w ((w.alloc (.cells (ndA nlV nlV nlV) 27)).alloc (.cells #[.int .i64 0, .string ⟨#[]⟩, .string ⟨#[]⟩, .bool false, .int .i64 0, nlV, nlV, nlV] 27)) := by (repeat (first | exact Below.refl _ _ | assumption | refine below_alloc2 ?_ (by first | exact Nat.le_refl _ | omega) _ | refine Below.drew ?_ | refine below_drewN ?_ _ | refine below_push2 ?_ ‹_› (by first | exact Nat.le_refl _ | omega) | refine Below.setCell ?_ (by first | (simp; done) | (simp; omega) | omega) _))
  have BN := (Blk.new w (ndA nlV nlV nlV) 27).alloc (.cells #[.int .i64 0, .string ⟨#[]⟩, .string ⟨#[]⟩, .bool false, .int .i64 0, nlV, nlV, nlV] 27)
  have BR : Blk ((w.alloc (.cells (ndA nlV nlV nlV) 27)).alloc (.cells #[.int .i64 0, .string ⟨#[]⟩, .string ⟨#[]⟩, .bool false, .int .i64 0, nlV, nlV, nlV] 27)) (w.heap.size + 1) #[.int .i64 0, .string ⟨#[]⟩, .string ⟨#[]⟩, .bool false, .int .i64 0, nlV, nlV, nlV] 27 := by
    have := Blk.new (w.alloc (.cells (ndA nlV nlV nlV) 27)) #[.int .i64 0, .string ⟨#[]⟩, .string ⟨#[]⟩, .bool false, .int .i64 0, nlV, nlV, nlV] 27
    simpa using this
  have m1 := mk0_string
  have m2 := mk0_uint64
  have m3 := mk0_int
  go_enter Try.func72, Try.ntmps72
  go_wp2_with fail
  generalize ((w.alloc (.cells (ndA nlV nlV nlV) 27)).alloc (.cells #[.int .i64 0, .string ⟨#[]⟩, .string ⟨#[]⟩, .bool false, .int .i64 0, nlV, nlV, nlV] 27)) = w1 at hb0 BN BR ⊢
  have c5 := BN.at 5 rfl
  have c6 := BN.at 6 rfl
  have c7 := BN.at 7 rfl
  have hs := hb0.size
  go_upto_region 1 with (fail)
  go_cut [3, 4, 5] (fun u3 u4 u5 wx => ∃ b1 b2 b3, u3 = e0V b1 ∧ u4 = e0V b2 ∧ u5 = e0V b3 ∧ Below w.heap.size w wx ∧ Blk wx w.heap.size (ndA nlV nlV nlV) 27 ∧ Blk wx (w.heap.size + 1) #[.int .i64 0, .string ⟨#[]⟩, .string ⟨#[]⟩, .bool false, .int .i64 0, nlV, nlV, nlV] 27)
  case first =>
    go_region_held (fun w' => w'.cell? ⟨w.heap.size, 5, none⟩ = some (.slice none 0 0) ∧ w'.cell? ⟨w.heap.size, 6, none⟩ = some (.slice none 0 0) ∧ w'.cell? ⟨w.heap.size, 7, none⟩ = some (.slice none 0 0)) (first | exact ⟨BN.drew.at 5 rfl, BN.drew.at 6 rfl, BN.drew.at 7 rfl⟩ | exact ⟨(BN.alloc _).drew.at 5 rfl, (BN.alloc _).drew.at 6 rfl, (BN.alloc _).drew.at 7 rfl⟩ | exact ⟨((BN.alloc _).alloc _).drew.at 5 rfl, ((BN.alloc _).alloc _).drew.at 6 rfl, ((BN.alloc _).alloc _).drew.at 7 rfl⟩ | exact ⟨(((BN.alloc _).alloc _).alloc _).drew.at 5 rfl, (((BN.alloc _).alloc _).alloc _).drew.at 6 rfl, (((BN.alloc _).alloc _).alloc _).drew.at 7 rfl⟩) (fail)
    all_goals
      go_wp2_with fail
      go_meet
      exact ⟨_, _, _, rfl, rfl, rfl, (((hb0.alloc hs _).alloc (by simp; omega) _).alloc (by simp; omega) _).drew, (((BN.alloc _).alloc _).alloc _).drew, (((BR.alloc _).alloc _).alloc _).drew⟩
  case rest =>
    obtain ⟨b1, b2, b3, rfl, rfl, rfl, hb2, B2, R2⟩ := hcut
    clear hb0 BN BR c5 c6 c7 hs m1 m2 m3
    have c5 := B2.at 5 rfl
    have c6 := B2.at 6 rfl
    have c7 := B2.at 7 rfl
    have f5 := B2.free 5
    have f6 := B2.free 6
    have f7 := B2.free 7
    go_wp2_with fail
    rw [show (Builtin.copy_ #[23, 23] 3 #[e0V b1, nlV]).run Try.prog wc = .ok (goInt 0) wc from run_copy_none wc _ _ _ 9 _ _ 0 0 0 0 Try.underlying23 (by kernel_rfl) rfl]
    go_wp2_with fail
    rw [show (Builtin.copy_ #[24, 24] 3 #[e0V b2, nlV]).run Try.prog wc = .ok (goInt 0) wc from run_copy_none wc _ _ _ 22 _ _ 0 0 0 0 Try.underlying24 (by kernel_rfl) rfl]
    go_wp2_with fail
    rw [show (Builtin.copy_ #[25, 25] 3 #[e0V b3, nlV]).run Try.prog wc = .ok (goInt 0) wc from run_copy_none wc _ _ _ 3 _ _ 0 0 0 0 Try.underlying25 (by kernel_rfl) rfl]
    have BF : Blk (((wc.setCell ⟨w.heap.size, 5, none⟩ (e0V b1)).setCell ⟨w.heap.size, 6, none⟩ (e0V b2)).setCell ⟨w.heap.size, 7, none⟩ (e0V b3)) w.heap.size (ndA (e0V b1) (e0V b2) (e0V b3)) 27 := by
      simpa [ndA] using ((B2.set 5 (e0V b1)).set 6 (e0V b2)).set 7 (e0V b3)
    have RF := ((R2.far ⟨w.heap.size, 5, none⟩ (e0V b1) (by show w.heap.size + 1 ≠ w.heap.size; omega)).far ⟨w.heap.size, 6, none⟩ (e0V b2) (by show w.heap.size + 1 ≠ w.heap.size; omega)).far ⟨w.heap.size, 7, none⟩ (e0V b3) (by show w.heap.size + 1 ≠ w.heap.size; omega)
    have hbF := ((hb2.setCell (p := ⟨w.heap.size, 5, none⟩) (Nat.le_refl _) (e0V b1)).setCell (p := ⟨w.heap.size, 6, none⟩) (Nat.le_refl _) (e0V b2)).setCell (p := ⟨w.heap.size, 7, none⟩) (Nat.le_refl _) (e0V b3)
    go_wp2_with (first
      | (refine wpList_load_row rfl 27 _ rfl w.heap.size rfl 27 _ (0, 0) _ BF.h Try.underlying27 rfl (by kernel_rfl) ?_)
      | (refine wpList_store_row rfl 27 _ _ rfl (w.heap.size + 1) _ rfl rfl 27 _ RF.h (by kernel_rfl) (by rfl) (by kernel_rfl) ?_))
    refine bodyPost_ret (results_cell_row rfl _ _ (w.heap.size + 1) 27 (ndA (e0V b1) (e0V b2) (e0V b3)) (0, 0) _ rfl (Blk.row RF (ndA (e0V b1) (e0V b2) (e0V b3))).h Try.underlying27 rfl (by kernel_rfl)) rfl ⟨⟨b1, b2, b3, rfl⟩, below_setRow hbF (by omega) _⟩
end Go.Proofs.Ytpempcefgfmniaa.MemP

/-
  ref.Shut, ref.Gated and the document's: contracts, each for every gate and word.
-/
namespace Go.Proofs.Ytpempcefgfmniaa.RefP
open Go.RowKit
set_option linter.unusedVariables false

theorem gateB_two (t x : Int) (h0 : 0 ≤ t) (h1 : t ≤ 15) : gateB 2 t x = opensB x := by
  cases ho : opensB x
  · exact gateB_mk_no (by simp [ho])
  · exact gateB_mk ⟨h0, h1, .inr (.inr ⟨rfl, ho⟩)⟩
theorem gateB_zero (t x : Int) (h0 : 0 ≤ t) (h1 : t ≤ 15) : gateB 0 t x = (t == 0 && x == 0) := by
  by_cases a : t = 0 ∧ x = 0
  · obtain ⟨rfl, rfl⟩ := a
    exact gateB_mk (by omega)
  · rw [gateB_mk_no (by omega)]
    by_cases b : t = 0
    · have : ¬ x = 0 := fun e => a ⟨b, e⟩
      simp [this]
    · simp [b]
theorem gateB_one (t x : Int) (h0 : 0 ≤ t) (h1 : t ≤ 15) : gateB 1 t x = (x == 0) := by
  by_cases a : x = 0
  · subst a; exact gateB_mk (by omega)
  · rw [gateB_mk_no (by omega)]; simp [a]
theorem gateB_three (t x : Int) (h0 : 0 ≤ t) (h1 : t ≤ 15) : gateB 3 t x = (x == 0) := by
  by_cases a : x = 0
  · subst a; exact gateB_mk (by omega)
  · rw [gateB_mk_no (by omega)]; simp [a]
set_option maxHeartbeats 800000 in
theorem sound_any (s t x : Int) (w : World) (s0 : -9223372036854775808 ≤ s) (s1 : s ≤ 9223372036854775807) (t0 : -9223372036854775808 ≤ t) (t1 : t ≤ 9223372036854775807) (h2 : 0 ≤ x) (h3 : x ≤ 18446744073709551615) :
    Calls Try.prog 66 #[.agg #[.int .i64 s, .int .i64 t, .int .u64 x]] w fun e w' => e = .returned (.bool (gateB s t x)) ∧ Below w.heap.size w w' := by
  by_cases c : s < 0 ∨ (¬ s < 0 ∧ 3 < s) ∨ (¬ s < 0 ∧ ¬ 3 < s ∧ t < 0) ∨ (¬ s < 0 ∧ ¬ 3 < s ∧ ¬ t < 0 ∧ 16 ≤ t)
  · rw [gateB_mk_no (s := s) (t := t) (x := x) (by omega)]
    rcases c with h | ⟨h, k⟩ | ⟨h, k, l⟩ | ⟨h, k, l, m⟩
    all_goals
      go_enter Try.func66, Try.ntmps66
      go_wp2
      go_ret
      exact ⟨rfl, (Below.refl _ _).alloc (Nat.le_refl _) _⟩
  · have c1 : 0 ≤ s := by omega
    have c2 : s ≤ 3 := by omega
    have c3 : 0 ≤ t := by omega
    have c4 : t ≤ 15 := by omega
    clear c
    rcases (show s = 2 ∨ s = 0 ∨ s = 1 ∨ s = 3 by omega) with rfl | rfl | rfl | rfl
    · go_enter Try.func66, Try.ntmps66
      go_wp2_with fail
      refine (open_any _ _ (by omega) (by omega)).mono ?_
      rintro e w1 ⟨rfl, hb1⟩
      have hc := hb1.cell (p := ⟨w.heap.size, 0, none⟩) (by simp)
      go_wp2_with fail
      go_ret
      exact ⟨ret_b (gateB_two t x c3 c4).symm, below_call hb1⟩
    · go_enter Try.func66, Try.ntmps66
      go_wp2_with fail
      refine (open_any _ _ (by omega) (by omega)).mono ?_
      rintro e w1 ⟨rfl, hb1⟩
      have hc := hb1.cell (p := ⟨w.heap.size, 0, none⟩) (by simp)
      have hd := hb1.cell (p := ⟨w.heap.size, 1, none⟩) (by simp)
      have he := hb1.cell (p := ⟨w.heap.size, 2, none⟩) (by simp)
      go_wp2_with fail
      all_goals
        go_ret
        refine ⟨ret_b ?_, below_call hb1⟩
        rw [gateB_zero _ _ (by omega) (by omega)]
        simp [*]
    · go_enter Try.func66, Try.ntmps66
      go_wp2_with fail
      refine (open_any _ _ (by omega) (by omega)).mono ?_
      rintro e w1 ⟨rfl, hb1⟩
      have hc := hb1.cell (p := ⟨w.heap.size, 0, none⟩) (by simp)
      have he := hb1.cell (p := ⟨w.heap.size, 2, none⟩) (by simp)
      go_wp2_with fail
      go_ret
      exact ⟨ret_b (gateB_one t x c3 c4).symm, below_call hb1⟩
    · go_enter Try.func66, Try.ntmps66
      go_wp2_with fail
      refine (open_any _ _ (by omega) (by omega)).mono ?_
      rintro e w1 ⟨rfl, hb1⟩
      have hc := hb1.cell (p := ⟨w.heap.size, 0, none⟩) (by simp)
      have he := hb1.cell (p := ⟨w.heap.size, 2, none⟩) (by simp)
      go_wp2_with fail
      go_ret
      exact ⟨ret_b (gateB_three t x c3 c4).symm, below_call hb1⟩

set_option maxHeartbeats 800000 in
theorem may_any (s t x : Int) (w : World) (s0 : -9223372036854775808 ≤ s) (s1 : s ≤ 9223372036854775807) (t0 : -9223372036854775808 ≤ t) (t1 : t ≤ 9223372036854775807) (h2 : 0 ≤ x) (h3 : x ≤ 18446744073709551615) :
    Calls Try.prog 63 #[.agg #[.int .i64 s, .int .i64 t, .int .u64 x]] w fun e w' => e = .returned (.bool (gateB s t x)) ∧ Below w.heap.size w w' := by
  by_cases c : t < 0 ∨ (¬ t < 0 ∧ 15 < t)
  · rw [gateB_mk_no (s := s) (t := t) (x := x) (by omega)]
    rcases c with h | ⟨h, k⟩
    all_goals
      go_enter Try.func63, Try.ntmps63
      go_wp2
      go_ret
      exact ⟨rfl, (Below.refl _ _).alloc (Nat.le_refl _) _⟩
  · have c3 : 0 ≤ t := by omega
    have c4 : t ≤ 15 := by omega
    clear c
    by_cases c2 : s = 0 ∨ s = 1 ∨ s = 2 ∨ s = 3
    · rcases c2 with rfl | rfl | rfl | rfl
      · go_enter Try.func63, Try.ntmps63
        go_wp2_with fail
        refine (dopen_any _ _ (by omega) (by omega)).mono ?_
        rintro e w1 ⟨rfl, rfl⟩
        go_wp2_with fail
        all_goals
          go_ret
          refine ⟨ret_b ?_, (Below.refl _ _).alloc (Nat.le_refl _) _⟩
          rw [gateB_zero _ _ (by omega) (by omega)]
          simp [*]
      · go_enter Try.func63, Try.ntmps63
        go_wp2_with fail
        refine (dopen_any _ _ (by omega) (by omega)).mono ?_
        rintro e w1 ⟨rfl, rfl⟩
        go_wp2_with fail
        go_ret
        exact ⟨ret_b (gateB_one t x c3 c4).symm, (Below.refl _ _).alloc (Nat.le_refl _) _⟩
      · go_enter Try.func63, Try.ntmps63
        go_wp2_with fail
        refine (dopen_any _ _ (by omega) (by omega)).mono ?_
        rintro e w1 ⟨rfl, rfl⟩
        go_wp2_with fail
        go_ret
        exact ⟨ret_b (gateB_two t x c3 c4).symm, (Below.refl _ _).alloc (Nat.le_refl _) _⟩
      · go_enter Try.func63, Try.ntmps63
        go_wp2_with fail
        refine (dopen_any _ _ (by omega) (by omega)).mono ?_
        rintro e w1 ⟨rfl, rfl⟩
        go_wp2_with fail
        go_ret
        exact ⟨ret_b (gateB_three t x c3 c4).symm, (Below.refl _ _).alloc (Nat.le_refl _) _⟩
    · have q0 : (s == 0) = false := not_eq (by omega)
      have q1 : (s == 1) = false := not_eq (by omega)
      have q2 : (s == 2) = false := not_eq (by omega)
      have q3 : (s == 3) = false := not_eq (by omega)
      rw [gateB_mk_no (s := s) (t := t) (x := x) (by omega)]
      clear c2
      go_enter Try.func63, Try.ntmps63
      go_wp2_with fail
      refine (dopen_any _ _ (by omega) (by omega)).mono ?_
      rintro e w1 ⟨rfl, rfl⟩
      go_wp2_with fail
      go_ret
      exact ⟨rfl, (Below.refl _ _).alloc (Nat.le_refl _) _⟩

set_option maxHeartbeats 800000 in
theorem shut_any (s t x : Int) (w : World) (s0 : -9223372036854775808 ≤ s) (s1 : s ≤ 9223372036854775807) (t0 : -9223372036854775808 ≤ t) (t1 : t ≤ 9223372036854775807) (h2 : 0 ≤ x) (h3 : x ≤ 18446744073709551615) :
    Calls Try.prog 44 #[.agg #[.int .i64 s, .int .i64 t, .int .u64 x]] w fun e w' => e = .returned (.int .u64 (shutI s t x)) ∧ Below w.heap.size w w' := by
  cases hg : gateB s t x
  · have hv : Hid (shutI s t x = 18446744073709551615) := (shutI_no hg).trans topW_eq
    go_enter Try.func44, Try.ntmps44
    go_wp2_with fail
    refine (sound_any s t x _ s0 s1 t0 t1 h2 h3).mono ?_
    rintro e w1 ⟨rfl, hb1⟩
    go_wp2_with fail
    go_ret
    exact ⟨ret_u64 hv.out.symm, below_call hb1⟩
  · have hv : Hid (shutI s t x = s * 4611686018427387904 + t * 72057594037927936 + x) := shutI_yes hg
    obtain ⟨b1, b2, b3, b4, b5⟩ := gateB_bounds hg h2
    have hk := Lib.hid (shut_bits s t x b1 b2 b3 b4 h2 b5)
    go_enter Try.func44, Try.ntmps44
    go_wp2_with fail
    refine (sound_any s t x _ s0 s1 t0 t1 h2 h3).mono ?_
    rintro e w1 ⟨rfl, hb1⟩
    have hc := hb1.cell (p := ⟨w.heap.size, 0, none⟩) (by simp)
    have hd := hb1.cell (p := ⟨w.heap.size, 1, none⟩) (by simp)
    have he := hb1.cell (p := ⟨w.heap.size, 2, none⟩) (by simp)
    go_wp2_with fail
    go_ret
    exact ⟨ret_u64 (hk.out.trans hv.out.symm), below_call hb1⟩

end Go.Proofs.Ytpempcefgfmniaa.RefP

/-
  carry: a task that is none: contracts.
-/
namespace Go.Proofs.Ytpempcefgfmniaa.MemP
open Go.RowKit RefP CellP
set_option linter.unusedVariables false
set_option linter.unusedSimpArgs false
/-- an access without a block and an operation -/
abbrev accY (k i ver word : Int) : Array Value := #[.int .i64 k, .int .i64 i, .int .u64 ver, .int .u64 word, .int .i64 0, .int .i64 0, .string ⟨#[]⟩, .string ⟨#[]⟩, .bool false, .int .i64 0, .slice none 0 0, .slice none 0 0, .slice none 0 0, .int .i64 0, .int .i64 0, .string ⟨#[]⟩, .int .u64 0, .slice none 0 0, .slice none 0 0, .slice none 0 0, .slice none 0 0, .int .i64 0, .string ⟨#[]⟩, .string ⟨#[]⟩, .int .u64 0, .int .i64 0]
abbrev carA (m : Option Addr) (hp s t x ver at_ : Int) (st : Value) (done : Int) (tu en : Bool) : Array Value := #[.pointer m, .int .i64 hp, .int .i64 s, .int .i64 t, .int .u64 x, .int .u64 ver, .int .i64 at_, st, .int .u64 done, .bool tu, .bool en]
theorem setCell_self {w : World} {b i : Nat} {cs : Array Value} {T : TypeId} (h : Blk w b cs T) {v : Value} (hv : cs[i]? = some v) : w.setCell ⟨b, i, none⟩ v = w := by
  have e : cs.setIfInBounds i v = cs := by
    apply Array.ext_getElem?
    intro k
    rw [Array.getElem?_setIfInBounds]
    split
    · rename_i hk
      subst hk
      split
      · exact hv.symm
      · rename_i hn
        rw [Array.getElem?_eq_none (by omega)] at hv; cases hv
    · rfl
  have e2 : ∀ f : Obj → Obj, f (.cells cs T (0, 0)) = .cells cs T (0, 0) → w.heap.modify b f = w.heap := by
    intro f hf
    apply Array.ext_getElem?
    intro k
    rw [Array.getElem?_modify]
    split
    · rename_i hk
      subst hk
      rw [h.h]; simp [hf]
    · rfl
  unfold World.setCell
  rw [e2 _ (by simp [e])]
set_option maxHeartbeats 800000 in
theorem haz_nil (t : Int) (w : World) : Calls Try.prog 19 #[.pointer none, .int .i64 t, .int .i64 0] w fun e w' => e = .returned (.int .i64 (-1)) ∧ w = w' := by
  by_cases h3 : t < 0
  · have q3 : decide (t < 0) = true := by simpa using h3
    go_enter Try.func19, Try.ntmps19
    go_wp2_with fail
    go_ret
    exact ⟨rfl, rfl⟩
  · have q3 : decide (t < 0) = false := by simpa using h3
    have q4 : decide (0 ≤ t) = true := by simp; omega
    go_enter Try.func19, Try.ntmps19
    go_wp2_with fail
    refine (threads_nil _).mono ?_
    rintro e w1 ⟨rfl, rfl⟩
    go_wp2_with fail
    go_ret
    exact ⟨rfl, rfl⟩
abbrev CNew (w : World) (m : Option Addr) (hp s t x ver at_ : Int) (e : Ending) (w' : World) : Prop := e = .returned (.pointer (some ⟨w.heap.size + 1, 0, none⟩)) ∧ Blk w' (w.heap.size + 1) (carA m hp s t x ver at_ (.slice none 0 0) 0 false false) 100 ∧ Below w.heap.size w w'
set_option maxHeartbeats 1600000 in
theorem cnew_nil (hp s t x ver : Int) (w : World) (s0 : -9223372036854775808 ≤ s) (s1 : s ≤ 9223372036854775807) (t0 : -9223372036854775808 ≤ t) (t1 : t ≤ 9223372036854775807) (x0 : 0 ≤ x) (x1 : x ≤ 18446744073709551615) :
    Calls Try.prog 34 #[.pointer none, .int .i64 hp, .agg #[.int .i64 s, .int .i64 t, .int .u64 x], .int .u64 ver] w (CNew w none hp s t x ver 8) := by
  have hb2 : Below w.heap.size w ((w.alloc (.cells #[.int .i64 s, .int .i64 t, .int .u64 x] 82)).alloc (.cells (carA none hp s t x ver 0 (.slice none 0 0) 0 false false) 100)) := by (repeat (first | exact Below.refl _ _ | assumption | refine below_alloc2 ?_ (by first | exact Nat.le_refl _ | omega) _ | refine Below.drew ?_ | refine below_drewN ?_ _ | refine below_push2 ?_ ‹_› (by first | exact Nat.le_refl _ | omega) | refine Below.setCell ?_ (by first | (simp; done) | (simp; omega) | omega) _))
  have BG := (Blk.new w #[.int .i64 s, .int .i64 t, .int .u64 x] 82).alloc (.cells (carA none hp s t x ver 0 (.slice none 0 0) 0 false false) 100)
  have BT : Blk ((w.alloc (.cells #[.int .i64 s, .int .i64 t, .int .u64 x] 82)).alloc (.cells (carA none hp s t x ver 0 (.slice none 0 0) 0 false false) 100)) (w.heap.size + 1) (carA none hp s t x ver 0 (.slice none 0 0) 0 false false) 100 := by
    have := Blk.new (w.alloc (.cells #[.int .i64 s, .int .i64 t, .int .u64 x] 82)) (carA none hp s t x ver 0 (.slice none 0 0) 0 false false) 100
    simpa using this
  have hs := shut_any s t x
  cases h1 : (shutI s t x == 18446744073709551615)
  · by_cases h2 : s < 2
    · have q2 : decide (s < 2) = true := by simpa using h2
      clear h2
      go_enter Try.func34, Try.ntmps34
      go_wp2_with fail
      refine (hs _ s0 s1 t0 t1 x0 x1).mono ?_
      rintro e w1 ⟨rfl, hb1⟩
      have hB1 := below_push2 hb2 hb1 (Nat.le_refl _)
      replace BG := BG.below hb1
      replace BT := BT.below hb1
      have g0 : w1.cell? ⟨w.heap.size, 0, none⟩ = some (.int .i64 s) := BG.at 0 rfl
      have g1 : w1.cell? ⟨w.heap.size, 1, none⟩ = some (.int .i64 t) := BG.at 1 rfl
      have f6 := BT.free 6
      have c6 : w1.cell? ⟨w.heap.size + 1, 6, none⟩ = some (.int .i64 0) := BT.at 6 rfl
      go_wp2_with fail
      go_ret
      exact ⟨rfl, by simpa [carA] using BT.set 6 (.int .i64 8), hB1.setCell (by simp) _⟩
    · have q2 : decide (s < 2) = false := by simpa using h2
      clear h2
      go_enter Try.func34, Try.ntmps34
      go_wp2_with fail
      refine (hs _ s0 s1 t0 t1 x0 x1).mono ?_
      rintro e w1 ⟨rfl, hb1⟩
      have hB1 := below_push2 hb2 hb1 (Nat.le_refl _)
      replace BG := BG.below hb1
      replace BT := BT.below hb1
      have g0 : w1.cell? ⟨w.heap.size, 0, none⟩ = some (.int .i64 s) := BG.at 0 rfl
      have g1 : w1.cell? ⟨w.heap.size, 1, none⟩ = some (.int .i64 t) := BG.at 1 rfl
      have f6 := BT.free 6
      have c6 : w1.cell? ⟨w.heap.size + 1, 6, none⟩ = some (.int .i64 0) := BT.at 6 rfl
      go_wp2_with fail
      refine (haz_nil _ _).mono ?_
      rintro e w2 ⟨rfl, rfl⟩
      go_wp2_with fail
      go_ret
      exact ⟨rfl, by simpa [carA] using BT.set 6 (.int .i64 8), hB1.setCell (by simp) _⟩
  · go_enter Try.func34, Try.ntmps34
    go_wp2_with fail
    refine (hs _ s0 s1 t0 t1 x0 x1).mono ?_
    rintro e w1 ⟨rfl, hb1⟩
    have hB1 := below_push2 hb2 hb1 (Nat.le_refl _)
    replace BG := BG.below hb1
    replace BT := BT.below hb1
    have g0 : w1.cell? ⟨w.heap.size, 0, none⟩ = some (.int .i64 s) := BG.at 0 rfl
    have g1 : w1.cell? ⟨w.heap.size, 1, none⟩ = some (.int .i64 t) := BG.at 1 rfl
    have f6 := BT.free 6
    have c6 : w1.cell? ⟨w.heap.size + 1, 6, none⟩ = some (.int .i64 0) := BT.at 6 rfl
    go_wp2_with fail
    go_ret
    exact ⟨rfl, by simpa [carA] using BT.set 6 (.int .i64 8), hB1.setCell (by simp) _⟩
theorem shut_low {s t x : Int} (h : (shutI s t x == 18446744073709551615) = false) (x0 : 0 ≤ x) : 0 ≤ s ∧ s ≤ 3 := by
  cases hg : gateB s t x
  · rw [shutI_no hg, topW_eq] at h; simp at h
  · have := gateB_bounds hg x0; omega
set_option maxHeartbeats 1600000 in
theorem cnew_not (m : Option Addr) (hp s t x ver : Int) (w : World) (hs2 : ¬ s = 2) (hs3 : ¬ s = 3) (s0 : -9223372036854775808 ≤ s) (s1 : s ≤ 9223372036854775807) (t0 : -9223372036854775808 ≤ t) (t1 : t ≤ 9223372036854775807) (x0 : 0 ≤ x) (x1 : x ≤ 18446744073709551615) :
    Calls Try.prog 34 #[.pointer m, .int .i64 hp, .agg #[.int .i64 s, .int .i64 t, .int .u64 x], .int .u64 ver] w (CNew w m hp s t x ver 8) := by
  have hb2 : Below w.heap.size w ((w.alloc (.cells #[.int .i64 s, .int .i64 t, .int .u64 x] 82)).alloc (.cells (carA m hp s t x ver 0 (.slice none 0 0) 0 false false) 100)) := by (repeat (first | exact Below.refl _ _ | assumption | refine below_alloc2 ?_ (by first | exact Nat.le_refl _ | omega) _ | refine Below.drew ?_ | refine below_drewN ?_ _ | refine below_push2 ?_ ‹_› (by first | exact Nat.le_refl _ | omega) | refine Below.setCell ?_ (by first | (simp; done) | (simp; omega) | omega) _))
  have BG := (Blk.new w #[.int .i64 s, .int .i64 t, .int .u64 x] 82).alloc (.cells (carA m hp s t x ver 0 (.slice none 0 0) 0 false false) 100)
  have BT : Blk ((w.alloc (.cells #[.int .i64 s, .int .i64 t, .int .u64 x] 82)).alloc (.cells (carA m hp s t x ver 0 (.slice none 0 0) 0 false false) 100)) (w.heap.size + 1) (carA m hp s t x ver 0 (.slice none 0 0) 0 false false) 100 := by
    have := Blk.new (w.alloc (.cells #[.int .i64 s, .int .i64 t, .int .u64 x] 82)) (carA m hp s t x ver 0 (.slice none 0 0) 0 false false) 100
    simpa using this
  have hs := shut_any s t x
  cases h1 : (shutI s t x == 18446744073709551615)
  · have hl := shut_low h1 x0
    have q2 : decide (s < 2) = true := by simp; omega
    clear hl hs2 hs3
    go_enter Try.func34, Try.ntmps34
    go_wp2_with fail
    refine (hs _ s0 s1 t0 t1 x0 x1).mono ?_
    rintro e w1 ⟨rfl, hb1⟩
    have hB1 := below_push2 hb2 hb1 (Nat.le_refl _)
    replace BG := BG.below hb1
    replace BT := BT.below hb1
    have g0 : w1.cell? ⟨w.heap.size, 0, none⟩ = some (.int .i64 s) := BG.at 0 rfl
    have g1 : w1.cell? ⟨w.heap.size, 1, none⟩ = some (.int .i64 t) := BG.at 1 rfl
    have f6 := BT.free 6
    have c6 : w1.cell? ⟨w.heap.size + 1, 6, none⟩ = some (.int .i64 0) := BT.at 6 rfl
    go_wp2_with fail
    go_ret
    exact ⟨rfl, by simpa [carA] using BT.set 6 (.int .i64 8), hB1.setCell (by simp) _⟩
  · clear hs2 hs3
    go_enter Try.func34, Try.ntmps34
    go_wp2_with fail
    refine (hs _ s0 s1 t0 t1 x0 x1).mono ?_
    rintro e w1 ⟨rfl, hb1⟩
    have hB1 := below_push2 hb2 hb1 (Nat.le_refl _)
    replace BG := BG.below hb1
    replace BT := BT.below hb1
    have g0 : w1.cell? ⟨w.heap.size, 0, none⟩ = some (.int .i64 s) := BG.at 0 rfl
    have g1 : w1.cell? ⟨w.heap.size, 1, none⟩ = some (.int .i64 t) := BG.at 1 rfl
    have f6 := BT.free 6
    have c6 : w1.cell? ⟨w.heap.size + 1, 6, none⟩ = some (.int .i64 0) := BT.at 6 rfl
    go_wp2_with fail
    go_ret
    exact ⟨rfl, by simpa [carA] using BT.set 6 (.int .i64 8), hB1.setCell (by simp) _⟩
/-- a task that is none: of no memory, or over -/
def NoCar (w : World) (t : Nat) (en : Bool) : Prop := ∃ m hp s tt x ver at_ st done, Blk w t (carA m hp s tt x ver at_ st done false en) 100 ∧ (m = none ∨ at_ = 8 ∧ ∃ o oc g gb gr A T L bs rs, m = some ⟨o, 0, none⟩ ∧ MemAt w o oc g gb gr A T L bs rs)
theorem NoCar.below {w w' : World} {t : Nat} {en : Bool} (h : NoCar w t en) (hb : Below w.heap.size w w') : NoCar w' t en := by
  obtain ⟨m, hp, s, tt, x, ver, at_, st, done, B, hm⟩ := h
  refine ⟨m, hp, s, tt, x, ver, at_, st, done, B.below hb, ?_⟩
  rcases hm with hm | ⟨ha, o, oc, g, gb, gr, A, T, L, bs, rs, e, hM⟩
  · exact .inl hm
  · exact .inr ⟨ha, o, oc, g, gb, gr, A, T, L, bs, rs, e, hM.below hb⟩
set_option maxHeartbeats 800000 in
theorem cnone_nil (w : World) : Calls Try.prog 64 #[.pointer none] w fun e w' => e = .returned (.bool true) ∧ w = w' := by
  go_enter Try.func64, Try.ntmps64
  go_wp2_with fail
  go_ret
  exact ⟨rfl, rfl⟩
set_option maxHeartbeats 800000 in
theorem cnone_no (t : Nat) (en : Bool) (w : World) (h : NoCar w t en) : Calls Try.prog 64 #[.pointer (some ⟨t, 0, none⟩)] w fun e w' => e = .returned (.bool true) ∧ w = w' := by
  obtain ⟨m, hp, s, tt, x, ver, at_, st, done, B, hm⟩ := h
  have c0 := B.at 0 rfl
  have c6 := B.at 6 rfl
  rcases hm with rfl | ⟨rfl, o, oc, g, gb, gr, A, T, L, bs, rs, rfl, hM⟩
  · go_enter Try.func64, Try.ntmps64
    go_wp2_with fail
    refine (arena_nil _).mono ?_
    rintro e w1 ⟨rfl, rfl⟩
    go_wp2_with fail
    go_ret
    exact ⟨rfl, rfl⟩
  · have hA := hM.a1
    have q : ((A : Int) == 0) = false := by simp; omega
    clear hA
    go_enter Try.func64, Try.ntmps64
    go_wp2_with fail
    refine (arena_any _ hM).mono ?_
    rintro e w1 ⟨rfl, rfl⟩
    go_wp2_with fail
    go_ret
    exact ⟨rfl, rfl⟩
set_option maxRecDepth 100000 in
set_option maxHeartbeats 1600000 in
theorem cTell_nil (w : World) : Calls Try.prog 40 #[.pointer none, .agg #[.bool true, .int .u64 0, .int .u64 0, .int .i64 0, .int .i64 0, .string ⟨#[]⟩, .string ⟨#[]⟩, .bool false, .int .i64 0, .slice none 0 0, .slice none 0 0, .slice none 0 0, .int .i64 0, .int .i64 0, .string ⟨#[]⟩, .int .u64 0, .slice none 0 0, .slice none 0 0, .slice none 0 0, .slice none 0 0, .int .i64 0, .string ⟨#[]⟩, .string ⟨#[]⟩, .int .u64 0, .int .i64 0]] w fun e w' => e = .returned (.tuple #[]) ∧ Below w.heap.size w w' := by
  have hb0 : Below w.heap.size w (w.alloc (.cells #[.bool true, .int .u64 0, .int .u64 0, .int .i64 0, .int .i64 0, .string ⟨#[]⟩, .string ⟨#[]⟩, .bool false, .int .i64 0, .slice none 0 0, .slice none 0 0, .slice none 0 0, .int .i64 0, .int .i64 0, .string ⟨#[]⟩, .int .u64 0, .slice none 0 0, .slice none 0 0, .slice none 0 0, .slice none 0 0, .int .i64 0, .string ⟨#[]⟩, .string ⟨#[]⟩, .int .u64 0, .int .i64 0] 50)) := by (repeat (first | exact Below.refl _ _ | assumption | refine below_alloc2 ?_ (by first | exact Nat.le_refl _ | omega) _ | refine Below.drew ?_ | refine below_drewN ?_ _ | refine below_push2 ?_ ‹_› (by first | exact Nat.le_refl _ | omega) | refine Below.setCell ?_ (by first | (simp; done) | (simp; omega) | omega) _))
  go_enter Try.func40, Try.ntmps40
  go_wp2_with fail
  refine (cnone_nil _).mono ?_
  rintro e w1 ⟨rfl, rfl⟩
  go_wp2_with fail
  refine bodyPost_ret (results_none rfl _ _ _) rfl ?_
  exact ⟨rfl, hb0⟩
set_option maxRecDepth 100000 in
set_option maxHeartbeats 1600000 in
theorem cTell_no (t : Nat) (en : Bool) (w : World) (h : NoCar w t en) : Calls Try.prog 40 #[.pointer (some ⟨t, 0, none⟩), .agg #[.bool true, .int .u64 0, .int .u64 0, .int .i64 0, .int .i64 0, .string ⟨#[]⟩, .string ⟨#[]⟩, .bool false, .int .i64 0, .slice none 0 0, .slice none 0 0, .slice none 0 0, .int .i64 0, .int .i64 0, .string ⟨#[]⟩, .int .u64 0, .slice none 0 0, .slice none 0 0, .slice none 0 0, .slice none 0 0, .int .i64 0, .string ⟨#[]⟩, .string ⟨#[]⟩, .int .u64 0, .int .i64 0]] w fun e w' => e = .returned (.tuple #[]) ∧ Below w.heap.size w w' := by
  have hb0 : Below w.heap.size w (w.alloc (.cells #[.bool true, .int .u64 0, .int .u64 0, .int .i64 0, .int .i64 0, .string ⟨#[]⟩, .string ⟨#[]⟩, .bool false, .int .i64 0, .slice none 0 0, .slice none 0 0, .slice none 0 0, .int .i64 0, .int .i64 0, .string ⟨#[]⟩, .int .u64 0, .slice none 0 0, .slice none 0 0, .slice none 0 0, .slice none 0 0, .int .i64 0, .string ⟨#[]⟩, .string ⟨#[]⟩, .int .u64 0, .int .i64 0] 50)) := by (repeat (first | exact Below.refl _ _ | assumption | refine below_alloc2 ?_ (by first | exact Nat.le_refl _ | omega) _ | refine Below.drew ?_ | refine below_drewN ?_ _ | refine below_push2 ?_ ‹_› (by first | exact Nat.le_refl _ | omega) | refine Below.setCell ?_ (by first | (simp; done) | (simp; omega) | omega) _))
  have h1 := h.below hb0
  have hh := h1
  obtain ⟨m, hp, s, tt, x, ver, at_, st, done, B, hm⟩ := hh
  have f9 := B.free 9
  have c9 := B.at 9 rfl
  have hself := setCell_self (i := 9) (v := .bool false) B rfl
  clear hm B
  go_enter Try.func40, Try.ntmps40
  go_wp2_with fail
  try rw [hself]
  refine (cnone_no t en _ h1).mono ?_
  rintro e w1 ⟨rfl, rfl⟩
  go_wp2_with fail
  refine bodyPost_ret (results_none rfl _ _ _) rfl ?_
  exact ⟨rfl, hb0⟩
set_option maxRecDepth 100000 in
set_option maxHeartbeats 1600000 in
theorem cNext_nil (w : World) : Calls Try.prog 36 #[.pointer none] w fun e w' => e = .returned (.tuple #[.agg (accY 0 0 0 0), .bool false]) ∧ Below w.heap.size w w' := by
  have hB : Below w.heap.size w (w.alloc (.cells (accY 0 0 0 0) 39)) := by (repeat (first | exact Below.refl _ _ | assumption | refine below_alloc2 ?_ (by first | exact Nat.le_refl _ | omega) _ | refine Below.drew ?_ | refine below_drewN ?_ _ | refine below_push2 ?_ ‹_› (by first | exact Nat.le_refl _ | omega) | refine Below.setCell ?_ (by first | (simp; done) | (simp; omega) | omega) _))
  go_enter Try.func36, Try.ntmps36
  go_wp2_with fail
  refine (cnone_nil _).mono ?_
  rintro e w1 ⟨rfl, rfl⟩
  have BR := Blk.new w (accY 0 0 0 0) 39
  go_wp2_with (refine wpList_store_row rfl 39 _ _ rfl w.heap.size _ rfl rfl 39 _ BR.h (by kernel_rfl) (by rfl) (by kernel_rfl) ?_)
  refine bodyPost_ret (v := .tuple #[.agg (accY 0 0 0 0), .bool false]) (results_cell_tmp rfl _ _ w.heap.size 39 (accY 0 0 0 0) (0, 0) _ (.bool false) rfl rfl (Blk.row BR (accY 0 0 0 0)).h Try.underlying39 rfl (by kernel_rfl)) rfl ⟨rfl, below_setRow hB (by omega) _⟩
set_option maxRecDepth 100000 in
set_option maxHeartbeats 1600000 in
theorem cNext_no (t : Nat) (en : Bool) (w : World) (h : NoCar w t en) : Calls Try.prog 36 #[.pointer (some ⟨t, 0, none⟩)] w fun e w' => e = .returned (.tuple #[.agg (accY 0 0 0 0), .bool false]) ∧ Below w.heap.size w w' := by
  have hB : Below w.heap.size w (w.alloc (.cells (accY 0 0 0 0) 39)) := by (repeat (first | exact Below.refl _ _ | assumption | refine below_alloc2 ?_ (by first | exact Nat.le_refl _ | omega) _ | refine Below.drew ?_ | refine below_drewN ?_ _ | refine below_push2 ?_ ‹_› (by first | exact Nat.le_refl _ | omega) | refine Below.setCell ?_ (by first | (simp; done) | (simp; omega) | omega) _))
  go_enter Try.func36, Try.ntmps36
  go_wp2_with fail
  refine (cnone_no t en _ (h.below hB)).mono ?_
  rintro e w1 ⟨rfl, rfl⟩
  have BR := Blk.new w (accY 0 0 0 0) 39
  go_wp2_with (refine wpList_store_row rfl 39 _ _ rfl w.heap.size _ rfl rfl 39 _ BR.h (by kernel_rfl) (by rfl) (by kernel_rfl) ?_)
  refine bodyPost_ret (v := .tuple #[.agg (accY 0 0 0 0), .bool false]) (results_cell_tmp rfl _ _ w.heap.size 39 (accY 0 0 0 0) (0, 0) _ (.bool false) rfl rfl (Blk.row BR (accY 0 0 0 0)).h Try.underlying39 rfl (by kernel_rfl)) rfl ⟨rfl, below_setRow hB (by omega) _⟩
set_option maxHeartbeats 800000 in
theorem cTurned_nil (w : World) : Calls Try.prog 38 #[.pointer none] w fun e w' => e = .returned (.bool false) ∧ w = w' := by
  go_enter Try.func38, Try.ntmps38
  go_wp2_with fail
  go_ret
  exact ⟨rfl, rfl⟩
set_option maxHeartbeats 800000 in
theorem cTurned_any (t : Nat) (m : Option Addr) (hp s tt x ver at_ : Int) (st : Value) (done : Int) (tu en : Bool) (w : World) (B : Blk w t (carA m hp s tt x ver at_ st done tu en) 100) : Calls Try.prog 38 #[.pointer (some ⟨t, 0, none⟩)] w fun e w' => e = .returned (.bool tu) ∧ w = w' := by
  have c0 := B.at 9 rfl
  go_enter Try.func38, Try.ntmps38
  go_wp2_with fail
  go_ret
  exact ⟨rfl, rfl⟩
set_option maxHeartbeats 800000 in
theorem cEnded_nil (w : World) : Calls Try.prog 39 #[.pointer none] w fun e w' => e = .returned (.bool false) ∧ w = w' := by
  go_enter Try.func39, Try.ntmps39
  go_wp2_with fail
  go_ret
  exact ⟨rfl, rfl⟩
set_option maxHeartbeats 800000 in
theorem cEnded_any (t : Nat) (m : Option Addr) (hp s tt x ver at_ : Int) (st : Value) (done : Int) (tu en : Bool) (w : World) (B : Blk w t (carA m hp s tt x ver at_ st done tu en) 100) : Calls Try.prog 39 #[.pointer (some ⟨t, 0, none⟩)] w fun e w' => e = .returned (.bool en) ∧ w = w' := by
  have c0 := B.at 10 rfl
  go_enter Try.func39, Try.ntmps39
  go_wp2_with fail
  go_ret
  exact ⟨rfl, rfl⟩
end Go.Proofs.Ytpempcefgfmniaa.MemP

/-
  claim: Cost; tasks that are none: contracts.
-/
namespace Go.Proofs.Ytpempcefgfmniaa.MemP
open Go.RowKit RefP CellP
set_option linter.unusedVariables false
set_option linter.unusedSimpArgs false
abbrev clA (m : Option Addr) (ws : Value) (many place seen : Int) (ld : Bool) (word ver : Int) : Array Value := #[.pointer m, ws, .int .i64 many, .int .i64 place, .int .i64 seen, .bool ld, .int .u64 word, .int .u64 ver]
def costI (a m : Int) : Int := if (1 ≤ a ∧ a ≤ 8192) ∧ 1 ≤ m ∧ m ≤ 8192 then 2 * a * m else 0
theorem exOpenP : openP 16385 = 0 := by decide +kernel
theorem exOpens : opensB 16385 = true := by decide +kernel
end Go.Proofs.Ytpempcefgfmniaa.MemP

/-
  The first block is got: copied, named, Block, Do.
-/
namespace Go.Proofs.Ytpempcefgfmniaa.MemP
open Go.RowKit RefP CellP
set_option linter.unusedVariables false
set_option linter.unusedSimpArgs false
/-- cells of a block behind a store of some -/
def setsA (cs : Array Value) : Nat → List Value → Array Value
  | _, [] => cs
  | o, v :: r => setsA (cs.setIfInBounds o v) (o + 1) r
theorem blk_sets {b : Nat} {T : TypeId} : ∀ (vs : List Value) (o : Nat) (w : World) (cs : Array Value), Blk w b cs T → Blk (w.setCells b o vs) b (setsA cs o vs) T
  | [], _, _, _, h => h
  | v :: r, o, w, cs, h => blk_sets r (o + 1) _ _ (h.set o v)
theorem fr_sets {S : List Nat} {b : Nat} (hb : b ∈ S) : ∀ (vs : List Value) (o : Nat) (w : World), Fr S w (w.setCells b o vs)
  | [], _, _ => Fr.refl _ _
  | v :: r, o, w => ((Fr.refl _ _).set _ _ (.inl hb)).trans (fr_sets hb r (o + 1) _)
theorem below_sets {B b : Nat} {w0 : World} (hb : B ≤ b) : ∀ (vs : List Value) (o : Nat) (w : World), Below B w0 w → Below B w0 (w.setCells b o vs)
  | [], _, _, h => h
  | v :: r, o, w, h => below_sets hb r (o + 1) _ (h.setCell (p := ⟨b, o, none⟩) hb v)
theorem there_blk {w : World} {b o n : Nat} {cs : Array Value} {T : TypeId} (h : Blk w b cs T) (hn : o + n ≤ cs.size) : w.there b o n := fun j hj => by
  refine ⟨?_, h.free _⟩
  rw [h.at (o + j) (Array.getElem?_eq_getElem (show o + j < cs.size by omega))]; rfl
/-- the first block, with rows -/
abbrev bkA (k v d : Value) : Array Value := #[.int .i64 1, .int .i64 0, .string ⟨#[]⟩, .string ⟨#[]⟩, .bool true, .int .i64 (-1), k, v, d, .int .i64 0, .int .i64 0, .string ⟨#[]⟩, .int .u64 0, nlV, nlV, nlV, nlV]
theorem setsA_bk (k v d : Value) : setsA (bkA nlV nlV nlV) 1 (ndA k v d).toList = bkA k v d := by
  simp [setsA, bkA, ndA]
set_option maxRecDepth 100000 in
set_option maxHeartbeats 800000 in
theorem stepc_nil (w : World) : Calls Try.prog 73 #[.slice none 0 0] w fun e w' => e = .returned (.slice none 0 0) ∧ w = w' := by
  have hnil : ∀ w, (binOp .eql 31 (.slice none 0 0) (.slice none 0 0)).run Try.prog w = .ok (.bool true) w := fun w => Lib.run_eql_slice_nil w _ _ none 0 0 0 0 Try.underlying31
  go_enter Try.func73, Try.ntmps73
  go_wp2_with fail
  go_ret
  exact ⟨rfl, rfl⟩
set_option maxRecDepth 100000 in
set_option maxHeartbeats 800000 in
theorem wordc_nil (w : World) : Calls Try.prog 74 #[.slice none 0 0] w fun e w' => e = .returned (.slice none 0 0) ∧ w = w' := by
  have hnil : ∀ w, (binOp .eql 24 (.slice none 0 0) (.slice none 0 0)).run Try.prog w = .ok (.bool true) w := fun w => Lib.run_eql_slice_nil w _ _ none 0 0 0 0 Try.underlying24
  go_enter Try.func74, Try.ntmps74
  go_wp2_with fail
  go_ret
  exact ⟨rfl, rfl⟩
set_option maxRecDepth 100000 in
set_option maxHeartbeats 800000 in
theorem pairc_nil (w : World) : Calls Try.prog 75 #[.slice none 0 0] w fun e w' => e = .returned (.slice none 0 0) ∧ w = w' := by
  have hnil : ∀ w, (binOp .eql 28 (.slice none 0 0) (.slice none 0 0)).run Try.prog w = .ok (.bool true) w := fun w => Lib.run_eql_slice_nil w _ _ none 0 0 0 0 Try.underlying28
  go_enter Try.func75, Try.ntmps75
  go_wp2_with fail
  go_ret
  exact ⟨rfl, rfl⟩
set_option maxRecDepth 100000 in
set_option maxHeartbeats 3200000 in
theorem copied_first (w : World) : Calls Try.prog 49 #[.agg (bkA nlV nlV nlV)] w fun e w' => (∃ b1 b2 b3, e = .returned (.agg (bkA (e0V b1) (e0V b2) (e0V b3)))) ∧ Below w.heap.size w w' := by
  have hb0 : Below w.heap.size w ((w.alloc (.cells (bkA nlV nlV nlV) 35)).alloc (.cells #[.int .i64 0, .int .i64 0, .string ⟨#[]⟩, .string ⟨#[]⟩, .bool false, .int .i64 0, nlV, nlV, nlV, .int .i64 0, .int .i64 0, .string ⟨#[]⟩, .int .u64 0, nlV, nlV, nlV, nlV] 35)) := by (repeat (first | exact Below.refl _ _ | assumption | refine below_alloc2 ?_ (by first | exact Nat.le_refl _ | omega) _ | refine Below.drew ?_ | refine below_drewN ?_ _ | refine below_push2 ?_ ‹_› (by first | exact Nat.le_refl _ | omega) | refine Below.setCell ?_ (by first | (simp; done) | (simp; omega) | omega) _))
  have BB := (Blk.new w (bkA nlV nlV nlV) 35).alloc (.cells #[.int .i64 0, .int .i64 0, .string ⟨#[]⟩, .string ⟨#[]⟩, .bool false, .int .i64 0, nlV, nlV, nlV, .int .i64 0, .int .i64 0, .string ⟨#[]⟩, .int .u64 0, nlV, nlV, nlV, nlV] 35)
  have BR : Blk ((w.alloc (.cells (bkA nlV nlV nlV) 35)).alloc (.cells #[.int .i64 0, .int .i64 0, .string ⟨#[]⟩, .string ⟨#[]⟩, .bool false, .int .i64 0, nlV, nlV, nlV, .int .i64 0, .int .i64 0, .string ⟨#[]⟩, .int .u64 0, nlV, nlV, nlV, nlV] 35)) (w.heap.size + 1) #[.int .i64 0, .int .i64 0, .string ⟨#[]⟩, .string ⟨#[]⟩, .bool false, .int .i64 0, nlV, nlV, nlV, .int .i64 0, .int .i64 0, .string ⟨#[]⟩, .int .u64 0, nlV, nlV, nlV, nlV] 35 := by
    have := Blk.new (w.alloc (.cells (bkA nlV nlV nlV) 35)) #[.int .i64 0, .int .i64 0, .string ⟨#[]⟩, .string ⟨#[]⟩, .bool false, .int .i64 0, nlV, nlV, nlV, .int .i64 0, .int .i64 0, .string ⟨#[]⟩, .int .u64 0, nlV, nlV, nlV, nlV] 35
    simpa using this
  go_enter Try.func49, Try.ntmps49
  go_wp2_with fail
  generalize ((w.alloc (.cells (bkA nlV nlV nlV) 35)).alloc (.cells #[.int .i64 0, .int .i64 0, .string ⟨#[]⟩, .string ⟨#[]⟩, .bool false, .int .i64 0, nlV, nlV, nlV, .int .i64 0, .int .i64 0, .string ⟨#[]⟩, .int .u64 0, nlV, nlV, nlV, nlV] 35)) = w1 at hb0 BB BR ⊢
  refine (nclone_first _).mono ?_
  rintro e w2 ⟨⟨b1, b2, b3, rfl⟩, hb2⟩
  have BB2 := BB.below hb2
  have BR2 := BR.below hb2
  have hB2 := below_push2 hb0 hb2 (Nat.le_refl _)
  have hth := there_blk (o := 1) (n := 8) BB2 (by decide)
  clear hb0 BB BR hb2
  go_upto_region 2 with (refine wpList_store_mid rfl 27 _ _ rfl w.heap.size 1 (ndA (e0V b1) (e0V b2) (e0V b3)) rfl rfl hth (by kernel_rfl) (by kernel_rfl) ?_)
  have BB3 := blk_sets (ndA (e0V b1) (e0V b2) (e0V b3)).toList 1 _ _ BB2
  rw [setsA_bk] at BB3
  have BR3 := (fr_sets (S := [w.heap.size]) (b := w.heap.size) (by simp) (ndA (e0V b1) (e0V b2) (e0V b3)).toList 1 w2).blk BR2 (by simp)
  have hB3 := below_sets (b := w.heap.size) (Nat.le_refl _) (ndA (e0V b1) (e0V b2) (e0V b3)).toList 1 _ hB2
  generalize w2.setCells w.heap.size 1 (ndA (e0V b1) (e0V b2) (e0V b3)).toList = w3 at BB3 BR3 hB3 ⊢
  clear hth BB2 BR2 hB2
  have c13 := BB3.at 13 rfl
  have c14 := BB3.at 14 rfl
  have c15 := BB3.at 15 rfl
  have c16 := BB3.at 16 rfl
  have f13 := BB3.free 13
  have f14 := BB3.free 14
  have f15 := BB3.free 15
  have f16 := BB3.free 16
  have s13 := setCell_self (i := 13) (v := .slice none 0 0) BB3 rfl
  have s14 := setCell_self (i := 14) (v := .slice none 0 0) BB3 rfl
  have s15 := setCell_self (i := 15) (v := .slice none 0 0) BB3 rfl
  have s16 := setCell_self (i := 16) (v := .slice none 0 0) BB3 rfl
  go_wp2_with fail
  refine (stepc_nil _).mono ?_
  rintro e w4 ⟨rfl, rfl⟩
  go_wp2_with fail
  try rw [s14]
  refine (wordc_nil _).mono ?_
  rintro e w4 ⟨rfl, rfl⟩
  go_wp2_with fail
  try rw [s15]
  refine (pairc_nil _).mono ?_
  rintro e w4 ⟨rfl, rfl⟩
  go_wp2_with fail
  try rw [s13]
  refine (pairc_nil _).mono ?_
  rintro e w4 ⟨rfl, rfl⟩
  go_wp2_with (first
    | (refine wpList_load_row rfl 35 _ rfl w.heap.size rfl 35 _ (0, 0) _ BB3.h Try.underlying35 rfl (by kernel_rfl) ?_)
    | (refine wpList_store_row rfl 35 _ _ rfl (w.heap.size + 1) _ rfl rfl 35 _ BR3.h (by kernel_rfl) (by rfl) (by kernel_rfl) ?_))
  refine bodyPost_ret (results_cell_row rfl _ _ (w.heap.size + 1) 35 (bkA (e0V b1) (e0V b2) (e0V b3)) (0, 0) _ rfl (Blk.row BR3 (bkA (e0V b1) (e0V b2) (e0V b3))).h Try.underlying35 rfl (by kernel_rfl)) rfl ⟨⟨b1, b2, b3, rfl⟩, below_setRow hB3 (by omega) _⟩
theorem g1 : openG 16385 = 1 := by decide +kernel
set_option maxHeartbeats 1600000 in
theorem named_first {o oc g gb gr A T : Nat} {L : List (Int × Int)} {bs rs : List (List Value)} (w : World) (h : MemAt w o oc g gb gr A T L bs rs) (hu : loadW L (atI A T 1 0) = useI 1 1) : Calls Try.prog 48 #[.pointer (some ⟨o, 0, none⟩), .int .u64 16385] w fun e w' => e = .returned (.tuple #[.int .i64 0, .bool true]) ∧ Below w.heap.size w w' := by
  have hA := h.a1
  have q1 : decide ((A : Int) ≤ 0) = false := by simp; omega
  have hA1 : (1 : Int) ≤ (A : Int) := by omega
  go_enter Try.func48, Try.ntmps48
  go_wp2_with fail
  refine (open_any 16385 _ (by omega) (by omega)).mono ?_
  rw [exOpenP, exOpens, g1]
  rintro e w1 ⟨rfl, hb1⟩
  replace h := h.below hb1
  go_wp2_with fail
  refine (arena_any _ h).mono ?_
  rintro e w2 ⟨rfl, rfl⟩
  go_wp2_with fail
  refine (muse_any 0 _ h (by omega) (by omega)).mono ?_
  rintro e w2 ⟨rfl, hb2⟩
  replace h := h.below hb2
  have hB2 := below_push2 hb1 hb2 (Nat.le_refl _)
  go_wp2_with fail
  refine (mload_any _ _ h).mono ?_
  rw [hu]
  rintro e w3 ⟨rfl, hb3⟩
  have hB3 := below_push2 hB2 hb3 (Nat.le_refl _)
  go_wp2_with fail
  refine (use_any 1 1 _ (by omega) (by omega) (by omega) (by omega)).mono ?_
  rintro e w4 ⟨rfl, rfl⟩
  go_wp2_with fail
  go_ret2
  exact ⟨rfl, hB3⟩
set_option maxRecDepth 100000 in
set_option maxHeartbeats 3200000 in
theorem block_first {o oc g gb gr A T : Nat} {L : List (Int × Int)} {bs rs : List (List Value)} (w : World) (h : MemAt w o oc g gb gr A T L bs rs) (hu : loadW L (atI A T 1 0) = useI 1 1) (h0 : bs.getD 0 [] = eb) : Calls Try.prog 13 #[.pointer (some ⟨o, 0, none⟩), .int .u64 16385] w fun e w' => (∃ b1 b2 b3, e = .returned (.tuple #[.agg (bkA (e0V b1) (e0V b2) (e0V b3)), .bool true])) ∧ Below w.heap.size w w' := by
  have hb0 : Below w.heap.size w (w.alloc (.cells #[.int .i64 0, .int .i64 0, .string ⟨#[]⟩, .string ⟨#[]⟩, .bool false, .int .i64 0, nlV, nlV, nlV, .int .i64 0, .int .i64 0, .string ⟨#[]⟩, .int .u64 0, nlV, nlV, nlV, nlV] 35)) := by (repeat (first | exact Below.refl _ _ | assumption | refine below_alloc2 ?_ (by first | exact Nat.le_refl _ | omega) _ | refine Below.drew ?_ | refine below_drewN ?_ _ | refine below_push2 ?_ ‹_› (by first | exact Nat.le_refl _ | omega) | refine Below.setCell ?_ (by first | (simp; done) | (simp; omega) | omega) _))
  have hA := h.a1
  have hA1 : (0 : Int) < (A : Int) := by omega
  go_enter Try.func13, Try.ntmps13
  go_wp2_with fail
  refine (named_first _ (h.below hb0) hu).mono ?_
  rintro e w1 ⟨rfl, hb1⟩
  have hB1 := below_push2 hb0 hb1 (Nat.le_refl _)
  have BR := (Blk.new w #[.int .i64 0, .int .i64 0, .string ⟨#[]⟩, .string ⟨#[]⟩, .bool false, .int .i64 0, nlV, nlV, nlV, .int .i64 0, .int .i64 0, .string ⟨#[]⟩, .int .u64 0, nlV, nlV, nlV, nlV] 35).below hb1
  have h1 := (h.below hb0).below hb1
  have d9 : w1.cell? ⟨o, 9, none⟩ = some (.slice (some ⟨gb, 0, none⟩) A A) := h1.head.at 9 rfl
  have hr : w1.rangeAt gb 0 (bkA nlV nlV nlV).toList := by
    intro j v hj
    have hj17 : j < 17 := by
      by_cases e : j < 17
      · exact e
      · rw [List.getElem?_eq_none (by simp; omega)] at hj; cases hj
    rw [Nat.zero_add, h1.blocks.at j (raw_at0 bs (by rw [h1.lb]; omega) j hj17), h0]
    rcases lt17 hj17 with e | e | e | e | e | e | e | e | e | e | e | e | e | e | e | e | e <;> subst e <;> simpa [rawF, eb] using hj
  clear hb0 hb1 h1
  go_wp2_with (refine wpList_load_mid rfl 35 _ rfl gb 0 rfl (bkA nlV nlV nlV).toList _ hr Try.underlying35 rfl (by kernel_rfl) ?_)
  refine (copied_first _).mono ?_
  rintro e w2 ⟨⟨b1, b2, b3, rfl⟩, hb2⟩
  have hB2 := below_push2 hB1 hb2 (Nat.le_refl _)
  replace BR := BR.below hb2
  go_wp2_with (refine wpList_store_row rfl 35 _ _ rfl w.heap.size _ rfl rfl 35 _ BR.h (by kernel_rfl) (by rfl) (by kernel_rfl) ?_)
  refine bodyPost_ret (v := .tuple #[.agg (bkA (e0V b1) (e0V b2) (e0V b3)), .bool true]) (results_cell_tmp rfl _ _ w.heap.size 35 (bkA (e0V b1) (e0V b2) (e0V b3)) (0, 0) _ (.bool true) rfl rfl (Blk.row BR (bkA (e0V b1) (e0V b2) (e0V b3))).h Try.underlying35 rfl (by kernel_rfl)) rfl ⟨⟨b1, b2, b3, rfl⟩, below_setRow hB2 (by omega) _⟩
end Go.Proofs.Ytpempcefgfmniaa.MemP

/-
  bowerref26.New: the walk.
-/
namespace Go.Proofs.Ytpempcefgfmniaa.MemP
open Go.RowKit RefP CellP
set_option linter.unusedVariables false
set_option linter.unusedSimpArgs false
/-- an owned row that is not empty: its block -/
theorem own_block {α : Type} {k : Nat} {f : α → Nat → Value} {d : α} {w : World} {base : Nat} {e : TypeId} {a : Option Addr} {c : Nat} {l : List α} (h : OwnR k f d w base e a c l) (h0 : 0 < l.length) : ∃ g cur, a = some ⟨g, 0, none⟩ ∧ base ≤ g ∧ Blk w g cur e ∧ l.length * k ≤ cur.size := by
  rcases h.own.2 with q | ⟨g, cap, cur, e', hg, hh, hn, hm, hs, r⟩
  · have := q.2; omega
  · injection e' with e1 e2 e3
    refine ⟨g, cur, e1, hg, ⟨hh⟩, ?_⟩
    rw [hs]
    exact Nat.mul_le_mul_right _ hn
set_option maxRecDepth 100000 in
set_option maxHeartbeats 6400000 in
theorem dmnew (A T : Nat) (gen : Int) (w : World) (hA1 : 1 ≤ A) (hA2 : A ≤ 8192) (hT1 : 1 ≤ T) (hT2 : T ≤ 16) (g0 : 0 ≤ gen) (g1 : gen < 4294967295) :
    Calls Try.prog 29 #[.int .i64 A, .int .i64 T, .int .u64 gen] w fun e w' => (∃ a1 n1 c1 a2 n2 c2 a3 n3 c3, e = .returned (.agg (dmemA A T a1 n1 c1 a2 n2 c2 a3 n3 c3))) ∧ Below w.heap.size w w' := by
  go_enter Try.func29, Try.ntmps29
  go_wp2_with fail
  have R0 : DN w A T none 0 [] none 0 [] none 0 [] ((w.alloc (.cells (dmemA 0 0 none 0 0 none 0 0 none 0 0) 69)).alloc (.cells (dmemA A T none 0 0 none 0 0 none 0 0) 69)) := by
    refine ⟨by (repeat (first | exact Below.refl _ _ | assumption | refine below_alloc2 ?_ (by first | exact Nat.le_refl _ | omega) _ | refine Below.drew ?_ | refine below_drewN ?_ _ | refine below_push2 ?_ ‹_› (by first | exact Nat.le_refl _ | omega) | refine Below.setCell ?_ (by first | (simp; done) | (simp; omega) | omega) _)), (Blk.new w _ _).alloc _, ?_, OwnR.nil _ _ _ _ _ _, OwnR.nil _ _ _ _ _ _, OwnR.nil _ _ _ _ _ _, fun q q' h => by simp [Value.ownBlock] at h, fun q q' h => by simp [Value.ownBlock] at h, fun q q' h => by simp [Value.ownBlock] at h⟩
    have := Blk.new (w.alloc (.cells (dmemA 0 0 none 0 0 none 0 0 none 0 0) 69)) (dmemA A T none 0 0 none 0 0 none 0 0) 69
    simpa using this
  go_loopw [8] (fun i wr => ∃ k : Nat, k ≤ A ∧ i = .int .i64 k ∧ ∃ a1 c1 l1 a2 c2 l2, (k ≤ l1.length ∧ l1.length ≤ k) ∧ (k ≤ l2.length ∧ l2.length ≤ k) ∧ DN w A T a1 c1 l1 a2 c2 l2 none 0 [] wr) (fun i _ => A - (intOf i).toNat)
  case atStart => exact ⟨0, Nat.zero_le _, rfl, none, 0, [], none, 0, [], by simp, by simp, R0⟩
  case round =>
    clear R0
    obtain ⟨k, hk, rfl, a1, c1, l1, a2, c2, l2, hl1, hl2, R⟩ := hrel
    by_cases hlt : k < A
    · have hlt' : (k : Int) < (A : Int) := by omega
      have m2 : wr.cell? ⟨w.heap.size + 1, 2, none⟩ = some (.slice a1 l1.length c1) := R.m.at 2 rfl
      have hb1 : Below wr.heap.size wr (wr.alloc (.cells #[.int .u64 0, .int .u64 0] 76)) := (Below.refl _ wr).alloc (Nat.le_refl _) _
      have Ra1 := R.below hb1
      obtain ⟨gq1, cq1, wq1, K1⟩ := addCell (w.heap.size + 2) Ra1.o1 0 (Blk.new wr #[.int .u64 0, .int .u64 0] 76) (by omega) (by have := Ra1.m.lt; omega)
      have hrun1 := Lib.hid K1.run
      have Rb1 := Ra1.add1 K1
      have hlq1 := OwnR.lt Ra1.o1
      have Bq1 := Ra1.m.grown K1.grown (fun e => by have := (hlq1 _ e.symm).1; omega)
      have hml1 := R.m.lt
      clear K1 hlq1
      have x2 := Bq1.at 2 rfl
      have y2 := Bq1.free 2
      go_upto_region 6 with (at_builtin; refine wpList_append_run hrun1.out rfl (by rfl) (by rfl) (by rfl) ?_)
      generalize wq1.setCell ⟨w.heap.size + 1, 2, none⟩ (.slice (some ⟨gq1, 0, none⟩) (l1.length + 1) cq1) = wx at Rb1 ⊢
      clear hrun1 x2 y2 Bq1 Ra1 R m2 hb1 hml1
      have m3 : wx.cell? ⟨w.heap.size + 1, 3, none⟩ = some (.slice a2 l2.length c2) := Rb1.m.at 3 rfl
      have hb2 : Below wx.heap.size wx (wx.alloc (.cells zb.toArray 35)) := (Below.refl _ wx).alloc (Nat.le_refl _) _
      have Ra2 := Rb1.below hb2
      obtain ⟨gq2, cq2, wq2, K2⟩ := addBlk (w.heap.size + 2) Ra2.o2  (Blk.new wx zb.toArray 35) (by omega) (by have := Ra2.m.lt; omega)
      have hrun2 := Lib.hid K2.run
      have Rb2 := Ra2.add2 K2
      have hlq2 := OwnR.lt Ra2.o2
      have Bq2 := Ra2.m.grown K2.grown (fun e => by have := (hlq2 _ e.symm).1; omega)
      have hml2 := Rb1.m.lt
      clear K2 hlq2
      have x3 := Bq2.at 3 rfl
      have y3 := Bq2.free 3
      go_wp2_with (at_builtin; refine wpList_append_run hrun2.out rfl (by rfl) (by rfl) (by rfl) ?_)
      go_roundw
      case rel => exact ⟨k + 1, by omega, by go_num, _, _, _, _, _, _, by simp; omega, by simp; omega, Rb2⟩
      case measure => simp [intOf]; omega
    · obtain rfl : k = A := by omega
      clear hlt
      have hu : 0 ≤ useI 0 gen ∧ useI 0 gen ≤ 18446744073709551615 := by unfold useI topW; split <;> omega
      go_wp2_with fail
      go_loopw [9] (fun i wr => ∃ k' : Nat, k' ≤ k ∧ i = .int .i64 k' ∧ ∃ a1 c1 l1, (k + k' ≤ l1.length ∧ l1.length ≤ k + k') ∧ DN w k T a1 c1 l1 a2 c2 l2 none 0 [] wr) (fun i _ => k - (intOf i).toNat)
      case atStart => exact ⟨0, Nat.zero_le _, rfl, _, _, l1, by omega, R⟩
      case round =>
        clear R
        obtain ⟨k', hk', rfl, a1, c1, l1, hl1, R⟩ := hrel
        by_cases hlt : k' < k
        · have hlt' : (k' : Int) < (k : Int) := by omega
          have m2 : wr.cell? ⟨w.heap.size + 1, 2, none⟩ = some (.slice a1 l1.length c1) := R.m.at 2 rfl
          have hd : Below wr.heap.size wr wr.drew := (Below.refl _ _).drew
          have hb1 : Below wr.heap.size wr ((wr.alloc (.cells #[.int .u64 (useI 0 gen), .int .u64 0] 76)).drew) := ((Below.refl _ wr).alloc (Nat.le_refl _) _).drew
          have Ra := R.below hb1
          obtain ⟨gq, cq, wq, K⟩ := addCell (w.heap.size + 2) Ra.o1 (useI 0 gen) (Blk.new wr #[.int .u64 (useI 0 gen), .int .u64 0] 76).drew (by omega) (by have := Ra.m.lt; omega)
          have hrun := Lib.hid K.run
          have Rb := Ra.add1 K
          have hlq := OwnR.lt Ra.o1
          have Bq := Ra.m.grown K.grown (fun e => by have := (hlq _ e.symm).1; omega)
          have x2 := Bq.at 2 rfl
          have y2 := Bq.free 2
          have hml := R.m.lt
          have hus := duse_any 0 gen wr.drew (by omega) (by omega) (by omega) (by omega)
          clear K hlq Bq Ra hb1
          go_upto_region 10 with (fail)
          go_region_law (first
            | ((with_reducible (show @ite _ _ _ (Oper.wp _ _ _ ((wr.alloc (.cells #[.int .u64 (useI 0 gen), .int .u64 0] 76)).drew) _ _) _)); refine step_append_run hrun.out rfl (by rfl) (by rfl) (by rfl) ?_)
            | (go_simp; go_at_call 42; refine hus.mono ?_; rintro e wx ⟨rfl, rfl⟩))
          all_goals
            go_wp2_with fail
            go_roundw
            case rel => exact ⟨k' + 1, by omega, by go_num, _, _, _, by simp; omega, Rb⟩
            case measure => simp [intOf]; omega
        · obtain rfl : k' = k := by omega
          clear hlt hu
          have hw5 : IntKind.i64.wrap (5 * (T : Int)) = 5 * (T : Int) := by rw [IntKind.wrap_i64]; omega
          have hw6 : IntKind.i64.wrap (5 * (T : Int) + 1) = 5 * (T : Int) + 1 := by rw [IntKind.wrap_i64]; omega
          go_wp2_with fail
          go_loopw [10] (fun i wr => ∃ j : Nat, j ≤ 5 * T + 1 ∧ i = .int .i64 j ∧ ∃ a1 c1 l1, (k' + k' + j ≤ l1.length ∧ l1.length ≤ k' + k' + j) ∧ DN w k' T a1 c1 l1 a2 c2 l2 none 0 [] wr) (fun i _ => 5 * T + 1 - (intOf i).toNat)
          case atStart => exact ⟨0, Nat.zero_le _, rfl, _, _, l1, by omega, R⟩
          case round =>
            clear R
            obtain ⟨j, hj, rfl, a1, c1, l1, hl1, R⟩ := hrel
            by_cases hlt : j < 5 * T + 1
            · have hlt' : (j : Int) < 5 * (T : Int) + 1 := by omega
              have m2 : wr.cell? ⟨w.heap.size + 1, 2, none⟩ = some (.slice a1 l1.length c1) := R.m.at 2 rfl
              have hb1 : Below wr.heap.size wr (wr.alloc (.cells #[.int .u64 0, .int .u64 0] 76)) := (Below.refl _ wr).alloc (Nat.le_refl _) _
              have Ra1 := R.below hb1
              obtain ⟨gq1, cq1, wq1, K1⟩ := addCell (w.heap.size + 2) Ra1.o1 0 (Blk.new wr #[.int .u64 0, .int .u64 0] 76) (by omega) (by have := Ra1.m.lt; omega)
              have hrun1 := Lib.hid K1.run
              have Rb1 := Ra1.add1 K1
              have hlq1 := OwnR.lt Ra1.o1
              have Bq1 := Ra1.m.grown K1.grown (fun e => by have := (hlq1 _ e.symm).1; omega)
              have hml1 := R.m.lt
              clear K1 hlq1
              have x2 := Bq1.at 2 rfl
              have y2 := Bq1.free 2
              go_wp2_with (at_builtin; refine wpList_append_run hrun1.out rfl (by rfl) (by rfl) (by rfl) ?_)
              go_roundw
              case rel => exact ⟨j + 1, by omega, by go_num, _, _, _, by simp; omega, Rb1⟩
              case measure => simp [intOf]; omega
            · have hge : 5 * (T : Int) + 1 ≤ (j : Int) := by omega
              go_wp2_with fail
              clear hge
              go_loopw [11] (fun i wr => ∃ q : Nat, q ≤ T ∧ i = .int .i64 q ∧ ∃ a3 c3 l3, (q ≤ l3.length ∧ l3.length ≤ q) ∧ DN w k' T a1 c1 l1 a2 c2 l2 a3 c3 l3 wr) (fun i _ => T - (intOf i).toNat)
              case atStart => exact ⟨0, Nat.zero_le _, rfl, _, _, [], by simp, R⟩
              case round =>
                clear R
                obtain ⟨q, hq, rfl, a3, c3, l3, hl3, R⟩ := hrel
                by_cases hlt2 : q < T
                · have hlt' : (q : Int) < (T : Int) := by omega
                  have m4 : wr.cell? ⟨w.heap.size + 1, 4, none⟩ = some (.slice a3 l3.length c3) := R.m.at 4 rfl
                  have hb1 : Below wr.heap.size wr (wr.alloc (.cells zo.toArray 37)) := (Below.refl _ wr).alloc (Nat.le_refl _) _
                  have Ra1 := R.below hb1
                  obtain ⟨gq1, cq1, wq1, K1⟩ := addOp (w.heap.size + 2) Ra1.o3  (Blk.new wr zo.toArray 37) (by omega) (by have := Ra1.m.lt; omega)
                  have hrun1 := Lib.hid K1.run
                  have Rb1 := Ra1.add3 K1
                  have hlq1 := OwnR.lt Ra1.o3
                  have Bq1 := Ra1.m.grown K1.grown (fun e => by have := (hlq1 _ e.symm).1; omega)
                  have hml1 := R.m.lt
                  clear K1 hlq1
                  have x4 := Bq1.at 4 rfl
                  have y4 := Bq1.free 4
                  go_wp2_with (at_builtin; refine wpList_append_run hrun1.out rfl (by rfl) (by rfl) (by rfl) ?_)
                  go_roundw
                  case rel => exact ⟨q + 1, by omega, by go_num, _, _, _, by simp; omega, Rb1⟩
                  case measure => simp [intOf]; omega
                · have hge : (T : Int) ≤ (q : Int) := by omega
                  obtain ⟨b1, cur1, rfl, hb1, B1, hc1⟩ := own_block R.o1 (by omega)
                  obtain ⟨b2, cur2, rfl, hb2, B2, hc2⟩ := own_block R.o2 (by omega)
                  have hne12 : b1 ≠ b2 := R.n12 b1 b2 rfl rfl
                  have hB := R.b
                  have Z := R.z
                  have M := R.m
                  have m2 : wr.cell? ⟨w.heap.size + 1, 2, none⟩ = some (.slice (some ⟨b1, 0, none⟩) l1.length c1) := M.at 2 rfl
                  have hk1 : (k' : Int) < (l1.length : Int) := by omega
                  have hwg : IntKind.u64.wrap (gen + 1) = gen + 1 := by rw [IntKind.wrap_u64]; omega
                  have hus := duse_any 1 (gen + 1) wr.drew (by omega) (by omega) (by omega) (by omega)
                  have e1 := B1.at (k' * 2) (Array.getElem?_eq_getElem (show k' * 2 < cur1.size by omega))
                  have y1 := B1.free (k' * 2)
                  have hk0 : (0 : Int) ≤ (k' : Int) := by omega
                  clear R hge
                  go_upto_region 19 with (fail)
                  go_cut [] (fun wx => wx = (wr.setCell ⟨b1, k' * 2, none⟩ (.int .u64 (useI 1 (gen + 1)))).drew)
                  case first =>
                    go_region_with (go_at_call 42; refine hus.mono ?_; rintro e wx ⟨rfl, rfl⟩)
                    all_goals
                      go_wp2_with fail
                      go_meet
                      exact rfl
                  case rest =>
                    obtain rfl := hcut
                    have F1 : Fr [b1] wr (wr.setCell ⟨b1, k' * 2, none⟩ (.int .u64 (useI 1 (gen + 1)))).drew := ((Fr.refl [b1] wr).set _ _ (.inl (by simp))).trans (Fr.of_below (Below.refl _ _).drew)
                    replace hB := (hB.setCell (p := ⟨b1, k' * 2, none⟩) (by show w.heap.size ≤ b1; omega) (.int .u64 (useI 1 (gen + 1)))).drew
                    replace Z := F1.blk Z (by simp; omega)
                    replace M := F1.blk M (by simp; omega)
                    replace B2 := F1.blk B2 (by simp; omega)
                    replace B1 := (B1.set (k' * 2) (.int .u64 (useI 1 (gen + 1)))).drew
                    generalize (wr.setCell ⟨b1, k' * 2, none⟩ (.int .u64 (useI 1 (gen + 1)))).drew = wy at hB Z M B1 B2 ⊢
                    clear m2 e1 y1 F1 hus
                    have m2 : wy.cell? ⟨w.heap.size + 1, 2, none⟩ = some (.slice (some ⟨b1, 0, none⟩) l1.length c1) := M.at 2 rfl
                    have hpk := dpack_any 0 (gen + 1) wy.drew (by omega) (by omega) (by omega) (by omega)
                    have e1 := B1.at 0 (Array.getElem?_eq_getElem (show 0 < (cur1.setIfInBounds (k' * 2) (.int .u64 (useI 1 (gen + 1)))).size by simp; omega))
                    have y1 := B1.free 0
                    have hl0 : (0 : Int) < (l1.length : Int) := by omega
                    go_upto_region 20 with (fail)
                    go_cut [] (fun wx => wx = (wy.setCell ⟨b1, 0, none⟩ (.int .u64 (packI 0 (gen + 1)))).drew)
                    case first =>
                      go_region_with (go_at_call 43; refine hpk.mono ?_; rintro e wx ⟨rfl, rfl⟩)
                      all_goals
                        go_wp2_with fail
                        go_meet
                        exact rfl
                    case rest =>
                      obtain rfl := hcut
                      have F2 : Fr [b1] wy (wy.setCell ⟨b1, 0, none⟩ (.int .u64 (packI 0 (gen + 1)))).drew := ((Fr.refl [b1] wy).set _ _ (.inl (by simp))).trans (Fr.of_below (Below.refl _ _).drew)
                      replace hB := (hB.setCell (p := ⟨b1, 0, none⟩) (by show w.heap.size ≤ b1; omega) (.int .u64 (packI 0 (gen + 1)))).drew
                      replace Z := F2.blk Z (by simp; omega)
                      replace M := F2.blk M (by simp; omega)
                      replace B2 := F2.blk B2 (by simp; omega)
                      generalize (wy.setCell ⟨b1, 0, none⟩ (.int .u64 (packI 0 (gen + 1)))).drew = wz at hB Z M B2 ⊢
                      clear m2 e1 y1 F2 hpk B1 hl0
                      have m3 : wz.cell? ⟨w.heap.size + 1, 3, none⟩ = some (.slice (some ⟨b2, 0, none⟩) l2.length c2) := M.at 3 rfl
                      have hth := there_blk (o := 0) (n := 17) B2 (by omega)
                      have hl20 : (0 : Int) < (l2.length : Int) := by omega
                      have F3 := fr_sets (S := [b2]) (b := b2) (by simp) eb 0 wz
                      have hB3 := below_sets (b := b2) (show w.heap.size ≤ b2 by omega) eb 0 _ hB
                      have Z3 := F3.blk Z (by simp; omega)
                      have M3 := F3.blk M (by simp; omega)
                      generalize hX : wz.setCells b2 0 eb = wu at F3 hB3 Z3 M3
                      replace hX := Lib.hid hX
                      go_wp2_with (first
                        | (refine wpList_store_mid rfl 35 _ _ rfl b2 0 eb.toArray rfl rfl hth (by kernel_rfl) (by kernel_rfl) ?_; rw [show eb.toArray.toList = eb from rfl, hX.out])
                        | (refine wpList_load_row rfl 69 _ rfl (w.heap.size + 1) rfl 69 _ (0, 0) _ M3.h Try.underlying69 rfl (by kernel_rfl) ?_)
                        | (refine wpList_store_row rfl 69 _ _ rfl w.heap.size _ rfl rfl 69 _ Z3.h (by kernel_rfl) (by rfl) (by kernel_rfl) ?_))
                      refine bodyPost_ret (results_cell_row rfl _ _ w.heap.size 69 (dmemA k' T (some ⟨b1, 0, none⟩) l1.length c1 (some ⟨b2, 0, none⟩) l2.length c2 a3 l3.length c3) (0, 0) _ rfl (Blk.row Z3 _).h Try.underlying69 rfl (by kernel_rfl)) rfl ⟨⟨_, _, _, _, _, _, _, _, _, rfl⟩, below_setRow hB3 (by omega) _⟩
end Go.Proofs.Ytpempcefgfmniaa.MemP

/-
  read: New, none, Next: contracts.
-/
namespace Go.Proofs.Ytpempcefgfmniaa.MemP
open Go.RowKit RefP CellP
set_option linter.unusedVariables false
set_option linter.unusedSimpArgs false
theorem quiet_of_x {P : Program} {f : Nat} {args : Array Value} {w0 : World} {n : Nat} {v : Value} (h : Calls P f args (w0.drewN n) fun e w' => e = .returned v ∧ ∃ k, w' = (w0.drewN n).drewN k) : Calls P f args (w0.drewN n) fun e w'' => e = .returned v ∧ ∃ m, w'' = w0.drewN m :=
  h.mono fun e w'' h => by
    obtain ⟨he, k, hk⟩ := h
    exact ⟨he, n + k, by rw [hk, World.drewN_drewN]⟩
set_option maxHeartbeats 1600000 in
theorem at_nilx (r i : Int) (w : World) : Calls Try.prog 52 #[.pointer none, .int .i64 r, .int .i64 i] w fun e w' => e = .returned (.int .i64 (-1)) ∧ ∃ n, w' = w.drewN n := by
  go_enter Try.func52, Try.ntmps52
  go_wp2_with fail
  go_quiet (exact Calls.quiet_of_same ((none_nil _).flip))
  go_wp2_with fail
  go_ret
  exact ⟨rfl, _, rfl⟩
set_option maxHeartbeats 800000 in
theorem node_nilx (i : Int) (w : World) : Calls Try.prog 22 #[.pointer none, .int .i64 i] w fun e w' => e = .returned (.int .i64 (-1)) ∧ ∃ n, w' = w.drewN n := by
  go_enter Try.func22, Try.ntmps22
  go_wp2_with fail
  refine (at_nilx _ i _).mono ?_
  rintro e w1 ⟨rfl, n, rfl⟩
  go_wp2_with fail
  go_ret
  exact ⟨rfl, _, rfl⟩
set_option maxHeartbeats 1600000 in
theorem haz_x {o oc g gb gr A T : Nat} {L : List (Int × Int)} {bs rs : List (List Value)} (t : Int) (w : World) (h : MemAt w o oc g gb gr A T L bs rs) (t0 : 0 ≤ t) (t1 : t < T) :
    Calls Try.prog 19 #[.pointer (some ⟨o, 0, none⟩), .int .i64 t, .int .i64 1] w fun e w' => e = .returned (.int .i64 (hazI A T t 1)) ∧ ∃ n, w' = w.drewN n := by
  have hT := h.t1
  have q3 : decide (t < 0) = false := by simp; omega
  have q4 : decide ((T : Int) ≤ t) = false := by simp; omega
  have hy := Lib.hid (hazI_yes (A := A) (show 0 ≤ (1 : Int) ∧ (1 : Int) < 2 ∧ 0 ≤ t ∧ t < (T : Int) by omega))
  have hw1 : IntKind.i64.wrap (t * 2) = t * 2 := by rw [IntKind.wrap_i64]; omega
  have hw2 : IntKind.i64.wrap (t * 2 + 1) = t * 2 + 1 := by rw [IntKind.wrap_i64]; omega
  go_enter Try.func19, Try.ntmps19
  go_wp2_with fail
  refine (threads_any _ h).mono ?_
  rintro e w1 ⟨rfl, rfl⟩
  go_wp2_with fail
  refine (atx_5 (t * 2 + 1) _ h (by omega) (by omega)).mono ?_
  rw [hy.out]
  rintro e w1 ⟨rfl, n, rfl⟩
  go_wp2_with fail
  go_ret
  exact ⟨rfl, _, rfl⟩
abbrev rdA (m : Option Addr) (th at_ st : Int) (su : Bool) (cell word ver : Int) (n0 n1 n2 n3 n4 n5 n6 n7 : Value) : Array Value := #[.pointer m, .int .i64 th, .int .i64 at_, .int .i64 st, .bool su, .int .i64 cell, .int .u64 word, .int .u64 ver, n0, n1, n2, n3, n4, n5, n6, n7]
theorem atI0_pos {A T : Nat} {i : Int} (h0 : 0 ≤ i) (h1 : i < A) : decide (atI A T 0 i < 0) = false := by
  rw [atI_yes h0 (by simp [sizeI]; omega)]
  simp [fromI]; omega
theorem hazI_pos {A T : Nat} {t : Int} (h0 : 0 ≤ t) (h1 : t < T) : decide (hazI A T t 1 < 0) = false := by
  rw [← hazI_yes (A := A) (show 0 ≤ (1 : Int) ∧ (1 : Int) < 2 ∧ 0 ≤ t ∧ t < (T : Int) by omega), atI_yes (by omega) (by simp [sizeI]; omega)]
  simp [fromI]; omega
end Go.Proofs.Ytpempcefgfmniaa.MemP

/-
  read: Tell, State, Known, Sure: contracts.
-/
namespace Go.Proofs.Ytpempcefgfmniaa.MemP
open Go.RowKit RefP CellP
set_option linter.unusedVariables false
set_option linter.unusedSimpArgs false
/-- what is known: a cell, a word, a version, a node -/
abbrev knA (cell word ver : Int) (n0 n1 n2 n3 n4 n5 n6 n7 : Value) : Array Value := #[.int .i64 cell, .int .u64 word, .int .u64 ver, n0, n1, n2, n3, n4, n5, n6, n7]
end Go.Proofs.Ytpempcefgfmniaa.MemP
