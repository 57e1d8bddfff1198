/-
  memory.Do: contracts, of accesses to records, and of none that is known.
-/
import Derived.Deep.WholeRow
import Derived.Deep.RegionHeld
import Derived.Test.YtpempcefgfmniaaMemoryDoesPack3

namespace Go.Proofs.Ytpempcefgfmniaa.MemP
open Go.RowKit RefP CellP Dp
set_option linter.unusedVariables false
set_option linter.unusedSimpArgs false
/-- a reply that holds an operation -/
abbrev replyO (x : OpV) : Array Value := #[.bool true, .int .u64 0, .int .u64 0, .int .i64 0, .int .i64 0, .string ⟨#[]⟩, .string ⟨#[]⟩, .bool false, .int .i64 0, .slice none 0 0, .slice none 0 0, .slice none 0 0, .int .i64 0, .int .i64 0, .string ⟨#[]⟩, .int .u64 0, .slice none 0 0, .slice none 0 0, .slice none 0 0, .slice none 0 0, .int .i64 x.kind, .string x.key, .string x.upto, .int .u64 x.val, .int .i64 x.limit]
abbrev opA (x : OpV) : Array Value := #[.int .i64 x.kind, .string x.key, .string x.upto, .int .u64 x.val, .int .i64 x.limit]
theorem sets_replyO (x : OpV) : sets' #[.bool true, .int .u64 0, .int .u64 0, .int .i64 0, .int .i64 0, .string ⟨#[]⟩, .string ⟨#[]⟩, .bool false, .int .i64 0, .slice none 0 0, .slice none 0 0, .slice none 0 0, .int .i64 0, .int .i64 0, .string ⟨#[]⟩, .int .u64 0, .slice none 0 0, .slice none 0 0, .slice none 0 0, .slice none 0 0, .int .i64 0, .string ⟨#[]⟩, .string ⟨#[]⟩, .int .u64 0, .int .i64 0] 20 (opA x).toList = replyO x := by simp [sets']
theorem sets_raw5 (bs : List (List Value)) (k : Nat) (vs : List Value) (hk : k < bs.length) (hv : vs.length = 5) : sets' (rawA 5 bs) (k * 5) vs = rawA 5 (bs.set k vs) := by
  have hs : (rawA 5 bs).size = bs.length * 5 := recA_size _ _ _ _
  have hle : k * 5 + 5 ≤ bs.length * 5 := by omega
  refine recA_set k vs hk (by rw [sets_size, hs]) (fun j hj => ?_) (fun i' j hne hi' hj => ?_)
  · rw [sets_at vs _ _ j (by omega) (by rw [hs, hv]; exact hle)]
    have : j < vs.length := by omega
    simp [rawF, List.getD, this]
  · exact sets_off vs _ _ _ (by rw [hv]; omega)
theorem MemAt.recAt {w : World} {o oc g gb gr A T : Nat} {L : List (Int × Int)} {bs rs : List (List Value)} (h : MemAt w o oc g gb gr A T L bs rs) (k : Nat) (hk : k < T) (vs : List Value) (hv : vs.length = 5) :
    MemAt (w.setCells gr (k * 5) vs) o oc g gb gr A T L bs (rs.set k vs) := by
  have F := fr_sets' (S := [gr]) (b := gr) (by simp) vs (k * 5) w
  have hB := blk_sets' vs (k * 5) _ _ h.records
  rw [sets_raw5 rs k vs (by rw [h.lr]; exact hk) hv] at hB
  have n := h.ne
  exact ⟨F.blk h.head (by simp; omega), ⟨F.blk h.cells.head (by simp; omega), F.blk h.cells.rows (by simp; omega), h.cells.ne, h.cells.rng, h.cells.len⟩, F.blk h.blocks (by simp; omega), hB, h.len, h.lb, by simpa using h.lr, h.a1, h.t1, h.ne⟩
theorem raw5_at (l : List (List Value)) (i j : Nat) (hi : i < l.length) (hj : j < 5) : (rawA 5 l)[i * 5 + j]? = some (rawF (l.getD i []) j) := recA_at rawF [] l i j hi hj
set_option maxRecDepth 100000 in
set_option maxHeartbeats 3200000 in
theorem do_else {o oc g gb gr A T : Nat} {L : List (Int × Int)} {bs rs : List (List Value)} (k i ver word : Int) (c4 c5 c6 c7 c8 c9 c10 c11 c12 c13 c14 c15 c16 c17 c18 c19 c20 c21 c22 c23 c24 c25 : Value) (w : World) (h : MemAt w o oc g gb gr A T L bs rs) (hk : k < 1 ∨ 7 < k) :
    Calls Try.prog 12 #[.pointer (some ⟨o, 0, none⟩), .agg #[.int .i64 k, .int .i64 i, .int .u64 ver, .int .u64 word, c4, c5, c6, c7, c8, c9, c10, c11, c12, c13, c14, c15, c16, c17, c18, c19, c20, c21, c22, c23, c24, c25]] w fun e w' => e = .returned (.agg #[.bool false, .int .u64 0, .int .u64 0, .int .i64 0, .int .i64 0, .string ⟨#[]⟩, .string ⟨#[]⟩, .bool false, .int .i64 0, .slice none 0 0, .slice none 0 0, .slice none 0 0, .int .i64 0, .int .i64 0, .string ⟨#[]⟩, .int .u64 0, .slice none 0 0, .slice none 0 0, .slice none 0 0, .slice none 0 0, .int .i64 0, .string ⟨#[]⟩, .string ⟨#[]⟩, .int .u64 0, .int .i64 0]) ∧ Below w.heap.size w w' := by
  have k1 : k ≠ 1 := by omega
  have k2 : k ≠ 2 := by omega
  have k3 : k ≠ 3 := by omega
  have k4 : k ≠ 4 := by omega
  have k5 : k ≠ 5 := by omega
  have k6 : k ≠ 6 := by omega
  have k7 : k ≠ 7 := by omega
  have hb2 : Below w.heap.size w ((w.alloc (.cells #[.int .i64 k, .int .i64 i, .int .u64 ver, .int .u64 word, c4, c5, c6, c7, c8, c9, c10, c11, c12, c13, c14, c15, c16, c17, c18, c19, c20, c21, c22, c23, c24, c25] 39)).alloc (.cells #[.bool false, .int .u64 0, .int .u64 0, .int .i64 0, .int .i64 0, .string ⟨#[]⟩, .string ⟨#[]⟩, .bool false, .int .i64 0, .slice none 0 0, .slice none 0 0, .slice none 0 0, .int .i64 0, .int .i64 0, .string ⟨#[]⟩, .int .u64 0, .slice none 0 0, .slice none 0 0, .slice none 0 0, .slice none 0 0, .int .i64 0, .string ⟨#[]⟩, .string ⟨#[]⟩, .int .u64 0, .int .i64 0] 50)) := by (repeat (first | exact Below.refl _ _ | assumption | refine below_alloc2 ?_ (by first | exact Nat.le_refl _ | omega) _ | refine Below.drew ?_ | refine below_drewN ?_ _ | refine below_push2 ?_ ‹_› (by first | exact Nat.le_refl _ | omega) | refine Below.setCell ?_ (by first | (simp; done) | (simp; omega) | omega) _))
  have BX := (Blk.new w #[.int .i64 k, .int .i64 i, .int .u64 ver, .int .u64 word, c4, c5, c6, c7, c8, c9, c10, c11, c12, c13, c14, c15, c16, c17, c18, c19, c20, c21, c22, c23, c24, c25] 39).alloc (.cells #[.bool false, .int .u64 0, .int .u64 0, .int .i64 0, .int .i64 0, .string ⟨#[]⟩, .string ⟨#[]⟩, .bool false, .int .i64 0, .slice none 0 0, .slice none 0 0, .slice none 0 0, .int .i64 0, .int .i64 0, .string ⟨#[]⟩, .int .u64 0, .slice none 0 0, .slice none 0 0, .slice none 0 0, .slice none 0 0, .int .i64 0, .string ⟨#[]⟩, .string ⟨#[]⟩, .int .u64 0, .int .i64 0] 50)
  have BR : Blk ((w.alloc (.cells #[.int .i64 k, .int .i64 i, .int .u64 ver, .int .u64 word, c4, c5, c6, c7, c8, c9, c10, c11, c12, c13, c14, c15, c16, c17, c18, c19, c20, c21, c22, c23, c24, c25] 39)).alloc (.cells #[.bool false, .int .u64 0, .int .u64 0, .int .i64 0, .int .i64 0, .string ⟨#[]⟩, .string ⟨#[]⟩, .bool false, .int .i64 0, .slice none 0 0, .slice none 0 0, .slice none 0 0, .int .i64 0, .int .i64 0, .string ⟨#[]⟩, .int .u64 0, .slice none 0 0, .slice none 0 0, .slice none 0 0, .slice none 0 0, .int .i64 0, .string ⟨#[]⟩, .string ⟨#[]⟩, .int .u64 0, .int .i64 0] 50)) (w.heap.size + 1) #[.bool false, .int .u64 0, .int .u64 0, .int .i64 0, .int .i64 0, .string ⟨#[]⟩, .string ⟨#[]⟩, .bool false, .int .i64 0, .slice none 0 0, .slice none 0 0, .slice none 0 0, .int .i64 0, .int .i64 0, .string ⟨#[]⟩, .int .u64 0, .slice none 0 0, .slice none 0 0, .slice none 0 0, .slice none 0 0, .int .i64 0, .string ⟨#[]⟩, .string ⟨#[]⟩, .int .u64 0, .int .i64 0] 50 := by
    have := Blk.new (w.alloc (.cells #[.int .i64 k, .int .i64 i, .int .u64 ver, .int .u64 word, c4, c5, c6, c7, c8, c9, c10, c11, c12, c13, c14, c15, c16, c17, c18, c19, c20, c21, c22, c23, c24, c25] 39)) #[.bool false, .int .u64 0, .int .u64 0, .int .i64 0, .int .i64 0, .string ⟨#[]⟩, .string ⟨#[]⟩, .bool false, .int .i64 0, .slice none 0 0, .slice none 0 0, .slice none 0 0, .int .i64 0, .int .i64 0, .string ⟨#[]⟩, .int .u64 0, .slice none 0 0, .slice none 0 0, .slice none 0 0, .slice none 0 0, .int .i64 0, .string ⟨#[]⟩, .string ⟨#[]⟩, .int .u64 0, .int .i64 0] 50
    simpa using this
  have h2 := h.below hb2
  generalize hW : ((w.alloc (.cells #[.int .i64 k, .int .i64 i, .int .u64 ver, .int .u64 word, c4, c5, c6, c7, c8, c9, c10, c11, c12, c13, c14, c15, c16, c17, c18, c19, c20, c21, c22, c23, c24, c25] 39)).alloc (.cells #[.bool false, .int .u64 0, .int .u64 0, .int .i64 0, .int .i64 0, .string ⟨#[]⟩, .string ⟨#[]⟩, .bool false, .int .i64 0, .slice none 0 0, .slice none 0 0, .slice none 0 0, .int .i64 0, .int .i64 0, .string ⟨#[]⟩, .int .u64 0, .slice none 0 0, .slice none 0 0, .slice none 0 0, .slice none 0 0, .int .i64 0, .string ⟨#[]⟩, .string ⟨#[]⟩, .int .u64 0, .int .i64 0] 50)) = wq at hb2 h2 BX BR
  have b0 := BX.at 0 rfl
  have b1 := BX.at 1 rfl
  go_enter Try.func12, Try.ntmps12
  go_wp2_with fail
  refine (none_any _ h2).mono ?_
  rintro e w1 ⟨rfl, rfl⟩
  clear hW
  go_wp2_with (first
    | (refine wpList_load_row rfl 50 _ rfl (w.heap.size + 1) rfl 50 _ (0, 0) _ (BR).h Try.underlying50 rfl (by kernel_rfl) ?_)
    | (refine wpList_store_row rfl 50 _ _ rfl (w.heap.size + 1) _ rfl rfl 50 _ (BR).h (by kernel_rfl) (by rfl) (by kernel_rfl) ?_))
  refine bodyPost_ret (results_cell_row rfl _ _ (w.heap.size + 1) 50 #[.bool false, .int .u64 0, .int .u64 0, .int .i64 0, .int .i64 0, .string ⟨#[]⟩, .string ⟨#[]⟩, .bool false, .int .i64 0, .slice none 0 0, .slice none 0 0, .slice none 0 0, .int .i64 0, .int .i64 0, .string ⟨#[]⟩, .int .u64 0, .slice none 0 0, .slice none 0 0, .slice none 0 0, .slice none 0 0, .int .i64 0, .string ⟨#[]⟩, .string ⟨#[]⟩, .int .u64 0, .int .i64 0] (0, 0) _ rfl (Blk.row BR #[.bool false, .int .u64 0, .int .u64 0, .int .i64 0, .int .i64 0, .string ⟨#[]⟩, .string ⟨#[]⟩, .bool false, .int .i64 0, .slice none 0 0, .slice none 0 0, .slice none 0 0, .int .i64 0, .int .i64 0, .string ⟨#[]⟩, .int .u64 0, .slice none 0 0, .slice none 0 0, .slice none 0 0, .slice none 0 0, .int .i64 0, .string ⟨#[]⟩, .string ⟨#[]⟩, .int .u64 0, .int .i64 0]).h Try.underlying50 rfl (by kernel_rfl)) rfl ⟨rfl, below_setRow hb2 (by omega) _⟩
set_option maxRecDepth 100000 in
set_option maxHeartbeats 3200000 in
theorem do_read_no {o oc g gb gr A T : Nat} {L : List (Int × Int)} {bs rs : List (List Value)} (i ver word : Int) (c4 c5 c6 c7 c8 c9 c10 c11 c12 c13 c14 c15 c16 c17 c18 c19 c20 c21 c22 c23 c24 c25 : Value) (w : World) (h : MemAt w o oc g gb gr A T L bs rs) (hi : ¬ (0 ≤ i ∧ i < (T : Int))) :
    Calls Try.prog 12 #[.pointer (some ⟨o, 0, none⟩), .agg #[.int .i64 6, .int .i64 i, .int .u64 ver, .int .u64 word, c4, c5, c6, c7, c8, c9, c10, c11, c12, c13, c14, c15, c16, c17, c18, c19, c20, c21, c22, c23, c24, c25]] w fun e w' => e = .returned (.agg #[.bool false, .int .u64 0, .int .u64 0, .int .i64 0, .int .i64 0, .string ⟨#[]⟩, .string ⟨#[]⟩, .bool false, .int .i64 0, .slice none 0 0, .slice none 0 0, .slice none 0 0, .int .i64 0, .int .i64 0, .string ⟨#[]⟩, .int .u64 0, .slice none 0 0, .slice none 0 0, .slice none 0 0, .slice none 0 0, .int .i64 0, .string ⟨#[]⟩, .string ⟨#[]⟩, .int .u64 0, .int .i64 0]) ∧ Below w.heap.size w w' := by
  have hb2 : Below w.heap.size w ((w.alloc (.cells #[.int .i64 6, .int .i64 i, .int .u64 ver, .int .u64 word, c4, c5, c6, c7, c8, c9, c10, c11, c12, c13, c14, c15, c16, c17, c18, c19, c20, c21, c22, c23, c24, c25] 39)).alloc (.cells #[.bool false, .int .u64 0, .int .u64 0, .int .i64 0, .int .i64 0, .string ⟨#[]⟩, .string ⟨#[]⟩, .bool false, .int .i64 0, .slice none 0 0, .slice none 0 0, .slice none 0 0, .int .i64 0, .int .i64 0, .string ⟨#[]⟩, .int .u64 0, .slice none 0 0, .slice none 0 0, .slice none 0 0, .slice none 0 0, .int .i64 0, .string ⟨#[]⟩, .string ⟨#[]⟩, .int .u64 0, .int .i64 0] 50)) := by (repeat (first | exact Below.refl _ _ | assumption | refine below_alloc2 ?_ (by first | exact Nat.le_refl _ | omega) _ | refine Below.drew ?_ | refine below_drewN ?_ _ | refine below_push2 ?_ ‹_› (by first | exact Nat.le_refl _ | omega) | refine Below.setCell ?_ (by first | (simp; done) | (simp; omega) | omega) _))
  have BX := (Blk.new w #[.int .i64 6, .int .i64 i, .int .u64 ver, .int .u64 word, c4, c5, c6, c7, c8, c9, c10, c11, c12, c13, c14, c15, c16, c17, c18, c19, c20, c21, c22, c23, c24, c25] 39).alloc (.cells #[.bool false, .int .u64 0, .int .u64 0, .int .i64 0, .int .i64 0, .string ⟨#[]⟩, .string ⟨#[]⟩, .bool false, .int .i64 0, .slice none 0 0, .slice none 0 0, .slice none 0 0, .int .i64 0, .int .i64 0, .string ⟨#[]⟩, .int .u64 0, .slice none 0 0, .slice none 0 0, .slice none 0 0, .slice none 0 0, .int .i64 0, .string ⟨#[]⟩, .string ⟨#[]⟩, .int .u64 0, .int .i64 0] 50)
  have BR : Blk ((w.alloc (.cells #[.int .i64 6, .int .i64 i, .int .u64 ver, .int .u64 word, c4, c5, c6, c7, c8, c9, c10, c11, c12, c13, c14, c15, c16, c17, c18, c19, c20, c21, c22, c23, c24, c25] 39)).alloc (.cells #[.bool false, .int .u64 0, .int .u64 0, .int .i64 0, .int .i64 0, .string ⟨#[]⟩, .string ⟨#[]⟩, .bool false, .int .i64 0, .slice none 0 0, .slice none 0 0, .slice none 0 0, .int .i64 0, .int .i64 0, .string ⟨#[]⟩, .int .u64 0, .slice none 0 0, .slice none 0 0, .slice none 0 0, .slice none 0 0, .int .i64 0, .string ⟨#[]⟩, .string ⟨#[]⟩, .int .u64 0, .int .i64 0] 50)) (w.heap.size + 1) #[.bool false, .int .u64 0, .int .u64 0, .int .i64 0, .int .i64 0, .string ⟨#[]⟩, .string ⟨#[]⟩, .bool false, .int .i64 0, .slice none 0 0, .slice none 0 0, .slice none 0 0, .int .i64 0, .int .i64 0, .string ⟨#[]⟩, .int .u64 0, .slice none 0 0, .slice none 0 0, .slice none 0 0, .slice none 0 0, .int .i64 0, .string ⟨#[]⟩, .string ⟨#[]⟩, .int .u64 0, .int .i64 0] 50 := by
    have := Blk.new (w.alloc (.cells #[.int .i64 6, .int .i64 i, .int .u64 ver, .int .u64 word, c4, c5, c6, c7, c8, c9, c10, c11, c12, c13, c14, c15, c16, c17, c18, c19, c20, c21, c22, c23, c24, c25] 39)) #[.bool false, .int .u64 0, .int .u64 0, .int .i64 0, .int .i64 0, .string ⟨#[]⟩, .string ⟨#[]⟩, .bool false, .int .i64 0, .slice none 0 0, .slice none 0 0, .slice none 0 0, .int .i64 0, .int .i64 0, .string ⟨#[]⟩, .int .u64 0, .slice none 0 0, .slice none 0 0, .slice none 0 0, .slice none 0 0, .int .i64 0, .string ⟨#[]⟩, .string ⟨#[]⟩, .int .u64 0, .int .i64 0] 50
    simpa using this
  have h2 := h.below hb2
  generalize hW : ((w.alloc (.cells #[.int .i64 6, .int .i64 i, .int .u64 ver, .int .u64 word, c4, c5, c6, c7, c8, c9, c10, c11, c12, c13, c14, c15, c16, c17, c18, c19, c20, c21, c22, c23, c24, c25] 39)).alloc (.cells #[.bool false, .int .u64 0, .int .u64 0, .int .i64 0, .int .i64 0, .string ⟨#[]⟩, .string ⟨#[]⟩, .bool false, .int .i64 0, .slice none 0 0, .slice none 0 0, .slice none 0 0, .int .i64 0, .int .i64 0, .string ⟨#[]⟩, .int .u64 0, .slice none 0 0, .slice none 0 0, .slice none 0 0, .slice none 0 0, .int .i64 0, .string ⟨#[]⟩, .string ⟨#[]⟩, .int .u64 0, .int .i64 0] 50)) = wq at hb2 h2 BX BR
  have b0 := BX.at 0 rfl
  have b1 := BX.at 1 rfl
  go_enter Try.func12, Try.ntmps12
  go_wp2_with fail
  refine (none_any _ h2).mono ?_
  rintro e w1 ⟨rfl, rfl⟩
  clear hW
  have d10 : wq.cell? ⟨o, 10, none⟩ = some (.slice (some ⟨gr, 0, none⟩) T T) := h2.head.at 10 rfl
  have hT := h.t1
  have r0 := BR.at 0 rfl
  have fr0 := BR.free 0
  by_cases h0 : 0 ≤ i
  · have h1 : ¬ i < (T : Int) := by omega
    have g0 : decide (0 ≤ i) = true := by simpa using h0
    have g1 : decide (i < (T : Int)) = false := by simpa using h1
    go_upto_region 16 with (fail)
    refine QuietRow.tail_quiet 14 (by kernel_rfl) (by kernel_rfl) ?_
    simp only [List.take_succ_cons, List.take_zero, List.drop_succ_cons, List.drop_zero]
    iterate 14 (go_big_quiet_step (fail))
    refine wpQuiet_nil ?_
    have BR3 := (BR.drew).set 0 (.bool false)
    simp only [List.setIfInBounds_toArray, List.set_cons_zero] at BR3
    go_wp2_with (first
      | (refine wpList_load_row rfl 50 _ rfl (w.heap.size + 1) rfl 50 _ (0, 0) _ (BR3).h Try.underlying50 rfl (by kernel_rfl) ?_)
      | (refine wpList_store_row rfl 50 _ _ rfl (w.heap.size + 1) _ rfl rfl 50 _ (BR3).h (by kernel_rfl) (by rfl) (by kernel_rfl) ?_))
    refine bodyPost_ret (results_cell_row rfl _ _ (w.heap.size + 1) 50 #[.bool false, .int .u64 0, .int .u64 0, .int .i64 0, .int .i64 0, .string ⟨#[]⟩, .string ⟨#[]⟩, .bool false, .int .i64 0, .slice none 0 0, .slice none 0 0, .slice none 0 0, .int .i64 0, .int .i64 0, .string ⟨#[]⟩, .int .u64 0, .slice none 0 0, .slice none 0 0, .slice none 0 0, .slice none 0 0, .int .i64 0, .string ⟨#[]⟩, .string ⟨#[]⟩, .int .u64 0, .int .i64 0] (0, 0) _ rfl (Blk.row BR3 #[.bool false, .int .u64 0, .int .u64 0, .int .i64 0, .int .i64 0, .string ⟨#[]⟩, .string ⟨#[]⟩, .bool false, .int .i64 0, .slice none 0 0, .slice none 0 0, .slice none 0 0, .int .i64 0, .int .i64 0, .string ⟨#[]⟩, .int .u64 0, .slice none 0 0, .slice none 0 0, .slice none 0 0, .slice none 0 0, .int .i64 0, .string ⟨#[]⟩, .string ⟨#[]⟩, .int .u64 0, .int .i64 0]).h Try.underlying50 rfl (by kernel_rfl)) rfl ⟨rfl, below_setRow (hb2.drew.setCell (by simp) _) (by omega) _⟩
  · have g0 : decide (0 ≤ i) = false := by simpa using h0
    go_upto_region 16 with (fail)
    refine QuietRow.tail_quiet 14 (by kernel_rfl) (by kernel_rfl) ?_
    simp only [List.take_succ_cons, List.take_zero, List.drop_succ_cons, List.drop_zero]
    iterate 14 (go_big_quiet_step (fail))
    refine wpQuiet_nil ?_
    have BR3 := (BR.drew).set 0 (.bool false)
    simp only [List.setIfInBounds_toArray, List.set_cons_zero] at BR3
    go_wp2_with (first
      | (refine wpList_load_row rfl 50 _ rfl (w.heap.size + 1) rfl 50 _ (0, 0) _ (BR3).h Try.underlying50 rfl (by kernel_rfl) ?_)
      | (refine wpList_store_row rfl 50 _ _ rfl (w.heap.size + 1) _ rfl rfl 50 _ (BR3).h (by kernel_rfl) (by rfl) (by kernel_rfl) ?_))
    refine bodyPost_ret (results_cell_row rfl _ _ (w.heap.size + 1) 50 #[.bool false, .int .u64 0, .int .u64 0, .int .i64 0, .int .i64 0, .string ⟨#[]⟩, .string ⟨#[]⟩, .bool false, .int .i64 0, .slice none 0 0, .slice none 0 0, .slice none 0 0, .int .i64 0, .int .i64 0, .string ⟨#[]⟩, .int .u64 0, .slice none 0 0, .slice none 0 0, .slice none 0 0, .slice none 0 0, .int .i64 0, .string ⟨#[]⟩, .string ⟨#[]⟩, .int .u64 0, .int .i64 0] (0, 0) _ rfl (Blk.row BR3 #[.bool false, .int .u64 0, .int .u64 0, .int .i64 0, .int .i64 0, .string ⟨#[]⟩, .string ⟨#[]⟩, .bool false, .int .i64 0, .slice none 0 0, .slice none 0 0, .slice none 0 0, .int .i64 0, .int .i64 0, .string ⟨#[]⟩, .int .u64 0, .slice none 0 0, .slice none 0 0, .slice none 0 0, .slice none 0 0, .int .i64 0, .string ⟨#[]⟩, .string ⟨#[]⟩, .int .u64 0, .int .i64 0]).h Try.underlying50 rfl (by kernel_rfl)) rfl ⟨rfl, below_setRow (hb2.drew.setCell (by simp) _) (by omega) _⟩
set_option maxRecDepth 100000 in
set_option maxHeartbeats 3200000 in
theorem do_write_no {o oc g gb gr A T : Nat} {L : List (Int × Int)} {bs rs : List (List Value)} (i ver word : Int) (c4 c5 c6 c7 c8 c9 c10 c11 c12 c13 c14 c15 c16 c17 c18 c19 c20 c21 c22 c23 c24 c25 : Value) (w : World) (h : MemAt w o oc g gb gr A T L bs rs) (hi : ¬ (0 ≤ i ∧ i < (T : Int))) :
    Calls Try.prog 12 #[.pointer (some ⟨o, 0, none⟩), .agg #[.int .i64 7, .int .i64 i, .int .u64 ver, .int .u64 word, c4, c5, c6, c7, c8, c9, c10, c11, c12, c13, c14, c15, c16, c17, c18, c19, c20, c21, c22, c23, c24, c25]] w fun e w' => e = .returned (.agg #[.bool false, .int .u64 0, .int .u64 0, .int .i64 0, .int .i64 0, .string ⟨#[]⟩, .string ⟨#[]⟩, .bool false, .int .i64 0, .slice none 0 0, .slice none 0 0, .slice none 0 0, .int .i64 0, .int .i64 0, .string ⟨#[]⟩, .int .u64 0, .slice none 0 0, .slice none 0 0, .slice none 0 0, .slice none 0 0, .int .i64 0, .string ⟨#[]⟩, .string ⟨#[]⟩, .int .u64 0, .int .i64 0]) ∧ Below w.heap.size w w' := by
  have hb2 : Below w.heap.size w ((w.alloc (.cells #[.int .i64 7, .int .i64 i, .int .u64 ver, .int .u64 word, c4, c5, c6, c7, c8, c9, c10, c11, c12, c13, c14, c15, c16, c17, c18, c19, c20, c21, c22, c23, c24, c25] 39)).alloc (.cells #[.bool false, .int .u64 0, .int .u64 0, .int .i64 0, .int .i64 0, .string ⟨#[]⟩, .string ⟨#[]⟩, .bool false, .int .i64 0, .slice none 0 0, .slice none 0 0, .slice none 0 0, .int .i64 0, .int .i64 0, .string ⟨#[]⟩, .int .u64 0, .slice none 0 0, .slice none 0 0, .slice none 0 0, .slice none 0 0, .int .i64 0, .string ⟨#[]⟩, .string ⟨#[]⟩, .int .u64 0, .int .i64 0] 50)) := by (repeat (first | exact Below.refl _ _ | assumption | refine below_alloc2 ?_ (by first | exact Nat.le_refl _ | omega) _ | refine Below.drew ?_ | refine below_drewN ?_ _ | refine below_push2 ?_ ‹_› (by first | exact Nat.le_refl _ | omega) | refine Below.setCell ?_ (by first | (simp; done) | (simp; omega) | omega) _))
  have BX := (Blk.new w #[.int .i64 7, .int .i64 i, .int .u64 ver, .int .u64 word, c4, c5, c6, c7, c8, c9, c10, c11, c12, c13, c14, c15, c16, c17, c18, c19, c20, c21, c22, c23, c24, c25] 39).alloc (.cells #[.bool false, .int .u64 0, .int .u64 0, .int .i64 0, .int .i64 0, .string ⟨#[]⟩, .string ⟨#[]⟩, .bool false, .int .i64 0, .slice none 0 0, .slice none 0 0, .slice none 0 0, .int .i64 0, .int .i64 0, .string ⟨#[]⟩, .int .u64 0, .slice none 0 0, .slice none 0 0, .slice none 0 0, .slice none 0 0, .int .i64 0, .string ⟨#[]⟩, .string ⟨#[]⟩, .int .u64 0, .int .i64 0] 50)
  have BR : Blk ((w.alloc (.cells #[.int .i64 7, .int .i64 i, .int .u64 ver, .int .u64 word, c4, c5, c6, c7, c8, c9, c10, c11, c12, c13, c14, c15, c16, c17, c18, c19, c20, c21, c22, c23, c24, c25] 39)).alloc (.cells #[.bool false, .int .u64 0, .int .u64 0, .int .i64 0, .int .i64 0, .string ⟨#[]⟩, .string ⟨#[]⟩, .bool false, .int .i64 0, .slice none 0 0, .slice none 0 0, .slice none 0 0, .int .i64 0, .int .i64 0, .string ⟨#[]⟩, .int .u64 0, .slice none 0 0, .slice none 0 0, .slice none 0 0, .slice none 0 0, .int .i64 0, .string ⟨#[]⟩, .string ⟨#[]⟩, .int .u64 0, .int .i64 0] 50)) (w.heap.size + 1) #[.bool false, .int .u64 0, .int .u64 0, .int .i64 0, .int .i64 0, .string ⟨#[]⟩, .string ⟨#[]⟩, .bool false, .int .i64 0, .slice none 0 0, .slice none 0 0, .slice none 0 0, .int .i64 0, .int .i64 0, .string ⟨#[]⟩, .int .u64 0, .slice none 0 0, .slice none 0 0, .slice none 0 0, .slice none 0 0, .int .i64 0, .string ⟨#[]⟩, .string ⟨#[]⟩, .int .u64 0, .int .i64 0] 50 := by
    have := Blk.new (w.alloc (.cells #[.int .i64 7, .int .i64 i, .int .u64 ver, .int .u64 word, c4, c5, c6, c7, c8, c9, c10, c11, c12, c13, c14, c15, c16, c17, c18, c19, c20, c21, c22, c23, c24, c25] 39)) #[.bool false, .int .u64 0, .int .u64 0, .int .i64 0, .int .i64 0, .string ⟨#[]⟩, .string ⟨#[]⟩, .bool false, .int .i64 0, .slice none 0 0, .slice none 0 0, .slice none 0 0, .int .i64 0, .int .i64 0, .string ⟨#[]⟩, .int .u64 0, .slice none 0 0, .slice none 0 0, .slice none 0 0, .slice none 0 0, .int .i64 0, .string ⟨#[]⟩, .string ⟨#[]⟩, .int .u64 0, .int .i64 0] 50
    simpa using this
  have h2 := h.below hb2
  generalize hW : ((w.alloc (.cells #[.int .i64 7, .int .i64 i, .int .u64 ver, .int .u64 word, c4, c5, c6, c7, c8, c9, c10, c11, c12, c13, c14, c15, c16, c17, c18, c19, c20, c21, c22, c23, c24, c25] 39)).alloc (.cells #[.bool false, .int .u64 0, .int .u64 0, .int .i64 0, .int .i64 0, .string ⟨#[]⟩, .string ⟨#[]⟩, .bool false, .int .i64 0, .slice none 0 0, .slice none 0 0, .slice none 0 0, .int .i64 0, .int .i64 0, .string ⟨#[]⟩, .int .u64 0, .slice none 0 0, .slice none 0 0, .slice none 0 0, .slice none 0 0, .int .i64 0, .string ⟨#[]⟩, .string ⟨#[]⟩, .int .u64 0, .int .i64 0] 50)) = wq at hb2 h2 BX BR
  have b0 := BX.at 0 rfl
  have b1 := BX.at 1 rfl
  go_enter Try.func12, Try.ntmps12
  go_wp2_with fail
  refine (none_any _ h2).mono ?_
  rintro e w1 ⟨rfl, rfl⟩
  clear hW
  have d10 : wq.cell? ⟨o, 10, none⟩ = some (.slice (some ⟨gr, 0, none⟩) T T) := h2.head.at 10 rfl
  have hT := h.t1
  have r0 := BR.at 0 rfl
  have fr0 := BR.free 0
  by_cases h0 : 0 ≤ i
  · have h1 : ¬ i < (T : Int) := by omega
    have g0 : decide (0 ≤ i) = true := by simpa using h0
    have g1 : decide (i < (T : Int)) = false := by simpa using h1
    go_upto_region 20 with (fail)
    refine QuietRow.tail_quiet 14 (by kernel_rfl) (by kernel_rfl) ?_
    simp only [List.take_succ_cons, List.take_zero, List.drop_succ_cons, List.drop_zero]
    iterate 14 (go_big_quiet_step (fail))
    refine wpQuiet_nil ?_
    have BR3 := (BR.drew).set 0 (.bool false)
    simp only [List.setIfInBounds_toArray, List.set_cons_zero] at BR3
    go_wp2_with (first
      | (refine wpList_load_row rfl 50 _ rfl (w.heap.size + 1) rfl 50 _ (0, 0) _ (BR3).h Try.underlying50 rfl (by kernel_rfl) ?_)
      | (refine wpList_store_row rfl 50 _ _ rfl (w.heap.size + 1) _ rfl rfl 50 _ (BR3).h (by kernel_rfl) (by rfl) (by kernel_rfl) ?_))
    refine bodyPost_ret (results_cell_row rfl _ _ (w.heap.size + 1) 50 #[.bool false, .int .u64 0, .int .u64 0, .int .i64 0, .int .i64 0, .string ⟨#[]⟩, .string ⟨#[]⟩, .bool false, .int .i64 0, .slice none 0 0, .slice none 0 0, .slice none 0 0, .int .i64 0, .int .i64 0, .string ⟨#[]⟩, .int .u64 0, .slice none 0 0, .slice none 0 0, .slice none 0 0, .slice none 0 0, .int .i64 0, .string ⟨#[]⟩, .string ⟨#[]⟩, .int .u64 0, .int .i64 0] (0, 0) _ rfl (Blk.row BR3 #[.bool false, .int .u64 0, .int .u64 0, .int .i64 0, .int .i64 0, .string ⟨#[]⟩, .string ⟨#[]⟩, .bool false, .int .i64 0, .slice none 0 0, .slice none 0 0, .slice none 0 0, .int .i64 0, .int .i64 0, .string ⟨#[]⟩, .int .u64 0, .slice none 0 0, .slice none 0 0, .slice none 0 0, .slice none 0 0, .int .i64 0, .string ⟨#[]⟩, .string ⟨#[]⟩, .int .u64 0, .int .i64 0]).h Try.underlying50 rfl (by kernel_rfl)) rfl ⟨rfl, below_setRow (hb2.drew.setCell (by simp) _) (by omega) _⟩
  · have g0 : decide (0 ≤ i) = false := by simpa using h0
    go_upto_region 20 with (fail)
    refine QuietRow.tail_quiet 14 (by kernel_rfl) (by kernel_rfl) ?_
    simp only [List.take_succ_cons, List.take_zero, List.drop_succ_cons, List.drop_zero]
    iterate 14 (go_big_quiet_step (fail))
    refine wpQuiet_nil ?_
    have BR3 := (BR.drew).set 0 (.bool false)
    simp only [List.setIfInBounds_toArray, List.set_cons_zero] at BR3
    go_wp2_with (first
      | (refine wpList_load_row rfl 50 _ rfl (w.heap.size + 1) rfl 50 _ (0, 0) _ (BR3).h Try.underlying50 rfl (by kernel_rfl) ?_)
      | (refine wpList_store_row rfl 50 _ _ rfl (w.heap.size + 1) _ rfl rfl 50 _ (BR3).h (by kernel_rfl) (by rfl) (by kernel_rfl) ?_))
    refine bodyPost_ret (results_cell_row rfl _ _ (w.heap.size + 1) 50 #[.bool false, .int .u64 0, .int .u64 0, .int .i64 0, .int .i64 0, .string ⟨#[]⟩, .string ⟨#[]⟩, .bool false, .int .i64 0, .slice none 0 0, .slice none 0 0, .slice none 0 0, .int .i64 0, .int .i64 0, .string ⟨#[]⟩, .int .u64 0, .slice none 0 0, .slice none 0 0, .slice none 0 0, .slice none 0 0, .int .i64 0, .string ⟨#[]⟩, .string ⟨#[]⟩, .int .u64 0, .int .i64 0] (0, 0) _ rfl (Blk.row BR3 #[.bool false, .int .u64 0, .int .u64 0, .int .i64 0, .int .i64 0, .string ⟨#[]⟩, .string ⟨#[]⟩, .bool false, .int .i64 0, .slice none 0 0, .slice none 0 0, .slice none 0 0, .int .i64 0, .int .i64 0, .string ⟨#[]⟩, .int .u64 0, .slice none 0 0, .slice none 0 0, .slice none 0 0, .slice none 0 0, .int .i64 0, .string ⟨#[]⟩, .string ⟨#[]⟩, .int .u64 0, .int .i64 0]).h Try.underlying50 rfl (by kernel_rfl)) rfl ⟨rfl, below_setRow (hb2.drew.setCell (by simp) _) (by omega) _⟩
set_option maxRecDepth 100000 in
set_option maxHeartbeats 3200000 in
theorem do_read_yes {o oc g gb gr A T : Nat} {L : List (Int × Int)} {bs rs : List (List Value)} (i ver word : Int) (c4 c5 c6 c7 c8 c9 c10 c11 c12 c13 c14 c15 c16 c17 c18 c19 c20 c21 c22 c23 c24 c25 : Value) (k : Nat) (x : OpV) (w : World) (h : MemAt w o oc g gb gr A T L bs rs) (hi : i = (k : Int)) (hk : k < T) (hx : rs.getD k [] = opL x) :
    Calls Try.prog 12 #[.pointer (some ⟨o, 0, none⟩), .agg #[.int .i64 6, .int .i64 i, .int .u64 ver, .int .u64 word, c4, c5, c6, c7, c8, c9, c10, c11, c12, c13, c14, c15, c16, c17, c18, c19, c20, c21, c22, c23, c24, c25]] w fun e w' => e = .returned (.agg (replyO x)) ∧ Below w.heap.size w w' := by
  subst hi
  have hb2 : Below w.heap.size w ((w.alloc (.cells #[.int .i64 6, .int .i64 (k : Int), .int .u64 ver, .int .u64 word, c4, c5, c6, c7, c8, c9, c10, c11, c12, c13, c14, c15, c16, c17, c18, c19, c20, c21, c22, c23, c24, c25] 39)).alloc (.cells #[.bool false, .int .u64 0, .int .u64 0, .int .i64 0, .int .i64 0, .string ⟨#[]⟩, .string ⟨#[]⟩, .bool false, .int .i64 0, .slice none 0 0, .slice none 0 0, .slice none 0 0, .int .i64 0, .int .i64 0, .string ⟨#[]⟩, .int .u64 0, .slice none 0 0, .slice none 0 0, .slice none 0 0, .slice none 0 0, .int .i64 0, .string ⟨#[]⟩, .string ⟨#[]⟩, .int .u64 0, .int .i64 0] 50)) := by (repeat (first | exact Below.refl _ _ | assumption | refine below_alloc2 ?_ (by first | exact Nat.le_refl _ | omega) _ | refine Below.drew ?_ | refine below_drewN ?_ _ | refine below_push2 ?_ ‹_› (by first | exact Nat.le_refl _ | omega) | refine Below.setCell ?_ (by first | (simp; done) | (simp; omega) | omega) _))
  have BX := (Blk.new w #[.int .i64 6, .int .i64 (k : Int), .int .u64 ver, .int .u64 word, c4, c5, c6, c7, c8, c9, c10, c11, c12, c13, c14, c15, c16, c17, c18, c19, c20, c21, c22, c23, c24, c25] 39).alloc (.cells #[.bool false, .int .u64 0, .int .u64 0, .int .i64 0, .int .i64 0, .string ⟨#[]⟩, .string ⟨#[]⟩, .bool false, .int .i64 0, .slice none 0 0, .slice none 0 0, .slice none 0 0, .int .i64 0, .int .i64 0, .string ⟨#[]⟩, .int .u64 0, .slice none 0 0, .slice none 0 0, .slice none 0 0, .slice none 0 0, .int .i64 0, .string ⟨#[]⟩, .string ⟨#[]⟩, .int .u64 0, .int .i64 0] 50)
  have BR : Blk ((w.alloc (.cells #[.int .i64 6, .int .i64 (k : Int), .int .u64 ver, .int .u64 word, c4, c5, c6, c7, c8, c9, c10, c11, c12, c13, c14, c15, c16, c17, c18, c19, c20, c21, c22, c23, c24, c25] 39)).alloc (.cells #[.bool false, .int .u64 0, .int .u64 0, .int .i64 0, .int .i64 0, .string ⟨#[]⟩, .string ⟨#[]⟩, .bool false, .int .i64 0, .slice none 0 0, .slice none 0 0, .slice none 0 0, .int .i64 0, .int .i64 0, .string ⟨#[]⟩, .int .u64 0, .slice none 0 0, .slice none 0 0, .slice none 0 0, .slice none 0 0, .int .i64 0, .string ⟨#[]⟩, .string ⟨#[]⟩, .int .u64 0, .int .i64 0] 50)) (w.heap.size + 1) #[.bool false, .int .u64 0, .int .u64 0, .int .i64 0, .int .i64 0, .string ⟨#[]⟩, .string ⟨#[]⟩, .bool false, .int .i64 0, .slice none 0 0, .slice none 0 0, .slice none 0 0, .int .i64 0, .int .i64 0, .string ⟨#[]⟩, .int .u64 0, .slice none 0 0, .slice none 0 0, .slice none 0 0, .slice none 0 0, .int .i64 0, .string ⟨#[]⟩, .string ⟨#[]⟩, .int .u64 0, .int .i64 0] 50 := by
    have := Blk.new (w.alloc (.cells #[.int .i64 6, .int .i64 (k : Int), .int .u64 ver, .int .u64 word, c4, c5, c6, c7, c8, c9, c10, c11, c12, c13, c14, c15, c16, c17, c18, c19, c20, c21, c22, c23, c24, c25] 39)) #[.bool false, .int .u64 0, .int .u64 0, .int .i64 0, .int .i64 0, .string ⟨#[]⟩, .string ⟨#[]⟩, .bool false, .int .i64 0, .slice none 0 0, .slice none 0 0, .slice none 0 0, .int .i64 0, .int .i64 0, .string ⟨#[]⟩, .int .u64 0, .slice none 0 0, .slice none 0 0, .slice none 0 0, .slice none 0 0, .int .i64 0, .string ⟨#[]⟩, .string ⟨#[]⟩, .int .u64 0, .int .i64 0] 50
    simpa using this
  have h2 := h.below hb2
  generalize hW : ((w.alloc (.cells #[.int .i64 6, .int .i64 (k : Int), .int .u64 ver, .int .u64 word, c4, c5, c6, c7, c8, c9, c10, c11, c12, c13, c14, c15, c16, c17, c18, c19, c20, c21, c22, c23, c24, c25] 39)).alloc (.cells #[.bool false, .int .u64 0, .int .u64 0, .int .i64 0, .int .i64 0, .string ⟨#[]⟩, .string ⟨#[]⟩, .bool false, .int .i64 0, .slice none 0 0, .slice none 0 0, .slice none 0 0, .int .i64 0, .int .i64 0, .string ⟨#[]⟩, .int .u64 0, .slice none 0 0, .slice none 0 0, .slice none 0 0, .slice none 0 0, .int .i64 0, .string ⟨#[]⟩, .string ⟨#[]⟩, .int .u64 0, .int .i64 0] 50)) = wq at hb2 h2 BX BR
  have b0 := BX.at 0 rfl
  have b1 := BX.at 1 rfl
  go_enter Try.func12, Try.ntmps12
  go_wp2_with fail
  refine (none_any _ h2).mono ?_
  rintro e w1 ⟨rfl, rfl⟩
  clear hW
  have d10 : wq.cell? ⟨o, 10, none⟩ = some (.slice (some ⟨gr, 0, none⟩) T T) := h2.head.at 10 rfl
  have hT := h.t1
  have hlr := h.lr
  have r0 := BR.at 0 rfl
  have fr0 := BR.free 0
  have h0 : (0 : Int) ≤ (k : Int) := by omega
  have h1 : (k : Int) < (T : Int) := by omega
  have g0 : decide ((0 : Int) ≤ (k : Int)) = true := by simp
  have g1 : decide (k < T) = true := by simpa using hk
  go_upto_region 16 with (fail)
  refine QuietRow.tail_quiet 14 (by kernel_rfl) (by kernel_rfl) ?_
  simp only [List.take_succ_cons, List.take_zero, List.drop_succ_cons, List.drop_zero]
  iterate 14 (go_big_quiet_step (fail))
  refine wpQuiet_nil ?_
  have BR3 := (BR.set 0 (.bool true)).drew
  simp only [List.setIfInBounds_toArray, List.set_cons_zero] at BR3
  have F3 : Fr [w.heap.size + 1] wq ((wq.setCell ⟨w.heap.size + 1, 0, none⟩ (.bool true)).drew) := ((Fr.refl _ wq).set _ _ (.inl (by simp))).trans (Fr.of_below ((Below.refl _ _).drew))
  have B3 := (hb2.setCell (p := ⟨w.heap.size + 1, 0, none⟩) (by simp) (.bool true)).drew
  have hol := h.head.lt
  have hocl := h.cells.head.lt
  have hgl := h.cells.rows.lt
  have hgbl := h.blocks.lt
  have hgrl := h.records.lt
  have M3 := h2.off F3 (by simp; omega)
  have BX3 := F3.blk BX (by simp)
  go_upto_region 18 with (fail)
  generalize hW : (wq.setCell ⟨w.heap.size + 1, 0, none⟩ (.bool true)).drew = w3 at BR3 M3 BX3 B3 ⊢
  clear b0 b1 r0 fr0 d10 F3 BR BX
  have b1 := BX3.at 1 rfl
  have d10 : w3.cell? ⟨o, 10, none⟩ = some (.slice (some ⟨gr, 0, none⟩) T T) := M3.head.at 10 rfl
  have e0 : w3.cell? ⟨gr, k * 5, none⟩ = some (.int .i64 x.kind) := (M3.records.at _ (raw5_at rs k 0 (by omega) (by omega))).trans (by rw [hx]; rfl)
  have e1 : w3.cell? ⟨gr, k * 5 + 1, none⟩ = some (.string x.key) := (M3.records.at _ (raw5_at rs k 1 (by omega) (by omega))).trans (by rw [hx]; rfl)
  have e2 : w3.cell? ⟨gr, k * 5 + 2, none⟩ = some (.string x.upto) := (M3.records.at _ (raw5_at rs k 2 (by omega) (by omega))).trans (by rw [hx]; rfl)
  have e3 : w3.cell? ⟨gr, k * 5 + 3, none⟩ = some (.int .u64 x.val) := (M3.records.at _ (raw5_at rs k 3 (by omega) (by omega))).trans (by rw [hx]; rfl)
  have e4 : w3.cell? ⟨gr, k * 5 + 4, none⟩ = some (.int .i64 x.limit) := (M3.records.at _ (raw5_at rs k 4 (by omega) (by omega))).trans (by rw [hx]; rfl)
  clear hx hW h h2 hb2
  refine QuietRow.tail_quiet 9 (by kernel_rfl) (by kernel_rfl) ?_
  simp only [List.take_succ_cons, List.take_zero, List.drop_succ_cons, List.drop_zero]
  iterate 9 (go_big_quiet_step (fail))
  refine wpQuiet_nil ?_
  have hth := there_blk' (o := 20) (n := 5) BR3.drew (by decide)
  have BR4 := blk_sets' (opA x).toList 20 _ _ BR3.drew
  rw [sets_replyO] at BR4
  have B4 := below_sets' (b := w.heap.size + 1) (by omega) (opA x).toList 20 _ B3.drew
  generalize hX : w3.drew.setCells (w.heap.size + 1) 20 (opA x).toList = w4 at BR4 B4
  replace hX := Lib.hid hX
  go_wp2_with (first
    | (refine wpList_store_mid rfl 37 _ _ rfl (w.heap.size + 1) 20 (opA x) rfl rfl hth (by kernel_rfl) (by kernel_rfl) ?_; rw [hX.out])
    | (refine wpList_load_row rfl 50 _ rfl (w.heap.size + 1) rfl 50 _ (0, 0) _ BR4.h Try.underlying50 rfl (by kernel_rfl) ?_)
    | (refine wpList_store_row rfl 50 _ _ rfl (w.heap.size + 1) _ rfl rfl 50 _ BR4.h (by kernel_rfl) (by rfl) (by kernel_rfl) ?_))
  refine bodyPost_ret (results_cell_row rfl _ _ (w.heap.size + 1) 50 (replyO x) (0, 0) _ rfl (Blk.row BR4 (replyO x)).h Try.underlying50 rfl (by kernel_rfl)) rfl ⟨rfl, below_setRow B4 (by omega) _⟩
/-- the cells of an access that holds an operation -/
abbrev opacc (i ver word : Int) (c4 c5 c6 c7 c8 c9 c10 c11 c12 c13 c14 c15 c16 c17 c18 c19 c20 : Value) (x : OpV) : Array Value := #[.int .i64 7, .int .i64 i, .int .u64 ver, .int .u64 word, c4, c5, c6, c7, c8, c9, c10, c11, c12, c13, c14, c15, c16, c17, c18, c19, c20, .int .i64 x.kind, .string x.key, .string x.upto, .int .u64 x.val, .int .i64 x.limit]
set_option maxRecDepth 100000 in
set_option maxHeartbeats 3200000 in
theorem do_write_yes {o oc g gb gr A T : Nat} {L : List (Int × Int)} {bs rs : List (List Value)} (i ver word : Int) (c4 c5 c6 c7 c8 c9 c10 c11 c12 c13 c14 c15 c16 c17 c18 c19 c20 : Value) (k : Nat) (x : OpV) (w : World) (h : MemAt w o oc g gb gr A T L bs rs) (hi : i = (k : Int)) (hk : k < T) :
    Calls Try.prog 12 #[.pointer (some ⟨o, 0, none⟩), .agg (opacc i ver word c4 c5 c6 c7 c8 c9 c10 c11 c12 c13 c14 c15 c16 c17 c18 c19 c20 x)] w fun e w' => e = .returned (.agg #[.bool true, .int .u64 0, .int .u64 0, .int .i64 0, .int .i64 0, .string ⟨#[]⟩, .string ⟨#[]⟩, .bool false, .int .i64 0, .slice none 0 0, .slice none 0 0, .slice none 0 0, .int .i64 0, .int .i64 0, .string ⟨#[]⟩, .int .u64 0, .slice none 0 0, .slice none 0 0, .slice none 0 0, .slice none 0 0, .int .i64 0, .string ⟨#[]⟩, .string ⟨#[]⟩, .int .u64 0, .int .i64 0]) ∧ MemAt w' o oc g gb gr A T L bs (rs.set k (opL x)) ∧ Fr [gr] w w' := by
  subst hi
  have hb2 : Below w.heap.size w ((w.alloc (.cells (opacc k ver word c4 c5 c6 c7 c8 c9 c10 c11 c12 c13 c14 c15 c16 c17 c18 c19 c20 x) 39)).alloc (.cells #[.bool false, .int .u64 0, .int .u64 0, .int .i64 0, .int .i64 0, .string ⟨#[]⟩, .string ⟨#[]⟩, .bool false, .int .i64 0, .slice none 0 0, .slice none 0 0, .slice none 0 0, .int .i64 0, .int .i64 0, .string ⟨#[]⟩, .int .u64 0, .slice none 0 0, .slice none 0 0, .slice none 0 0, .slice none 0 0, .int .i64 0, .string ⟨#[]⟩, .string ⟨#[]⟩, .int .u64 0, .int .i64 0] 50)) := by (repeat (first | exact Below.refl _ _ | assumption | refine below_alloc2 ?_ (by first | exact Nat.le_refl _ | omega) _ | refine Below.drew ?_ | refine below_drewN ?_ _ | refine below_push2 ?_ ‹_› (by first | exact Nat.le_refl _ | omega) | refine Below.setCell ?_ (by first | (simp; done) | (simp; omega) | omega) _))
  have BX := (Blk.new w (opacc k ver word c4 c5 c6 c7 c8 c9 c10 c11 c12 c13 c14 c15 c16 c17 c18 c19 c20 x) 39).alloc (.cells #[.bool false, .int .u64 0, .int .u64 0, .int .i64 0, .int .i64 0, .string ⟨#[]⟩, .string ⟨#[]⟩, .bool false, .int .i64 0, .slice none 0 0, .slice none 0 0, .slice none 0 0, .int .i64 0, .int .i64 0, .string ⟨#[]⟩, .int .u64 0, .slice none 0 0, .slice none 0 0, .slice none 0 0, .slice none 0 0, .int .i64 0, .string ⟨#[]⟩, .string ⟨#[]⟩, .int .u64 0, .int .i64 0] 50)
  have BR : Blk ((w.alloc (.cells (opacc k ver word c4 c5 c6 c7 c8 c9 c10 c11 c12 c13 c14 c15 c16 c17 c18 c19 c20 x) 39)).alloc (.cells #[.bool false, .int .u64 0, .int .u64 0, .int .i64 0, .int .i64 0, .string ⟨#[]⟩, .string ⟨#[]⟩, .bool false, .int .i64 0, .slice none 0 0, .slice none 0 0, .slice none 0 0, .int .i64 0, .int .i64 0, .string ⟨#[]⟩, .int .u64 0, .slice none 0 0, .slice none 0 0, .slice none 0 0, .slice none 0 0, .int .i64 0, .string ⟨#[]⟩, .string ⟨#[]⟩, .int .u64 0, .int .i64 0] 50)) (w.heap.size + 1) #[.bool false, .int .u64 0, .int .u64 0, .int .i64 0, .int .i64 0, .string ⟨#[]⟩, .string ⟨#[]⟩, .bool false, .int .i64 0, .slice none 0 0, .slice none 0 0, .slice none 0 0, .int .i64 0, .int .i64 0, .string ⟨#[]⟩, .int .u64 0, .slice none 0 0, .slice none 0 0, .slice none 0 0, .slice none 0 0, .int .i64 0, .string ⟨#[]⟩, .string ⟨#[]⟩, .int .u64 0, .int .i64 0] 50 := by
    have := Blk.new (w.alloc (.cells (opacc k ver word c4 c5 c6 c7 c8 c9 c10 c11 c12 c13 c14 c15 c16 c17 c18 c19 c20 x) 39)) #[.bool false, .int .u64 0, .int .u64 0, .int .i64 0, .int .i64 0, .string ⟨#[]⟩, .string ⟨#[]⟩, .bool false, .int .i64 0, .slice none 0 0, .slice none 0 0, .slice none 0 0, .int .i64 0, .int .i64 0, .string ⟨#[]⟩, .int .u64 0, .slice none 0 0, .slice none 0 0, .slice none 0 0, .slice none 0 0, .int .i64 0, .string ⟨#[]⟩, .string ⟨#[]⟩, .int .u64 0, .int .i64 0] 50
    simpa using this
  have h2 := h.below hb2
  generalize hW : ((w.alloc (.cells (opacc k ver word c4 c5 c6 c7 c8 c9 c10 c11 c12 c13 c14 c15 c16 c17 c18 c19 c20 x) 39)).alloc (.cells #[.bool false, .int .u64 0, .int .u64 0, .int .i64 0, .int .i64 0, .string ⟨#[]⟩, .string ⟨#[]⟩, .bool false, .int .i64 0, .slice none 0 0, .slice none 0 0, .slice none 0 0, .int .i64 0, .int .i64 0, .string ⟨#[]⟩, .int .u64 0, .slice none 0 0, .slice none 0 0, .slice none 0 0, .slice none 0 0, .int .i64 0, .string ⟨#[]⟩, .string ⟨#[]⟩, .int .u64 0, .int .i64 0] 50)) = wq at hb2 h2 BX BR
  have b0 := BX.at 0 rfl
  have b1 := BX.at 1 rfl
  go_enter Try.func12, Try.ntmps12
  go_wp2_with fail
  refine (none_any _ h2).mono ?_
  rintro e w1 ⟨rfl, rfl⟩
  clear hW
  have d10 : wq.cell? ⟨o, 10, none⟩ = some (.slice (some ⟨gr, 0, none⟩) T T) := h2.head.at 10 rfl
  have hT := h.t1
  have hlr := h.lr
  have r0 := BR.at 0 rfl
  have fr0 := BR.free 0
  have h0 : (0 : Int) ≤ (k : Int) := by omega
  have h1 : (k : Int) < (T : Int) := by omega
  have g0 : decide ((0 : Int) ≤ (k : Int)) = true := by simp
  have g1 : decide (k < T) = true := by simpa using hk
  go_upto_region 20 with (fail)
  refine QuietRow.tail_quiet 14 (by kernel_rfl) (by kernel_rfl) ?_
  simp only [List.take_succ_cons, List.take_zero, List.drop_succ_cons, List.drop_zero]
  iterate 14 (go_big_quiet_step (fail))
  refine wpQuiet_nil ?_
  have BR3 := (BR.set 0 (.bool true)).drew
  simp only [List.setIfInBounds_toArray, List.set_cons_zero] at BR3
  have F3 : Fr [w.heap.size + 1] wq ((wq.setCell ⟨w.heap.size + 1, 0, none⟩ (.bool true)).drew) := ((Fr.refl _ wq).set _ _ (.inl (by simp))).trans (Fr.of_below ((Below.refl _ _).drew))
  have B3 := (hb2.setCell (p := ⟨w.heap.size + 1, 0, none⟩) (by simp) (.bool true)).drew
  have hol := h.head.lt
  have hocl := h.cells.head.lt
  have hgl := h.cells.rows.lt
  have hgbl := h.blocks.lt
  have hgrl := h.records.lt
  have M3 := h2.off F3 (by simp; omega)
  have BX3 := F3.blk BX (by simp)
  have hS3 := (Fr.of_below (S := [w.heap.size + 1]) hb2).trans (F3.more (S' := [w.heap.size + 1]) (by simp))
  go_upto_region 22 with (fail)
  generalize hW : (wq.setCell ⟨w.heap.size + 1, 0, none⟩ (.bool true)).drew = w3 at BR3 M3 BX3 B3 hS3 ⊢
  clear b0 b1 r0 fr0 d10 F3 BR BX
  have b1 := BX3.at 1 rfl
  have x21 := BX3.at 21 rfl
  have x22 := BX3.at 22 rfl
  have x23 := BX3.at 23 rfl
  have x24 := BX3.at 24 rfl
  have x25 := BX3.at 25 rfl
  have d10 : w3.cell? ⟨o, 10, none⟩ = some (.slice (some ⟨gr, 0, none⟩) T T) := M3.head.at 10 rfl
  clear hW h2 hb2
  refine QuietRow.tail_quiet 9 (by kernel_rfl) (by kernel_rfl) ?_
  simp only [List.take_succ_cons, List.take_zero, List.drop_succ_cons, List.drop_zero]
  iterate 9 (go_big_quiet_step (fail))
  refine wpQuiet_nil ?_
  have hth := there_blk' (o := k * 5) (n := 5) M3.records.drew (by rw [recA_size, hlr]; omega)
  have M4 := (M3.below (Below.refl _ w3).drew).recAt k hk (opA x).toList rfl
  have F4 := fr_sets' (S := [gr]) (b := gr) (by simp) (opA x).toList (k * 5) w3.drew
  have hl3 := hS3.size
  have BR4 := F4.blk BR3.drew (by simp; omega)
  have hS4 := ((hS3.more (S' := [gr, w.heap.size + 1]) (by simp)).trans (Fr.of_below ((Below.refl _ w3).drew))).trans (F4.more (by simp))
  generalize hX : w3.drew.setCells gr (k * 5) (opA x).toList = w4 at BR4 M4 hS4
  replace hX := Lib.hid hX
  go_wp2_with (first
    | (refine wpList_store_mid rfl 37 _ _ rfl gr (k * 5) (opA x) rfl rfl hth (by kernel_rfl) (by kernel_rfl) ?_; rw [hX.out])
    | (refine wpList_load_row rfl 50 _ rfl (w.heap.size + 1) rfl 50 _ (0, 0) _ BR4.h Try.underlying50 rfl (by kernel_rfl) ?_)
    | (refine wpList_store_row rfl 50 _ _ rfl (w.heap.size + 1) _ rfl rfl 50 _ BR4.h (by kernel_rfl) (by rfl) (by kernel_rfl) ?_))
  refine bodyPost_ret (results_cell_row rfl _ _ (w.heap.size + 1) 50 #[.bool true, .int .u64 0, .int .u64 0, .int .i64 0, .int .i64 0, .string ⟨#[]⟩, .string ⟨#[]⟩, .bool false, .int .i64 0, .slice none 0 0, .slice none 0 0, .slice none 0 0, .int .i64 0, .int .i64 0, .string ⟨#[]⟩, .int .u64 0, .slice none 0 0, .slice none 0 0, .slice none 0 0, .slice none 0 0, .int .i64 0, .string ⟨#[]⟩, .string ⟨#[]⟩, .int .u64 0, .int .i64 0] (0, 0) _ rfl (Blk.row BR4 #[.bool true, .int .u64 0, .int .u64 0, .int .i64 0, .int .i64 0, .string ⟨#[]⟩, .string ⟨#[]⟩, .bool false, .int .i64 0, .slice none 0 0, .slice none 0 0, .slice none 0 0, .int .i64 0, .int .i64 0, .string ⟨#[]⟩, .int .u64 0, .slice none 0 0, .slice none 0 0, .slice none 0 0, .slice none 0 0, .int .i64 0, .string ⟨#[]⟩, .string ⟨#[]⟩, .int .u64 0, .int .i64 0]).h Try.underlying50 rfl (by kernel_rfl)) rfl ⟨rfl, ?_, ?_⟩
  · exact M4.off (Fr.row (S := [w.heap.size + 1]) _ _ (by simp)) (by simp; omega)
  · have F7 := hS4.trans (Fr.row (S := [gr, w.heap.size + 1]) (w.heap.size + 1) #[.bool true, .int .u64 0, .int .u64 0, .int .i64 0, .int .i64 0, .string ⟨#[]⟩, .string ⟨#[]⟩, .bool false, .int .i64 0, .slice none 0 0, .slice none 0 0, .slice none 0 0, .int .i64 0, .int .i64 0, .string ⟨#[]⟩, .int .u64 0, .slice none 0 0, .slice none 0 0, .slice none 0 0, .slice none 0 0, .int .i64 0, .string ⟨#[]⟩, .string ⟨#[]⟩, .int .u64 0, .int .i64 0] (by simp))
    exact ⟨F7.os, F7.tape, F7.output, F7.size, fun c hc hn' => F7.block c hc (by simp at hn' ⊢; omega)⟩
end Go.Proofs.Ytpempcefgfmniaa.MemP

/-
  A memory whose blocks are known in depth; Do of any access, in general: contract.
-/
namespace Go.Proofs.Ytpempcefgfmniaa.MemP
open Go.RowKit RefP CellP Dp
set_option linter.unusedVariables false
set_option linter.unusedSimpArgs false
def nodeZ : NodeV := ⟨0, ⟨#[]⟩, ⟨#[]⟩, false, 0, [], [], []⟩
def planZ : PlanV := ⟨0, ⟨0, ⟨#[]⟩, 0, []⟩, [], []⟩
def blockZ : BlockV := ⟨0, ⟨0, ⟨#[]⟩, ⟨#[]⟩, false, 0, [], [], []⟩, ⟨0, ⟨0, ⟨#[]⟩, 0, []⟩, [], []⟩, []⟩
def blockE : BlockV := ⟨1, ⟨0, ⟨#[]⟩, ⟨#[]⟩, true, -1, [], [], []⟩, ⟨0, ⟨0, ⟨#[]⟩, 0, []⟩, [], []⟩, []⟩
def opZ : OpV := ⟨0, ⟨#[]⟩, ⟨#[]⟩, 0, 0⟩
def nilH : BlockH := ⟨⟨Hd.nil, Hd.nil, Hd.nil⟩, ⟨Hd.nil, Hd.nil, Hd.nil⟩, Hd.nil⟩
theorem blockZ_ok (w : World) (S : List Nat) : BlockOk w S nilH blockZ :=
  ⟨⟨by decide, by decide⟩, ⟨⟨by decide, by decide⟩, Nat.zero_le _, Nat.zero_le _, ⟨by decide, by decide⟩, HRow.nil _ _ _, HRow.nil _ _ _, HRow.nil _ _ _⟩, ⟨⟨by decide, by decide⟩, ⟨⟨by decide, by decide⟩, Nat.zero_le _, ⟨by decide, by decide⟩, HRow.nil _ _ _⟩, HRow.nil _ _ _, HRow.nil _ _ _⟩, HRow.nil _ _ _⟩
theorem blockE_ok (w : World) (S : List Nat) : BlockOk w S nilH blockE :=
  ⟨⟨by decide, by decide⟩, ⟨⟨by decide, by decide⟩, Nat.zero_le _, Nat.zero_le _, ⟨by decide, by decide⟩, HRow.nil _ _ _, HRow.nil _ _ _, HRow.nil _ _ _⟩, ⟨⟨by decide, by decide⟩, ⟨⟨by decide, by decide⟩, Nat.zero_le _, ⟨by decide, by decide⟩, HRow.nil _ _ _⟩, HRow.nil _ _ _, HRow.nil _ _ _⟩, HRow.nil _ _ _⟩
theorem opZ_ok : OpOk opZ := ⟨⟨by decide, by decide⟩, Nat.zero_le _, Nat.zero_le _, ⟨by decide, by decide⟩, ⟨by decide, by decide⟩⟩
theorem fewZ : Few blockZ := ⟨by decide, by decide, by decide, by decide, by decide, by decide, by decide⟩
theorem fewE : Few blockE := ⟨by decide, by decide, by decide, by decide, by decide, by decide, by decide⟩
/-- a block that lies somewhere, with its rows in none of S -/
def IsB (w : World) (S : List Nat) (cs : List Value) (b : BlockV) : Prop := ∃ q, cs = (blockA q b).toList ∧ BlockOk w S q b ∧ Few b
theorem IsB.keep {w w' : World} {S : List Nat} {cs : List Value} {b : BlockV} (h : IsB w S cs b) (k : Keeps S w w') : IsB w' S cs b := by
  obtain ⟨q, e, H, f⟩ := h
  exact ⟨q, e, H.keep k, f⟩
theorem IsB.more {w : World} {S S' : List Nat} {cs : List Value} {b : BlockV} (h : IsB w S cs b) (k : ∀ b ∈ S', b ∈ S ∨ w.heap.size ≤ b) : IsB w S' cs b := by
  obtain ⟨q, e, H, f⟩ := h
  exact ⟨q, e, H.more k, f⟩
theorem isB_zb (w : World) (S : List Nat) : IsB w S zb blockZ := ⟨nilH, rfl, blockZ_ok w S, fewZ⟩
theorem isB_eb (w : World) (S : List Nat) : IsB w S eb blockE := ⟨nilH, rfl, blockE_ok w S, fewE⟩
/-- the own blocks of a memory -/
structure MemId where
  o : Nat
  oc : Nat
  g : Nat
  gb : Nat
  gr : Nat
def MemId.own (m : MemId) : List Nat := [m.o, m.oc, m.g, m.gb, m.gr]
/-- what a memory has -/
structure MemV where
  A : Nat
  T : Nat
  L : List (Int × Int)
  B : List BlockV
  R : List OpV
structure MemIs (w : World) (S : List Nat) (m : MemId) (M : MemV) : Prop where
  mem : ∃ bs, MemAt w m.o m.oc m.g m.gb m.gr M.A M.T M.L bs (M.R.map opL) ∧ ∀ i, i < M.A → IsB w S (bs.getD i []) (M.B.getD i blockZ)
  len : M.B.length = M.A
  recs : ∀ x ∈ M.R, OpOk x
  own : ∀ b ∈ m.own, b ∈ S
theorem MemIs.keep {w w' : World} {S S' : List Nat} {m : MemId} {M : MemV} (h : MemIs w S m M) (F : Fr S' w w') (h1 : ∀ b ∈ S', b ∈ S) (h2 : ∀ b ∈ m.own, b ∉ S') : MemIs w' S m M := by
  obtain ⟨⟨bs, h0, hB⟩, hl, hr, ho⟩ := h
  refine ⟨⟨bs, h0.off F ?_, fun i hi => (hB i hi).keep (F.keeps.more h1)⟩, hl, hr, ho⟩
  simp only [MemId.own, List.mem_cons, List.not_mem_nil, or_false, forall_eq_or_imp, forall_eq] at h2
  exact h2
theorem MemIs.below {w w' : World} {S : List Nat} {m : MemId} {M : MemV} (h : MemIs w S m M) (hb : Below w.heap.size w w') : MemIs w' S m M :=
  h.keep (Fr.of_below (S := []) hb) (by simp) (by simp)
theorem MemIs.more {w : World} {S S' : List Nat} {m : MemId} {M : MemV} (h : MemIs w S m M) (k : ∀ b ∈ S', b ∈ S ∨ w.heap.size ≤ b) (ho : ∀ b ∈ m.own, b ∈ S') : MemIs w S' m M := by
  obtain ⟨⟨bs, h0, hB⟩, hl, hr, _⟩ := h
  exact ⟨⟨bs, h0, fun i hi => (hB i hi).more k⟩, hl, hr, ho⟩
theorem MemIs.lt {w : World} {S : List Nat} {m : MemId} {M : MemV} (h : MemIs w S m M) : ∀ b ∈ m.own, b < w.heap.size := by
  obtain ⟨⟨bs, h0, hB⟩, _⟩ := h
  have a1 := h0.head.lt
  have a2 := h0.cells.head.lt
  have a3 := h0.cells.rows.lt
  have a4 := h0.blocks.lt
  have a5 := h0.records.lt
  simp only [MemId.own, List.mem_cons, List.not_mem_nil, or_false, forall_eq_or_imp, forall_eq]
  exact ⟨a1, a2, a3, a4, a5⟩
theorem MemIs.at_ {w : World} {S : List Nat} {m : MemId} {M : MemV} (h : MemIs w S m M) : ∃ bs, MemAt w m.o m.oc m.g m.gb m.gr M.A M.T M.L bs (M.R.map opL) := by
  obtain ⟨⟨bs, h0, hB⟩, _⟩ := h
  exact ⟨bs, h0⟩
def clearV (B : List BlockV) (A : Nat) (c : Int) : List BlockV := if (A : Int) ≤ c ∧ c < 2 * A then B.set (c - A).toNat blockZ else B
/-- what an access does -/
def doV (M : MemV) (a : AccV) : MemV :=
  if a.kind = 2 then (if inB M.L.length a.at_ = true then { M with L := storeL M.L a.at_ a.word, B := clearV M.B M.A a.at_ } else M)
  else if a.kind = 3 then (if casB M.L a.at_ a.ver = true then { M with L := casL M.L a.at_ a.ver a.word, B := clearV M.B M.A a.at_ } else M)
  else if a.kind = 5 then (if nameB M.A M.T M.L a.word = true then { M with B := M.B.set (nameP M.A a.word).toNat a.block } else M)
  else if a.kind = 7 then (if 0 ≤ a.at_ ∧ a.at_ < (M.T : Int) then { M with R := M.R.set a.at_.toNat a.op } else M)
  else M
/-- what it answers -/
def repV (M : MemV) (a : AccV) : ReplyV :=
  if a.kind = 1 then ⟨inB M.L.length a.at_, loadW M.L a.at_, loadV M.L a.at_, blockZ, opZ⟩
  else if a.kind = 2 then ⟨inB M.L.length a.at_, 0, 0, blockZ, opZ⟩
  else if a.kind = 3 then ⟨casB M.L a.at_ a.ver, 0, 0, blockZ, opZ⟩
  else if a.kind = 4 then (if nameB M.A M.T M.L a.word = true then ⟨true, 0, 0, M.B.getD (nameP M.A a.word).toNat blockZ, opZ⟩ else ⟨false, 0, 0, blockZ, opZ⟩)
  else if a.kind = 5 then ⟨nameB M.A M.T M.L a.word, 0, 0, blockZ, opZ⟩
  else if a.kind = 6 then (if 0 ≤ a.at_ ∧ a.at_ < (M.T : Int) then ⟨true, 0, 0, blockZ, M.R.getD a.at_.toNat opZ⟩ else ⟨false, 0, 0, blockZ, opZ⟩)
  else if a.kind = 7 then ⟨decide (0 ≤ a.at_ ∧ a.at_ < (M.T : Int)), 0, 0, blockZ, opZ⟩
  else ⟨false, 0, 0, blockZ, opZ⟩
/-- the cells of a reply -/
abbrev repA (q : BlockH) (r : ReplyV) : Array Value := #[.bool r.ok, .int .u64 r.word, .int .u64 r.ver, .int .i64 r.block.kind, .int .i64 r.block.node.level, .string r.block.node.low, .string r.block.node.high, .bool r.block.node.last, .int .i64 r.block.node.next, .slice q.node.keys.a r.block.node.keys.length q.node.keys.c, .slice q.node.vals.a r.block.node.vals.length q.node.vals.c, .slice q.node.kids.a r.block.node.kids.length q.node.kids.c, .int .i64 r.block.plan.thread, .int .i64 r.block.plan.ans.code, .string r.block.plan.ans.key, .int .u64 r.block.plan.ans.val, .slice q.plan.pairs.a r.block.plan.ans.pairs.length q.plan.pairs.c, .slice q.plan.steps.a r.block.plan.steps.length q.plan.steps.c, .slice q.plan.extra.a r.block.plan.extra.length q.plan.extra.c, .slice q.pairs.a r.block.pairs.length q.pairs.c, .int .i64 r.op.kind, .string r.op.key, .string r.op.upto, .int .u64 r.op.val, .int .i64 r.op.limit]
structure RepOk (w : World) (S : List Nat) (q : BlockH) (r : ReplyV) : Prop where
  word : 0 ≤ r.word ∧ r.word ≤ 18446744073709551615
  ver : 0 ≤ r.ver ∧ r.ver ≤ 18446744073709551615
  block : BlockOk w S q r.block
  few : Few r.block
  op : OpOk r.op
/-- an access did what it does, in memory -/
structure Did (w : World) (S : List Nat) (m : MemId) (M : MemV) (a : AccV) (e : Ending) (w' : World) : Prop where
  rep : ∃ q, e = .returned (.agg (repA q (repV M a))) ∧ RepOk w' (List.range w.heap.size) q (repV M a) ∧ (a.kind ≠ 4 → q = nilH)
  mem : MemIs w' S m (doV M a)
  fr : Fr [m.g, m.gb, m.gr] w w'
theorem repZ {w : World} {S : List Nat} (ok : Bool) (word ver : Int) (h1 : 0 ≤ word ∧ word ≤ 18446744073709551615) (h2 : 0 ≤ ver ∧ ver ≤ 18446744073709551615) : RepOk w S nilH ⟨ok, word, ver, blockZ, opZ⟩ := ⟨h1, h2, blockZ_ok w S, fewZ, opZ_ok⟩
theorem clear_isB {w : World} {S : List Nat} {A : Nat} {bs : List (List Value)} {B : List BlockV} (c : Int) (hl : bs.length = A) (hl' : B.length = A) (h : ∀ i, i < A → IsB w S (bs.getD i []) (B.getD i blockZ)) : ∀ i, i < A → IsB w S ((clearL bs A c).getD i []) ((clearV B A c).getD i blockZ) := by
  intro i hi
  unfold clearL clearV
  by_cases hc : (A : Int) ≤ c ∧ c < 2 * A
  · rw [if_pos hc, if_pos hc]
    by_cases he : (c - A).toNat = i
    · subst he
      simp only [List.getD_eq_getElem?_getD, List.getElem?_set_self' , List.getElem?_eq_getElem (show (c - A).toNat < bs.length by omega), List.getElem?_eq_getElem (show (c - A).toNat < B.length by omega)]
      exact isB_zb w S
    · simp only [List.getD_eq_getElem?_getD, List.getElem?_set_ne he]
      simpa only [List.getD_eq_getElem?_getD] using h i hi
  · rw [if_neg hc, if_neg hc]; exact h i hi
theorem put_isB {w : World} {S : List Nat} {A : Nat} {bs : List (List Value)} {B : List BlockV} (k : Nat) (cs : List Value) (b : BlockV) (hb : IsB w S cs b) (hl : bs.length = A) (hl' : B.length = A) (h : ∀ i, i < A → IsB w S (bs.getD i []) (B.getD i blockZ)) : ∀ i, i < A → IsB w S ((bs.set k cs).getD i []) ((B.set k b).getD i blockZ) := by
  intro i hi
  by_cases he : k = i
  · subst he
    simp only [List.getD_eq_getElem?_getD, List.getElem?_set_self', List.getElem?_eq_getElem (show k < bs.length by omega), List.getElem?_eq_getElem (show k < B.length by omega)]
    exact hb
  · simp only [List.getD_eq_getElem?_getD, List.getElem?_set_ne he]
    simpa only [List.getD_eq_getElem?_getD] using h i hi
theorem own_isB {w w' : World} {S S' : List Nat} {A : Nat} {bs : List (List Value)} {B : List BlockV} (F : Fr S' w w') (hS : ∀ b ∈ S', b ∈ S) (h : ∀ i, i < A → IsB w S (bs.getD i []) (B.getD i blockZ)) : ∀ i, i < A → IsB w' S (bs.getD i []) (B.getD i blockZ) :=
  fun i hi => (h i hi).keep (F.keeps.more hS)
theorem loadW_rng {w : World} {oc g : Nat} {L : List (Int × Int)} (h : CellsAt w oc g L) (i : Int) : (0 ≤ loadW L i ∧ loadW L i ≤ 18446744073709551615) ∧ (0 ≤ loadV L i ∧ loadV L i ≤ 18446744073709551615) := by
  unfold loadW loadV
  by_cases hi : inB L.length i = true
  · rw [if_pos hi, if_pos hi]
    have hr := h.rng
    have := inB_yes hi
    have hm : at2 L i.toNat ∈ L := by
      unfold at2
      rw [List.getD_eq_getElem?_getD, List.getElem?_eq_getElem (show i.toNat < L.length by omega)]
      exact List.getElem_mem _
    have := hr _ hm
    omega
  · rw [if_neg hi, if_neg hi]; omega
end Go.Proofs.Ytpempcefgfmniaa.MemP

/-
  Rows that a caller copies by append, and writes: what it has then.
-/
namespace Go.Proofs.Ytpempcefgfmniaa.Dp
open Go.RowKit RefP MemP
set_option linter.unusedVariables false
set_option linter.unusedSimpArgs false
/-- a row that was copied by append behind an empty one -/
structure AppRow {α : Type} (P : Program) (C : Cod α) (L : α → List Value) (T E : TypeId) (w : World) (h : Hd) (xs : List α) (g cap : Nat) (w' : World) : Prop where
  run : Hid (∀ ty, (Builtin.append_ #[T, T] ty #[.slice (some ⟨w.heap.size, 0, none⟩) 0 0, .slice h.a xs.length h.c]).run P (w.alloc (.cells #[] E)) = .ok (.slice (some ⟨g, 0, none⟩) xs.length cap) w')
  below : Below w.heap.size w w'
  ge : w.heap.size ≤ g
  blk : ∃ cur, Blk w' g cur E ∧ ∀ i (hi : i < xs.length) j v, (L xs[i])[j]? = some v → cur[i * C.k + j]? = some v
  row : HRow C w' (List.range w.heap.size) ⟨some ⟨g, 0, none⟩, cap⟩ xs
theorem app_strs {w : World} {S : List Nat} {h : Hd} {xs : List (ByteArray)} (H : HRow strC w S h xs) (hl : xs.length ≤ 1000) : ∃ g cap w', AppRow Try.prog strC (fun s => [.string s]) 23 9 w h xs g cap w' := by
  have hm : (maxLen : Nat) = 9223372036854775807 := by unfold maxLen; rfl
  have hb1 : Below w.heap.size w (w.alloc (.cells #[] 9)) := (Below.refl _ w).alloc (Nat.le_refl _) _
  have O := OwnR.empty 1 (flatF (fun s => [.string s])) ⟨#[]⟩ w w.heap.size 9 (Nat.le_refl _)
  have R := (flat_str).recs ⟨#[]⟩ (H.keep (Keeps.of_below hb1))
  obtain ⟨i0, hi, hz0, hz1, hz2⟩ := info_parts' infoS
  have A : ∃ g cap w', AddedR Try.prog 1 (flatF (fun s => [.string s])) ⟨#[]⟩ (w.alloc (.cells #[] 9)) w.heap.size 23 9 (some ⟨w.heap.size, 0, none⟩) 0 [] (.slice h.a xs.length h.c) xs.length xs g cap w' := by
    by_cases hx : 0 < xs.length
    · exact addRecs (c' := h.c) w.heap.size 23 9 i0 _ 16 Try.underlying23 hi hz0 hz1 hz2 (by simp [Value.cells]) (by decide) (flat_str).oneF O R hx (by simp; omega) (by simp; omega) (by simp)
    · obtain rfl : xs = [] := List.eq_nil_of_length_eq_zero (by omega)
      exact ⟨_, _, _, addRecs_zero w.heap.size w.heap.size 23 9 i0 Try.underlying23 hi O h.a h.c⟩
  obtain ⟨g, cap, wa, A⟩ := A
  have hrun := fun ty => A.run ty
  simp only [List.length_nil, Nat.zero_add] at hrun
  have hb2 : Below w.heap.size w wa := A.keeps (fun k e => (O.lt k e).1) w w.heap.size (Nat.le_refl _) hb1 (by simp)
  have hcap : xs.length ≤ cap ∧ cap ≤ maxLen ∧ ∃ cur, Blk wa g cur 9 ∧ cur.toList.take (xs.length * 1) = rowL (xs.length * 1) (recF 1 (flatF (fun s => [.string s])) ⟨#[]⟩ xs) := by
    rcases A.own.own.2 with ⟨q, _⟩ | ⟨g', cap', cur, q, _, hh, h1, h2, _, h4⟩
    · cases q
    · injection q with q1 _ q3
      subst q3
      injection q1 with q1
      injection q1 with q1
      subst q1
      exact ⟨h1, h2, cur, ⟨hh⟩, h4⟩
  obtain ⟨hc1, hc2, cur, BG, hcur⟩ := hcap
  refine ⟨g, cap, wa, Lib.hid hrun, hb2, A.ge, ⟨cur, BG, fun i hi j v hj => ?_⟩, (flat_str).back A.own.read H.all (fun b off e => ?_) hc1 hc2⟩
  · have hjk : j < 1 := by
      have := (flat_str).len xs[i]
      have h3 := (List.getElem?_eq_some_iff.1 hj).1
      rw [this] at h3; exact h3
    have hlt := rec_lt hi hjk
    have e1 : (cur.toList.take (xs.length * 1))[i * 1 + j]? = (rowL (xs.length * 1) (recF 1 (flatF (fun s => [.string s])) ⟨#[]⟩ xs))[i * 1 + j]? := by rw [hcur]
    rw [List.getElem?_take_of_lt hlt, rowL_at _ _ _ hlt, recF_at _ _ _ _ _ hjk] at e1
    have e2 : xs.getD i ⟨#[]⟩ = xs[i] := by simp [List.getD_eq_getElem?_getD, hi]
    rw [e2] at e1
    show cur[i * 1 + j]? = some v
    rw [← Array.getElem?_toList, e1, ← (flat_str).getD xs[i] j hjk, hj]
  · injection e with e
    injection e with e1
    subst e1
    have := A.ge
    simp
    omega
theorem app_pairs {w : World} {S : List Nat} {h : Hd} {xs : List (PairV)} (H : HRow pairT w S h xs) (hl : xs.length ≤ 1000) : ∃ g cap w', AppRow Try.prog pairT pairL 28 64 w h xs g cap w' := by
  have hm : (maxLen : Nat) = 9223372036854775807 := by unfold maxLen; rfl
  have hb1 : Below w.heap.size w (w.alloc (.cells #[] 64)) := (Below.refl _ w).alloc (Nat.le_refl _) _
  have O := OwnR.empty 2 (flatF pairL) ⟨⟨#[]⟩, 0⟩ w w.heap.size 64 (Nat.le_refl _)
  have R := (flat_pair).recs ⟨⟨#[]⟩, 0⟩ (H.keep (Keeps.of_below hb1))
  obtain ⟨i0, hi, hz0, hz1, hz2⟩ := info_parts' infoPair
  have A : ∃ g cap w', AddedR Try.prog 2 (flatF pairL) ⟨⟨#[]⟩, 0⟩ (w.alloc (.cells #[] 64)) w.heap.size 28 64 (some ⟨w.heap.size, 0, none⟩) 0 [] (.slice h.a xs.length h.c) xs.length xs g cap w' := by
    by_cases hx : 0 < xs.length
    · exact addRecs (c' := h.c) w.heap.size 28 64 i0 _ 24 Try.underlying28 hi hz0 hz1 hz2 (by simp [Value.cells]) (by decide) (flat_pair).oneF O R hx (by simp; omega) (by simp; omega) (by simp)
    · obtain rfl : xs = [] := List.eq_nil_of_length_eq_zero (by omega)
      exact ⟨_, _, _, addRecs_zero w.heap.size w.heap.size 28 64 i0 Try.underlying28 hi O h.a h.c⟩
  obtain ⟨g, cap, wa, A⟩ := A
  have hrun := fun ty => A.run ty
  simp only [List.length_nil, Nat.zero_add] at hrun
  have hb2 : Below w.heap.size w wa := A.keeps (fun k e => (O.lt k e).1) w w.heap.size (Nat.le_refl _) hb1 (by simp)
  have hcap : xs.length ≤ cap ∧ cap ≤ maxLen ∧ ∃ cur, Blk wa g cur 64 ∧ cur.toList.take (xs.length * 2) = rowL (xs.length * 2) (recF 2 (flatF pairL) ⟨⟨#[]⟩, 0⟩ xs) := by
    rcases A.own.own.2 with ⟨q, _⟩ | ⟨g', cap', cur, q, _, hh, h1, h2, _, h4⟩
    · cases q
    · injection q with q1 _ q3
      subst q3
      injection q1 with q1
      injection q1 with q1
      subst q1
      exact ⟨h1, h2, cur, ⟨hh⟩, h4⟩
  obtain ⟨hc1, hc2, cur, BG, hcur⟩ := hcap
  refine ⟨g, cap, wa, Lib.hid hrun, hb2, A.ge, ⟨cur, BG, fun i hi j v hj => ?_⟩, (flat_pair).back A.own.read H.all (fun b off e => ?_) hc1 hc2⟩
  · have hjk : j < 2 := by
      have := (flat_pair).len xs[i]
      have h3 := (List.getElem?_eq_some_iff.1 hj).1
      rw [this] at h3; exact h3
    have hlt := rec_lt hi hjk
    have e1 : (cur.toList.take (xs.length * 2))[i * 2 + j]? = (rowL (xs.length * 2) (recF 2 (flatF pairL) ⟨⟨#[]⟩, 0⟩ xs))[i * 2 + j]? := by rw [hcur]
    rw [List.getElem?_take_of_lt hlt, rowL_at _ _ _ hlt, recF_at _ _ _ _ _ hjk] at e1
    have e2 : xs.getD i ⟨⟨#[]⟩, 0⟩ = xs[i] := by simp [List.getD_eq_getElem?_getD, hi]
    rw [e2] at e1
    show cur[i * 2 + j]? = some v
    rw [← Array.getElem?_toList, e1, ← (flat_pair).getD xs[i] j hjk, hj]
  · injection e with e
    injection e with e1
    subst e1
    have := A.ge
    simp
    omega
end Go.Proofs.Ytpempcefgfmniaa.Dp

/-
  Rows of anything that are copied by append, and written in one place: plain laws, and the document's memory as it lies.
-/
namespace Go.Proofs.Ytpempcefgfmniaa.MemP
open Go.RowKit RefP CellP Dp
set_option linter.unusedVariables false
set_option linter.unusedSimpArgs false
abbrev rowF (R : List (List Value)) (k : Nat) (j : Nat) : Value := (R.getD (j / k) []).getD (j % k) undef
theorem rowF_at {R : List (List Value)} {k i j : Nat} {cs : List Value} {v : Value} (hk : j < k) (hi : R[i]? = some cs) (hj : cs[j]? = some v) : rowF R k (i * k + j) = v := by
  have h1 : (i * k + j) / k = i := by
    rw [Nat.mul_comm, Nat.mul_add_div (by omega), Nat.div_eq_of_lt hk]; omega
  have h2 : (i * k + j) % k = j := by
    rw [Nat.mul_comm, Nat.mul_add_mod, Nat.mod_eq_of_lt hk]
  simp [rowF, h1, h2, List.getD_eq_getElem?_getD, hi, hj]
/-- a row, as raw cells -/
theorem row_raw {α : Type} {E : Cod α} {w : World} {S : List Nat} {a : Option Addr} {xs : List α} (hk : 0 < E.k) (H : RowRep E w S a xs) : ∃ R : List (List Value), R.length = xs.length ∧ (∀ (i : Nat) (x : α), xs[i]? = some x → ∃ cs : List Value, R[i]? = some cs ∧ E.rep w S cs x) ∧ Holds w a (xs.length * E.k) (rowF R E.k) := by
  by_cases h0 : 0 < xs.length
  · obtain ⟨b, off, rfl, hb, hS, hc⟩ := H h0
    obtain ⟨R, hl, hR⟩ := list_of_get xs.length (fun i cs => ∃ x, xs[i]? = some x ∧ E.rep w S cs x ∧ ∀ j v, cs[j]? = some v → w.cell? ⟨b, off + i * E.k + j, none⟩ = some v) (fun i hi => by
      obtain ⟨cs, h1, h2⟩ := hc i xs[i] (List.getElem?_eq_getElem hi)
      exact ⟨cs, xs[i], List.getElem?_eq_getElem hi, h1, h2⟩)
    refine ⟨R, hl, fun i x hx => ?_, ⟨fun _ => ⟨b, off, rfl, hb, fun m hm => ?_⟩⟩⟩
    · have hi : i < xs.length := (List.getElem?_eq_some_iff.1 hx).1
      obtain ⟨x', e, h1, _⟩ := hR i (R[i]'(by omega)) (List.getElem?_eq_getElem (by omega))
      rw [hx] at e
      cases e
      exact ⟨_, List.getElem?_eq_getElem (by omega), h1⟩
    · have hi : m / E.k < xs.length := Nat.div_lt_of_lt_mul (by rw [Nat.mul_comm]; exact hm)
      obtain ⟨x', e, h1, h2⟩ := hR (m / E.k) (R[m / E.k]'(by omega)) (List.getElem?_eq_getElem (by omega))
      have hlen := E.len h1
      have hj : m % E.k < E.k := Nat.mod_lt _ hk
      have h3 := h2 (m % E.k) ((R[m / E.k]'(by omega))[m % E.k]'(by omega)) (List.getElem?_eq_getElem (by omega))
      rw [show off + m / E.k * E.k + m % E.k = off + m by have := Nat.div_add_mod m E.k; rw [Nat.mul_comm] at this; omega] at h3
      rw [h3]
      simp [rowF, List.getD_eq_getElem?_getD, List.getElem?_eq_getElem (show m / E.k < R.length by omega), List.getElem?_eq_getElem (show m % E.k < (R[m / E.k]'(by omega)).length by omega)]
  · obtain rfl : xs = [] := List.eq_nil_of_length_eq_zero (by omega)
    exact ⟨[], rfl, fun i x hx => by simp at hx, by simp only [List.length_nil, Nat.zero_mul]; exact Holds.nil _ _ _⟩
theorem row_of_blk {α : Type} {E : Cod α} {w : World} {S : List Nat} {g : Nat} {cur : Array Value} {T : TypeId} {xs : List α} (B : Blk w g cur T) (hg : g ∉ S) (h : ∀ (i : Nat) (x : α), xs[i]? = some x → ∃ cs, E.rep w S cs x ∧ ∀ j v, cs[j]? = some v → cur[i * E.k + j]? = some v) : RowRep E w S (some ⟨g, 0, none⟩) xs := by
  intro _
  refine ⟨g, 0, rfl, B.lt, hg, fun i x hx => ?_⟩
  obtain ⟨cs, h1, h2⟩ := h i x hx
  exact ⟨cs, h1, fun j v hj => by rw [Nat.zero_add]; exact B.at _ (h2 j v hj)⟩
/-- a row copied by append: what stands in the new block -/
structure CopyRow {α : Type} (P : Program) (E : Cod α) (T t : TypeId) (w : World) (S : List Nat) (a : Option Addr) (c : Nat) (xs : List α) (g cap : Nat) (w' : World) : Prop where
  run : Hid (∀ ty, (Builtin.append_ #[T, T] ty #[.slice (some ⟨w.heap.size, 0, none⟩) 0 0, .slice a xs.length c]).run P (w.alloc (.cells #[] t)) = .ok (.slice (some ⟨g, 0, none⟩) xs.length cap) w')
  below : Below w.heap.size w w'
  ge : w.heap.size ≤ g
  blk : ∃ cur, Blk w' g cur t ∧ xs.length * E.k ≤ cur.size ∧ ∀ (i : Nat) (x : α), xs[i]? = some x → ∃ cs, E.rep w' (g :: S) cs x ∧ ∀ j v, cs[j]? = some v → cur[i * E.k + j]? = some v
theorem copy_row {α : Type} {P : Program} {E : Cod α} (T t : TypeId) (i0 : TypeInfo) (z : Value) (bytes : Nat) (ht : P.underlying T = some (.slice t)) (hi : P.info? t = some i0) (hz : i0.zero = some z) (hsize : i0.size = E.k) (hby : i0.bytes = bytes) (hzs : z.cells.size = E.k) (hk : 0 < E.k)
    {w : World} {S : List Nat} {a : Option Addr} {c : Nat} {xs : List α} (H : RowRep E w S a xs) (h0 : 0 < xs.length) (hm : xs.length ≤ maxLen) (hb : xs.length * bytes ≤ 140737488355328) :
    ∃ g cap w', CopyRow P E T t w S a c xs g cap w' := by
  obtain ⟨R, hl, hR, hH⟩ := row_raw hk H
  have hb1 : Below w.heap.size w (w.alloc (.cells #[] t)) := (Below.refl _ w).alloc (Nat.le_refl _) _
  obtain ⟨b, off, rfl, hbl, hcell⟩ := hH.get (Nat.mul_pos h0 hk)
  obtain ⟨g, cap, w1, A⟩ := appended (P := P) (w := w.alloc (.cells #[] t)) (c' := c) T w.heap.size t i0 z E.k bytes ht hi hz hsize hby hzs hk
    (Owns.empty w w.heap.size _ E.k (fun _ => undef) (Nat.le_refl _)) (m := xs.length) (hH.below hb1) (fun m hm => by
      have hi : m / E.k < xs.length := Nat.div_lt_of_lt_mul (by rw [Nat.mul_comm]; exact hm)
      obtain ⟨cs, e1, e2⟩ := hR (m / E.k) xs[m / E.k] (List.getElem?_eq_getElem hi)
      have hj : m % E.k < cs.length := by rw [E.len e2]; exact Nat.mod_lt _ hk
      have : rowF R E.k m = cs[m % E.k] := by simp [rowF, List.getD_eq_getElem?_getD, e1, List.getElem?_eq_getElem hj]
      rw [this]
      exact E.one e2 _ (List.getElem_mem hj)) h0 (by omega) (by rw [Nat.zero_add]; exact hb) (by simp)
  have hrun := A.run
  simp only [Nat.zero_add] at hrun
  have hB := A.below w hb1 (by simp)
  refine ⟨g, cap, w1, Lib.hid hrun, hB, A.own.blk g 0 rfl, ?_⟩
  rcases A.own.2 with ⟨q, _⟩ | ⟨g', cap', cur, q, _, hh, h1, h2, h3, h4⟩
  · cases q
  · injection q with q1 _ q3
    subst q3
    injection q1 with q1
    injection q1 with q1
    subst q1
    have hlen : xs.length * E.k ≤ cur.size := by
      have := congrArg List.length h4
      simp only [List.length_take, rowL_length, Nat.zero_add, Array.length_toList] at this
      omega
    refine ⟨cur, ⟨hh⟩, hlen, fun i x hx => ?_⟩
    obtain ⟨cs, e1, e2⟩ := hR i x hx
    refine ⟨cs, E.keep (E.more e2 (fun b hb => by rcases List.mem_cons.1 hb with rfl | hb; exact .inr (A.own.blk _ 0 rfl); exact .inl hb)) (Keeps.of_below hB), fun j v hj => ?_⟩
    have hi : i < xs.length := (List.getElem?_eq_some_iff.1 hx).1
    have hjk : j < E.k := by
      have := (List.getElem?_eq_some_iff.1 hj).1
      rw [E.len e2] at this; exact this
    have hlt : i * E.k + j < xs.length * E.k := by
      have : (i + 1) * E.k ≤ xs.length * E.k := Nat.mul_le_mul_right _ hi
      rw [Nat.add_mul] at this
      omega
    have e3 : (cur.toList.take ((0 + xs.length) * E.k))[i * E.k + j]? = some v := by
      rw [h4, rowL_at _ _ _ (by rw [Nat.zero_add]; exact hlt)]
      simp only [Nat.zero_mul, Nat.not_lt_zero, if_false, Nat.sub_zero]
      rw [rowF_at hjk e1 hj]
    rw [List.getElem?_take_of_lt (by rw [Nat.zero_add]; exact hlt)] at e3
    rw [← Array.getElem?_toList]
    exact e3
theorem CopyRow.row {α : Type} {P : Program} {E : Cod α} {T t : TypeId} {w : World} {S : List Nat} {a : Option Addr} {c : Nat} {xs : List α} {g cap : Nat} {w' : World} (A : CopyRow P E T t w S a c xs g cap w') (hS : ∀ b ∈ S, b < w.heap.size) : RowRep E w' S (some ⟨g, 0, none⟩) xs := by
  obtain ⟨cur, B, _, h⟩ := A.blk
  refine row_of_blk B (fun e => by have := hS g e; have := A.ge; omega) (fun i x hx => ?_)
  obtain ⟨cs, e1, e2⟩ := h i x hx
  exact ⟨cs, E.more e1 (fun b hb => .inl (List.mem_cons_of_mem _ hb)), e2⟩
/-- one place of it written -/
theorem set_row {α : Type} {E : Cod α} {w : World} {S : List Nat} {g : Nat} {cur : Array Value} {T : TypeId} {xs : List α} (B : Blk w g cur T) (hg : g ∉ S) (hsz : xs.length * E.k ≤ cur.size) (h : ∀ (i : Nat) (x : α), xs[i]? = some x → ∃ cs, E.rep w (g :: S) cs x ∧ ∀ j v, cs[j]? = some v → cur[i * E.k + j]? = some v)
    (i : Nat) (hi : i < xs.length) (x : α) (cs : List Value) (hx : E.rep w (g :: S) cs x) : RowRep E (w.setCells g (i * E.k) cs) S (some ⟨g, 0, none⟩) (xs.set i x) := by
  have F := fr_sets' (S := [g]) (b := g) (by simp) cs (i * E.k) w
  have K : Keeps (g :: S) w (w.setCells g (i * E.k) cs) := F.keeps.more (by simp)
  have hlen := E.len hx
  have hle : i * E.k + E.k ≤ cur.size := by
    have : (i + 1) * E.k ≤ xs.length * E.k := Nat.mul_le_mul_right _ hi
    rw [Nat.add_mul] at this
    omega
  refine row_of_blk (blk_sets' cs (i * E.k) _ _ B) hg (fun m y hy => ?_)
  by_cases he : i = m
  · subst he
    rw [List.getElem?_set_self hi] at hy
    cases hy
    refine ⟨cs, E.more (E.keep hx K) (fun b hb => .inl (List.mem_cons_of_mem _ hb)), fun j v hj => ?_⟩
    have hjl : j < cs.length := (List.getElem?_eq_some_iff.1 hj).1
    rw [sets_at cs _ _ j hjl (by omega)]; exact hj
  · rw [List.getElem?_set_ne he] at hy
    obtain ⟨cs', e1, e2⟩ := h m y hy
    refine ⟨cs', E.more (E.keep e1 K) (fun b hb => .inl (List.mem_cons_of_mem _ hb)), fun j v hj => ?_⟩
    have hjl : j < cs'.length := (List.getElem?_eq_some_iff.1 hj).1
    rw [E.len e1] at hjl
    rw [sets_off cs _ _ _ ?_]
    · exact e2 j v hj
    · rcases Nat.lt_or_gt_of_ne he with hlt | hlt
      · right
        have : (i + 1) * E.k ≤ m * E.k := Nat.mul_le_mul_right _ hlt
        rw [Nat.add_mul] at this
        omega
      · left
        have : (m + 1) * E.k ≤ i * E.k := Nat.mul_le_mul_right _ hlt
        rw [Nat.add_mul] at this
        omega
/-- a cell: word and version -/
def cellT : Cod (Int × Int) := isoC (pairC u64C (pairC u64C unitC)) (fun p => (p.1, p.2, ()))
theorem cellT_of {w : World} {S : List Nat} {cs : List Value} {p : Int × Int} (h : cellT.rep w S cs p) : cs = [.int .u64 p.1, .int .u64 p.2] ∧ (U64 p.1 ∧ U64 p.2) := by
  obtain ⟨_, _, rfl, ⟨rfl, h0⟩, _, _, rfl, ⟨rfl, h1⟩, rfl⟩ := h
  exact ⟨rfl, U64.of h0, U64.of h1⟩
theorem cellT_mk {w : World} {S : List Nat} {p : Int × Int} (h0 : U64 p.1) (h1 : U64 p.2) : cellT.rep w S [.int .u64 p.1, .int .u64 p.2] p :=
  ⟨[_], _, rfl, ⟨rfl, wf_u64 h0⟩, [_], [], rfl, ⟨rfl, wf_u64 h1⟩, rfl⟩
/-- where the rows of a document's memory lie -/
structure DH where
  h1 : Hd
  h2 : Hd
  h3 : Hd
abbrev dmX (M : MemV) (d : DH) : Array Value := #[.int .i64 M.A, .int .i64 M.T, .slice d.h1.a M.L.length d.h1.c, .slice d.h2.a M.B.length d.h2.c, .slice d.h3.a M.R.length d.h3.c]
structure DMem (w : World) (S : List Nat) (d : DH) (M : MemV) : Prop where
  cells : RowRep cellT w S d.h1.a M.L
  blocks : RowRep blockT w S d.h2.a M.B
  recs : RowRep opT w S d.h3.a M.R
  len : M.L.length = 2 * M.A + 5 * M.T + 1
  lb : M.B.length = M.A
  lr : M.R.length = M.T
  a1 : 1 ≤ M.A ∧ M.A ≤ 8192
  t1 : 1 ≤ M.T ∧ M.T ≤ 16
theorem DMem.keep {w w' : World} {S : List Nat} {d : DH} {M : MemV} (h : DMem w S d M) (k : Keeps S w w') : DMem w' S d M := ⟨h.cells.keep k, h.blocks.keep k, h.recs.keep k, h.len, h.lb, h.lr, h.a1, h.t1⟩
theorem DMem.below {w w' : World} {S : List Nat} {d : DH} {M : MemV} (h : DMem w S d M) (hb : Below w.heap.size w w') : DMem w' S d M := h.keep (Keeps.of_below hb)
theorem DMem.more {w : World} {S S' : List Nat} {d : DH} {M : MemV} (h : DMem w S d M) (k : ∀ b ∈ S', b ∈ S ∨ w.heap.size ≤ b) : DMem w S' d M := ⟨h.cells.more k, h.blocks.more k, h.recs.more k, h.len, h.lb, h.lr, h.a1, h.t1⟩
/-- a cell of it -/
theorem DMem.cell {w : World} {S : List Nat} {d : DH} {M : MemV} (h : DMem w S d M) (i : Nat) (hi : i < M.L.length) : ∃ b off, d.h1.a = some ⟨b, off, none⟩ ∧ b < w.heap.size ∧ b ∉ S ∧ w.cell? ⟨b, off + i * 2, none⟩ = some (.int .u64 (at2 M.L i).1) ∧ w.cell? ⟨b, off + i * 2 + 1, none⟩ = some (.int .u64 (at2 M.L i).2) ∧ U64 (at2 M.L i).1 ∧ U64 (at2 M.L i).2 := by
  obtain ⟨b, off, ha, hb, hS, hc⟩ := h.cells (by omega)
  obtain ⟨cs, h1, h2⟩ := hc i M.L[i] (List.getElem?_eq_getElem hi)
  obtain ⟨rfl, h3, h4⟩ := cellT_of h1
  have e : at2 M.L i = M.L[i] := by simp [at2, List.getElem?_eq_getElem hi]
  rw [e]
  exact ⟨b, off, ha, hb, hS, h2 0 _ rfl, h2 1 _ rfl, h3, h4⟩
theorem DMem.rng {w : World} {S : List Nat} {d : DH} {M : MemV} (h : DMem w S d M) : Rng M.L := by
  intro p hp
  obtain ⟨i, hi, rfl⟩ := List.getElem_of_mem hp
  obtain ⟨b, off, _, _, _, _, _, h1, h2⟩ := h.cell i hi
  have e : at2 M.L i = M.L[i] := by simp [at2, List.getElem?_eq_getElem hi]
  rw [e] at h1 h2
  exact ⟨h1, h2⟩
theorem DMem.pairs {w : World} {S : List Nat} {d : DH} {M : MemV} (h : DMem w S d M) : PairsS w d.h1.a M.L := by
  refine ⟨⟨fun h0 => ?_⟩, h.rng, by have := h.len; have := h.a1; have := h.t1; omega⟩
  obtain ⟨b, off, ha, hb, _⟩ := h.cell 0 (by omega)
  refine ⟨b, off, ha, hb, fun m hm => ?_⟩
  obtain ⟨b', off', ha', _, _, e0, e1, _⟩ := h.cell (m / 2) (by omega)
  rw [ha] at ha'
  cases ha'
  unfold pairF
  by_cases hp : m % 2 = 0
  · rw [if_pos hp, show off + m = off + m / 2 * 2 by omega, e0]
  · rw [if_neg hp, show off + m = off + m / 2 * 2 + 1 by omega, e1]
theorem pairs_row {w : World} {S : List Nat} {a : Option Addr} {l : List (Int × Int)} (h : PairsS w a l) (hS : ∀ b off, a = some ⟨b, off, none⟩ → b ∉ S) : RowRep cellT w S a l := by
  intro h0
  obtain ⟨b, off, ha, hb, _⟩ := h.cell 0 h0
  refine ⟨b, off, ha, hb, hS b off ha, fun i p hp => ?_⟩
  have hi : i < l.length := (List.getElem?_eq_some_iff.1 hp).1
  obtain ⟨b', off', ha', _, e0, e1⟩ := h.cell i hi
  rw [ha] at ha'
  cases ha'
  have hr := h.rng.at i
  have e : at2 l i = p := by simp [at2, hp]
  rw [e] at e0 e1 hr
  refine ⟨_, cellT_mk hr.1 hr.2, fun j v hj => ?_⟩
  have hj2 : j < 2 := (List.getElem?_eq_some_iff.1 hj).1
  obtain rfl | rfl : j = 0 ∨ j = 1 := by omega
  · cases hj; exact e0
  · cases hj; exact e1
end Go.Proofs.Ytpempcefgfmniaa.MemP

/-
  ref.State, the document's Open and State: contracts, each for every word.
-/
namespace Go.Proofs.Ytpempcefgfmniaa.RefP
open Go.RowKit
set_option linter.unusedVariables false

set_option maxHeartbeats 800000 in
theorem dopen_any (x : Int) (w : World) (h2 : 0 ≤ x) (h3 : x ≤ 18446744073709551615) :
    Calls Try.prog 62 #[.int .u64 x] w fun e w' => e = .returned (.tuple #[.int .i64 (openP x), .int .u64 (openG x), .bool (opensB x)]) ∧ w = w' := by
  cases ho : opensB x
  · have hn := opensB_no ho
    have hv : Hid (Ending.returned (.tuple #[.int .i64 (openP x), .int .u64 (openG x), .bool false]) = .returned (.tuple #[.int .i64 0, .int .u64 0, .bool false])) := ret_3 (openP_no ho) (openG_no ho) rfl
    clear ho
    rcases (show x % 16384 < 1 ∨ (¬ x % 16384 < 1 ∧ 8192 < x % 16384) ∨ (¬ x % 16384 < 1 ∧ ¬ 8192 < x % 16384 ∧ x / 16384 < 1) ∨ (¬ x % 16384 < 1 ∧ ¬ 8192 < x % 16384 ∧ ¬ x / 16384 < 1 ∧ 4294967295 < x / 16384) by omega) with h | ⟨h, k⟩ | ⟨h, k, l⟩ | ⟨h, k, l, m⟩
    all_goals
      clear hn
      go_enter Try.func62, Try.ntmps62
      go_wp2
      go_ret3
      exact ⟨hv.out.symm, rfl⟩
  · have hn := opensB_yes ho
    have hv : Hid (Ending.returned (.tuple #[.int .i64 (openP x), .int .u64 (openG x), .bool true]) = .returned (.tuple #[.int .i64 (x % 16384 - 1), .int .u64 (x / 16384), .bool true])) := ret_3 (openP_yes ho) (openG_yes ho) rfl
    clear ho
    obtain ⟨a, b, c, d⟩ := hn
    go_enter Try.func62, Try.ntmps62
    go_wp2
    go_ret3
    exact ⟨hv.out.symm, rfl⟩

end Go.Proofs.Ytpempcefgfmniaa.RefP

/-
  The example of chapter 26 is true.
-/
namespace Go.Proofs.Ytpempcefgfmniaa.MemP
open Go.RowKit RefP CellP
set_option linter.unusedVariables false
set_option linter.unusedSimpArgs false
/-- a reply is kept in a variable of its own -/
theorem rep_ok (a : Bool) (b c : Int) (W : World) : (Instr.field 50 (.agg #[.bool a, .int .u64 b, .int .u64 c, .int .i64 0, .int .i64 0, .string ⟨#[]⟩, .string ⟨#[]⟩, .bool false, .int .i64 0, .slice none 0 0, .slice none 0 0, .slice none 0 0, .int .i64 0, .int .i64 0, .string ⟨#[]⟩, .int .u64 0, .slice none 0 0, .slice none 0 0, .slice none 0 0, .slice none 0 0, .int .i64 0, .string ⟨#[]⟩, .string ⟨#[]⟩, .int .u64 0, .int .i64 0]) 0).run Try.prog W = .ok (.bool a) W := by kernel_rfl
theorem rep_word (a : Bool) (b c : Int) (W : World) : (Instr.field 50 (.agg #[.bool a, .int .u64 b, .int .u64 c, .int .i64 0, .int .i64 0, .string ⟨#[]⟩, .string ⟨#[]⟩, .bool false, .int .i64 0, .slice none 0 0, .slice none 0 0, .slice none 0 0, .int .i64 0, .int .i64 0, .string ⟨#[]⟩, .int .u64 0, .slice none 0 0, .slice none 0 0, .slice none 0 0, .slice none 0 0, .int .i64 0, .string ⟨#[]⟩, .string ⟨#[]⟩, .int .u64 0, .int .i64 0]) 1).run Try.prog W = .ok (.int .u64 b) W := by kernel_rfl
theorem rep_ver (a : Bool) (b c : Int) (W : World) : (Instr.field 50 (.agg #[.bool a, .int .u64 b, .int .u64 c, .int .i64 0, .int .i64 0, .string ⟨#[]⟩, .string ⟨#[]⟩, .bool false, .int .i64 0, .slice none 0 0, .slice none 0 0, .slice none 0 0, .int .i64 0, .int .i64 0, .string ⟨#[]⟩, .int .u64 0, .slice none 0 0, .slice none 0 0, .slice none 0 0, .slice none 0 0, .int .i64 0, .string ⟨#[]⟩, .string ⟨#[]⟩, .int .u64 0, .int .i64 0]) 2).run Try.prog W = .ok (.int .u64 c) W := by kernel_rfl
theorem ex1 : casB (freshL 4 2 0) 18 0 = true := by decide +kernel
theorem ex2 : casB (casL (freshL 4 2 0) 18 0 5) 18 0 = false := by decide +kernel
theorem ex3 : loadW (casL (freshL 4 2 0) 18 0 5) 18 = 5 := by decide +kernel
theorem ex4 : (casL (freshL 4 2 0) 18 0 5).length = 19 := by decide +kernel
theorem ex5 : gateI 4 2 = 18 := by decide
set_option maxRecDepth 100000 in
set_option maxHeartbeats 3200000 in
theorem lives_any (w : World) : Calls Try.prog 11 #[] w fun e w' => e = .returned (.bool true) ∧ Below w.heap.size w w' := by
  have hfw := rep_word
  go_enter Try.func11, Try.ntmps11
  go_wp2_with fail
  refine (mnew_yes 4 2 0 _ (by omega) (by omega) (by omega) (by omega) (by omega) (by omega)).mono ?_
  rintro e w1 ⟨o, oc, g, gb, gr, rfl, hM, hb1, ho, hoc, hg, hgb, hgr⟩
  go_wp2_with fail
  refine (gate_any _ hM).mono ?_
  rw [ex5]
  rintro e w2 ⟨rfl, hb2⟩
  have hM2 := hM.below hb2
  have hB2 := below_push2 hb1 hb2 (Nat.le_refl _)
  clear hM hb1 hb2
  go_wp2_with fail
  refine (do_cas 18 0 5 _ _ _ _ _ _ _ _ _ _ _ _ _ _ _ _ _ _ _ _ _ _ _ hM2 (by omega) (by omega) (by omega) (by omega)).mono ?_
  rw [ex1]
  rintro e w3 ⟨rfl, hM3, hF3⟩
  have hB3 := hF3.below hB2 (Nat.le_refl _) (by simp; omega)
  have hM4 := hM3.below ((Below.refl _ w3).alloc (Nat.le_refl _) (.cells #[.bool true, .int .u64 0, .int .u64 0, .int .i64 0, .int .i64 0, .string ⟨#[]⟩, .string ⟨#[]⟩, .bool false, .int .i64 0, .slice none 0 0, .slice none 0 0, .slice none 0 0, .int .i64 0, .int .i64 0, .string ⟨#[]⟩, .int .u64 0, .slice none 0 0, .slice none 0 0, .slice none 0 0, .slice none 0 0, .int .i64 0, .string ⟨#[]⟩, .string ⟨#[]⟩, .int .u64 0, .int .i64 0] 50))
  have hB4 := below_alloc2 hB3 (Nat.le_refl _) (.cells #[.bool true, .int .u64 0, .int .u64 0, .int .i64 0, .int .i64 0, .string ⟨#[]⟩, .string ⟨#[]⟩, .bool false, .int .i64 0, .slice none 0 0, .slice none 0 0, .slice none 0 0, .int .i64 0, .int .i64 0, .string ⟨#[]⟩, .int .u64 0, .slice none 0 0, .slice none 0 0, .slice none 0 0, .slice none 0 0, .int .i64 0, .string ⟨#[]⟩, .string ⟨#[]⟩, .int .u64 0, .int .i64 0] 50)
  have RA := Blk.new w3 #[.bool true, .int .u64 0, .int .u64 0, .int .i64 0, .int .i64 0, .string ⟨#[]⟩, .string ⟨#[]⟩, .bool false, .int .i64 0, .slice none 0 0, .slice none 0 0, .slice none 0 0, .int .i64 0, .int .i64 0, .string ⟨#[]⟩, .int .u64 0, .slice none 0 0, .slice none 0 0, .slice none 0 0, .slice none 0 0, .int .i64 0, .string ⟨#[]⟩, .string ⟨#[]⟩, .int .u64 0, .int .i64 0] 50
  have hg3 := hM3.cells.rows.lt
  have hgb3 := hM3.blocks.lt
  clear hM2 hB2 hM3 hF3 hB3
  go_wp2_with (refine wpList_store_row rfl 50 _ _ rfl _ _ rfl rfl 50 _ (Blk.new w3 _ _).h (by kernel_rfl) (by rfl) (by kernel_rfl) ?_; rw [World.setRow_alloc_new])
  refine (gate_any _ hM4).mono ?_
  rw [ex5]
  rintro e w5 ⟨rfl, hb5⟩
  have hM5 := hM4.below hb5
  have hB5 := below_push2 hB4 hb5 (Nat.le_refl _)
  have RA5 := RA.below hb5
  clear hM4 hB4 hb5 RA
  go_wp2_with fail
  refine (do_cas 18 0 6 _ _ _ _ _ _ _ _ _ _ _ _ _ _ _ _ _ _ _ _ _ _ _ hM5 (by omega) (by omega) (by omega) (by omega)).mono ?_
  rw [ex2, casL_no 6 ex2, casBs_no _ _ ex2]
  rintro e w6 ⟨rfl, hM6, hF6⟩
  have hB6 := hF6.below hB5 (Nat.le_refl _) (by simp; omega)
  have RA6 := hF6.blk RA5 (by simp; omega)
  have hM7 := hM6.below ((Below.refl _ w6).alloc (Nat.le_refl _) (.cells #[.bool false, .int .u64 0, .int .u64 0, .int .i64 0, .int .i64 0, .string ⟨#[]⟩, .string ⟨#[]⟩, .bool false, .int .i64 0, .slice none 0 0, .slice none 0 0, .slice none 0 0, .int .i64 0, .int .i64 0, .string ⟨#[]⟩, .int .u64 0, .slice none 0 0, .slice none 0 0, .slice none 0 0, .slice none 0 0, .int .i64 0, .string ⟨#[]⟩, .string ⟨#[]⟩, .int .u64 0, .int .i64 0] 50))
  have hB7 := below_alloc2 hB6 (Nat.le_refl _) (.cells #[.bool false, .int .u64 0, .int .u64 0, .int .i64 0, .int .i64 0, .string ⟨#[]⟩, .string ⟨#[]⟩, .bool false, .int .i64 0, .slice none 0 0, .slice none 0 0, .slice none 0 0, .int .i64 0, .int .i64 0, .string ⟨#[]⟩, .int .u64 0, .slice none 0 0, .slice none 0 0, .slice none 0 0, .slice none 0 0, .int .i64 0, .string ⟨#[]⟩, .string ⟨#[]⟩, .int .u64 0, .int .i64 0] 50)
  have RA7 := RA6.alloc (.cells #[.bool false, .int .u64 0, .int .u64 0, .int .i64 0, .int .i64 0, .string ⟨#[]⟩, .string ⟨#[]⟩, .bool false, .int .i64 0, .slice none 0 0, .slice none 0 0, .slice none 0 0, .int .i64 0, .int .i64 0, .string ⟨#[]⟩, .int .u64 0, .slice none 0 0, .slice none 0 0, .slice none 0 0, .slice none 0 0, .int .i64 0, .string ⟨#[]⟩, .string ⟨#[]⟩, .int .u64 0, .int .i64 0] 50)
  have RB7 := Blk.new w6 #[.bool false, .int .u64 0, .int .u64 0, .int .i64 0, .int .i64 0, .string ⟨#[]⟩, .string ⟨#[]⟩, .bool false, .int .i64 0, .slice none 0 0, .slice none 0 0, .slice none 0 0, .int .i64 0, .int .i64 0, .string ⟨#[]⟩, .int .u64 0, .slice none 0 0, .slice none 0 0, .slice none 0 0, .slice none 0 0, .int .i64 0, .string ⟨#[]⟩, .string ⟨#[]⟩, .int .u64 0, .int .i64 0] 50
  clear hM5 hB5 hM6 hF6 hB6 RA5 RA6
  go_wp2_with (refine wpList_store_row rfl 50 _ _ rfl _ _ rfl rfl 50 _ (Blk.new w6 _ _).h (by kernel_rfl) (by rfl) (by kernel_rfl) ?_; rw [World.setRow_alloc_new])
  refine (mlen_any _ hM7).mono ?_
  rw [ex4]
  rintro e w8 ⟨rfl, rfl⟩
  go_wp2_with fail
  refine (gate_any _ hM7).mono ?_
  rw [ex5]
  rintro e w8 ⟨rfl, hb8⟩
  have hM8 := hM7.below hb8
  have hB8 := below_push2 hB7 hb8 (Nat.le_refl _)
  have r0 := (RA7.below hb8).at 0 rfl
  have s0 := (RB7.below hb8).at 0 rfl
  clear hM7 hB7 hb8 RA7 RB7
  go_wp2_with fail
  refine (do_load 18 0 0 _ _ _ _ _ _ _ _ _ _ _ _ _ _ _ _ _ _ _ _ _ _ _ hM8).mono ?_
  rw [ex3]
  rintro e w9 ⟨rfl, hb9⟩
  go_wp2_with fail
  go_ret
  exact ⟨rfl, below_push2 hB8 hb9 (Nat.le_refl _)⟩
end Go.Proofs.Ytpempcefgfmniaa.MemP

/-
  bowerref26: Place, Named, set: contracts.
-/
namespace Go.Proofs.Ytpempcefgfmniaa.MemP
open Go.RowKit RefP CellP Dp
set_option linter.unusedVariables false
set_option linter.unusedSimpArgs false
set_option maxRecDepth 100000 in
set_option maxHeartbeats 1600000 in
theorem dpl_0 (M : MemV) (d : DH) (i k : Int) (w : World) (hA : M.A ≤ 8192) (hT : M.T ≤ 16) :
    Calls Try.prog 61 #[.agg (dmX M d), .int .i64 0, .int .i64 i, .int .i64 k] w fun e w' => e = .returned (.int .i64 (atI M.A M.T 0 i)) ∧ Below w.heap.size w w' := by
  have hb0 : Below w.heap.size w (w.alloc (.cells (dmX M d) 69)) := by (repeat (first | exact Below.refl _ _ | assumption | refine below_alloc2 ?_ (by first | exact Nat.le_refl _ | omega) _ | refine Below.drew ?_ | refine below_drewN ?_ _ | refine below_push2 ?_ ‹_› (by first | exact Nat.le_refl _ | omega) | refine Below.setCell ?_ (by first | (simp; done) | (simp; omega) | omega) _))
  by_cases h0 : i < 0
  · have hR : Hid (atI M.A M.T 0 i = -1) := atI_no (by omega)
    have q1 := h0
    go_enter Try.func61, Try.ntmps61
    go_wp2_with fail
    go_ret
    exact ⟨ret_int hR.out.symm, hb0⟩
  by_cases h1 : i < (M.A : Int)
  · have hR : Hid (atI M.A M.T 0 i = i) := by
      show atI M.A M.T 0 i = _
      rw [atI_yes (by omega) (by simp [sizeI]; omega)]; simp [fromI]; try omega
    have h0' : 0 ≤ i := by omega
    go_enter Try.func61, Try.ntmps61
    go_wp2_with fail
    go_ret
    exact ⟨ret_int hR.out.symm, hb0⟩
  · have hR : Hid (atI M.A M.T 0 i = -1) := atI_no (by simp [sizeI]; omega)
    have q1 : (M.A : Int) ≤ i := by omega
    go_enter Try.func61, Try.ntmps61
    go_wp2_with fail
    go_ret
    exact ⟨ret_int hR.out.symm, hb0⟩
set_option maxRecDepth 100000 in
set_option maxHeartbeats 1600000 in
theorem dpl_1 (M : MemV) (d : DH) (i k : Int) (w : World) (hA : M.A ≤ 8192) (hT : M.T ≤ 16) :
    Calls Try.prog 61 #[.agg (dmX M d), .int .i64 1, .int .i64 i, .int .i64 k] w fun e w' => e = .returned (.int .i64 (atI M.A M.T 1 i)) ∧ Below w.heap.size w w' := by
  have hb0 : Below w.heap.size w (w.alloc (.cells (dmX M d) 69)) := by (repeat (first | exact Below.refl _ _ | assumption | refine below_alloc2 ?_ (by first | exact Nat.le_refl _ | omega) _ | refine Below.drew ?_ | refine below_drewN ?_ _ | refine below_push2 ?_ ‹_› (by first | exact Nat.le_refl _ | omega) | refine Below.setCell ?_ (by first | (simp; done) | (simp; omega) | omega) _))
  by_cases h0 : i < 0
  · have hR : Hid (atI M.A M.T 1 i = -1) := atI_no (by omega)
    have q1 := h0
    go_enter Try.func61, Try.ntmps61
    go_wp2_with fail
    go_ret
    exact ⟨ret_int hR.out.symm, hb0⟩
  by_cases h1 : i < (M.A : Int)
  · have hR : Hid (atI M.A M.T 1 i = (M.A : Int) + i) := by
      show atI M.A M.T 1 i = _
      rw [atI_yes (by omega) (by simp [sizeI]; omega)]; simp [fromI]; try omega
    have h0' : 0 ≤ i := by omega
    go_enter Try.func61, Try.ntmps61
    go_wp2_with fail
    go_ret
    exact ⟨ret_int hR.out.symm, hb0⟩
  · have hR : Hid (atI M.A M.T 1 i = -1) := atI_no (by simp [sizeI]; omega)
    have q1 : (M.A : Int) ≤ i := by omega
    go_enter Try.func61, Try.ntmps61
    go_wp2_with fail
    go_ret
    exact ⟨ret_int hR.out.symm, hb0⟩
set_option maxRecDepth 100000 in
set_option maxHeartbeats 1600000 in
theorem dpl_2 (M : MemV) (d : DH) (i k : Int) (w : World) (hA : M.A ≤ 8192) (hT : M.T ≤ 16) :
    Calls Try.prog 61 #[.agg (dmX M d), .int .i64 2, .int .i64 i, .int .i64 k] w fun e w' => e = .returned (.int .i64 (atI M.A M.T 2 i)) ∧ Below w.heap.size w w' := by
  have hb0 : Below w.heap.size w (w.alloc (.cells (dmX M d) 69)) := by (repeat (first | exact Below.refl _ _ | assumption | refine below_alloc2 ?_ (by first | exact Nat.le_refl _ | omega) _ | refine Below.drew ?_ | refine below_drewN ?_ _ | refine below_push2 ?_ ‹_› (by first | exact Nat.le_refl _ | omega) | refine Below.setCell ?_ (by first | (simp; done) | (simp; omega) | omega) _))
  by_cases h0 : i < 0
  · have hR : Hid (atI M.A M.T 2 i = -1) := atI_no (by omega)
    have q1 := h0
    go_enter Try.func61, Try.ntmps61
    go_wp2_with fail
    go_ret
    exact ⟨ret_int hR.out.symm, hb0⟩
  by_cases h1 : i < (M.T : Int)
  · have hR : Hid (atI M.A M.T 2 i = 2 * (M.A : Int) + i) := by
      show atI M.A M.T 2 i = _
      rw [atI_yes (by omega) (by simp [sizeI]; omega)]; simp [fromI]; try omega
    have h0' : 0 ≤ i := by omega
    go_enter Try.func61, Try.ntmps61
    go_wp2_with fail
    go_ret
    exact ⟨ret_int hR.out.symm, hb0⟩
  · have hR : Hid (atI M.A M.T 2 i = -1) := atI_no (by simp [sizeI]; omega)
    have q1 : (M.T : Int) ≤ i := by omega
    go_enter Try.func61, Try.ntmps61
    go_wp2_with fail
    go_ret
    exact ⟨ret_int hR.out.symm, hb0⟩
set_option maxRecDepth 100000 in
set_option maxHeartbeats 1600000 in
theorem dpl_3 (M : MemV) (d : DH) (i k : Int) (w : World) (hA : M.A ≤ 8192) (hT : M.T ≤ 16) :
    Calls Try.prog 61 #[.agg (dmX M d), .int .i64 3, .int .i64 i, .int .i64 k] w fun e w' => e = .returned (.int .i64 (atI M.A M.T 3 i)) ∧ Below w.heap.size w w' := by
  have hb0 : Below w.heap.size w (w.alloc (.cells (dmX M d) 69)) := by (repeat (first | exact Below.refl _ _ | assumption | refine below_alloc2 ?_ (by first | exact Nat.le_refl _ | omega) _ | refine Below.drew ?_ | refine below_drewN ?_ _ | refine below_push2 ?_ ‹_› (by first | exact Nat.le_refl _ | omega) | refine Below.setCell ?_ (by first | (simp; done) | (simp; omega) | omega) _))
  by_cases h0 : i < 0
  · have hR : Hid (atI M.A M.T 3 i = -1) := atI_no (by omega)
    have q1 := h0
    go_enter Try.func61, Try.ntmps61
    go_wp2_with fail
    go_ret
    exact ⟨ret_int hR.out.symm, hb0⟩
  by_cases h1 : i < (M.T : Int)
  · have hR : Hid (atI M.A M.T 3 i = 2 * (M.A : Int) + (M.T : Int) + i) := by
      show atI M.A M.T 3 i = _
      rw [atI_yes (by omega) (by simp [sizeI]; omega)]; simp [fromI]; try omega
    have h0' : 0 ≤ i := by omega
    go_enter Try.func61, Try.ntmps61
    go_wp2_with fail
    go_ret
    exact ⟨ret_int hR.out.symm, hb0⟩
  · have hR : Hid (atI M.A M.T 3 i = -1) := atI_no (by simp [sizeI]; omega)
    have q1 : (M.T : Int) ≤ i := by omega
    go_enter Try.func61, Try.ntmps61
    go_wp2_with fail
    go_ret
    exact ⟨ret_int hR.out.symm, hb0⟩
set_option maxRecDepth 100000 in
set_option maxHeartbeats 1600000 in
theorem dpl_4 (M : MemV) (d : DH) (i k : Int) (w : World) (hA : M.A ≤ 8192) (hT : M.T ≤ 16) :
    Calls Try.prog 61 #[.agg (dmX M d), .int .i64 4, .int .i64 i, .int .i64 k] w fun e w' => e = .returned (.int .i64 (atI M.A M.T 4 i)) ∧ Below w.heap.size w w' := by
  have hb0 : Below w.heap.size w (w.alloc (.cells (dmX M d) 69)) := by (repeat (first | exact Below.refl _ _ | assumption | refine below_alloc2 ?_ (by first | exact Nat.le_refl _ | omega) _ | refine Below.drew ?_ | refine below_drewN ?_ _ | refine below_push2 ?_ ‹_› (by first | exact Nat.le_refl _ | omega) | refine Below.setCell ?_ (by first | (simp; done) | (simp; omega) | omega) _))
  by_cases h0 : i < 0
  · have hR : Hid (atI M.A M.T 4 i = -1) := atI_no (by omega)
    have q1 := h0
    go_enter Try.func61, Try.ntmps61
    go_wp2_with fail
    go_ret
    exact ⟨ret_int hR.out.symm, hb0⟩
  by_cases h1 : i < (M.T : Int)
  · have hR : Hid (atI M.A M.T 4 i = 2 * (M.A : Int) + 2 * (M.T : Int) + i) := by
      show atI M.A M.T 4 i = _
      rw [atI_yes (by omega) (by simp [sizeI]; omega)]; simp [fromI]; try omega
    have h0' : 0 ≤ i := by omega
    go_enter Try.func61, Try.ntmps61
    go_wp2_with fail
    go_ret
    exact ⟨ret_int hR.out.symm, hb0⟩
  · have hR : Hid (atI M.A M.T 4 i = -1) := atI_no (by simp [sizeI]; omega)
    have q1 : (M.T : Int) ≤ i := by omega
    go_enter Try.func61, Try.ntmps61
    go_wp2_with fail
    go_ret
    exact ⟨ret_int hR.out.symm, hb0⟩
set_option maxRecDepth 100000 in
set_option maxHeartbeats 1600000 in
theorem dpl_6 (M : MemV) (d : DH) (w : World) (hA : M.A ≤ 8192) (hT : M.T ≤ 16) :
    Calls Try.prog 61 #[.agg (dmX M d), .int .i64 6, .int .i64 0, .int .i64 0] w fun e w' => e = .returned (.int .i64 (atI M.A M.T 6 0)) ∧ Below w.heap.size w w' := by
  have hb0 : Below w.heap.size w (w.alloc (.cells (dmX M d) 69)) := by (repeat (first | exact Below.refl _ _ | assumption | refine below_alloc2 ?_ (by first | exact Nat.le_refl _ | omega) _ | refine Below.drew ?_ | refine below_drewN ?_ _ | refine below_push2 ?_ ‹_› (by first | exact Nat.le_refl _ | omega) | refine Below.setCell ?_ (by first | (simp; done) | (simp; omega) | omega) _))
  have hR : Hid (atI M.A M.T 6 0 = 2 * (M.A : Int) + 5 * (M.T : Int)) := by
    show atI M.A M.T 6 0 = _
    rw [atI_yes (by omega) (by simp [sizeI])]; simp [fromI]
  go_enter Try.func61, Try.ntmps61
  go_wp2_with fail
  go_ret
  exact ⟨ret_int hR.out.symm, hb0⟩
set_option maxRecDepth 100000 in
set_option maxHeartbeats 1600000 in
theorem dpl_5 (M : MemV) (d : DH) (i k : Int) (w : World) (hA : M.A ≤ 8192) (hT : M.T ≤ 16) :
    Calls Try.prog 61 #[.agg (dmX M d), .int .i64 5, .int .i64 i, .int .i64 k] w fun e w' => e = .returned (.int .i64 (hazI M.A M.T i k)) ∧ Below w.heap.size w w' := by
  have hb0 : Below w.heap.size w (w.alloc (.cells (dmX M d) 69)) := by (repeat (first | exact Below.refl _ _ | assumption | refine below_alloc2 ?_ (by first | exact Nat.le_refl _ | omega) _ | refine Below.drew ?_ | refine below_drewN ?_ _ | refine below_push2 ?_ ‹_› (by first | exact Nat.le_refl _ | omega) | refine Below.setCell ?_ (by first | (simp; done) | (simp; omega) | omega) _))
  by_cases h0 : i < 0
  · have hR : Hid (hazI M.A M.T i k = -1) := hazI_no (by omega)
    have q1 := h0
    go_enter Try.func61, Try.ntmps61
    go_wp2_with fail
    go_ret
    exact ⟨ret_int hR.out.symm, hb0⟩
  by_cases h1 : i < (M.T : Int)
  · have h0' : 0 ≤ i := by omega
    by_cases h2 : k < 0
    · have hR : Hid (hazI M.A M.T i k = -1) := hazI_no (by omega)
      have q1 := h2
      go_enter Try.func61, Try.ntmps61
      go_wp2_with fail
      go_ret
      exact ⟨ret_int hR.out.symm, hb0⟩
    by_cases h3 : k < 2
    · have hR : Hid (hazI M.A M.T i k = 2 * (M.A : Int) + 3 * (M.T : Int) + 2 * i + k) := by
        show hazI M.A M.T i k = _
        unfold hazI
        rw [if_pos (by omega)]; omega
      have h2' : 0 ≤ k := by omega
      have h3' : k ≤ 1 := by omega
      go_enter Try.func61, Try.ntmps61
      go_wp2_with fail
      go_ret
      exact ⟨ret_int hR.out.symm, hb0⟩
    · have hR : Hid (hazI M.A M.T i k = -1) := hazI_no (by omega)
      have q1 : 1 < k := by omega
      go_enter Try.func61, Try.ntmps61
      go_wp2_with fail
      go_ret
      exact ⟨ret_int hR.out.symm, hb0⟩
  · have hR : Hid (hazI M.A M.T i k = -1) := hazI_no (by omega)
    have q1 : (M.T : Int) ≤ i := by omega
    go_enter Try.func61, Try.ntmps61
    go_wp2_with fail
    go_ret
    exact ⟨ret_int hR.out.symm, hb0⟩
end Go.Proofs.Ytpempcefgfmniaa.MemP

/-
  bowerref26: Named, set: contracts.
-/
namespace Go.Proofs.Ytpempcefgfmniaa.MemP
open Go.RowKit RefP CellP Dp
set_option linter.unusedVariables false
set_option linter.unusedSimpArgs false
theorem load_at2' {L : List (Int × Int)} {i : Nat} (h : i < L.length) : loadW L (i : Int) = (at2 L i).1 ∧ loadV L (i : Int) = (at2 L i).2 := by
  have hi : inB L.length (i : Int) = true := inB_mk (by omega) (by omega)
  rw [loadW_yes hi, loadV_yes hi]
  exact ⟨rfl, rfl⟩
/-- the place that a reference names; -1 -/
def nameI (M : MemV) (x : Int) : Int := if nameB M.A M.T M.L x = true then openP x else -1
set_option maxRecDepth 100000 in
set_option maxHeartbeats 3200000 in
theorem dnamed_any {S : List Nat} (M : MemV) (d : DH) (x : Int) (w : World) (h : DMem w S d M) (x0 : 0 ≤ x) (x1 : x ≤ 18446744073709551615) :
    Calls Try.prog 32 #[.agg (dmX M d), .int .u64 x] w fun e w' => e = .returned (.int .i64 (nameI M x)) ∧ Below w.heap.size w w' := by
  have hA := h.a1
  have hT := h.t1
  have hlen := h.len
  cases ho : opensB x
  · have hR := Lib.hid (show nameI M x = -1 by simp [nameI, nameB, ho])
    have kU : True → True → True := fun _ _ => trivial
    have hb0 : Below w.heap.size w (w.alloc (.cells (dmX M d) 69)) := by (repeat (first | exact Below.refl _ _ | assumption | refine below_alloc2 ?_ (by first | exact Nat.le_refl _ | omega) _ | refine Below.drew ?_ | refine below_drewN ?_ _ | refine below_push2 ?_ ‹_› (by first | exact Nat.le_refl _ | omega) | refine Below.setCell ?_ (by first | (simp; done) | (simp; omega) | omega) _))
    have BX := Blk.new w (dmX M d) 69
    go_enter Try.func32, Try.ntmps32
    go_wp2_with fail
    generalize w.alloc (.cells (dmX M d) 69) = w1 at hb0 BX ⊢
    refine (dopen_any x _ x0 x1).mono ?_
    rw [ho]
    rintro e w2 ⟨rfl, rfl⟩
    go_upto_region 2 with (fail)
    refine wp_region_quiet_below (by kernel_rfl) (by kernel_rfl) ?_
    iterate 22 (go_big_quiet_step (exact kU _ _))
    refine wpQuiet_nil ?_
    intro w6 hw'
    have hb6 := RefP.below_of_regrown hw'
    clear hw' BX
    go_wp2_with fail
    go_ret
    exact ⟨by rw [hR.out]; rfl, below_push2 hb0 hb6 (Nat.le_refl _)⟩
  · by_cases hl : openP x < (M.A : Int)
    · have p0 := openP_ge x
      have hg := openG_rng ho
      obtain ⟨p, hp⟩ : ∃ p : Nat, openP x = (p : Int) := ⟨(openP x).toNat, by omega⟩
      have hat : atI M.A M.T 1 (openP x) = ((M.A + p : Nat) : Int) := by
        rw [hp, atI_yes (by omega) (by simp [sizeI]; omega)]; simp [fromI]
      have hld := (load_at2' (L := M.L) (i := M.A + p) (by omega)).1
      have hl' : (p : Int) < (M.A : Int) := by omega
      obtain ⟨b, off, ha, hbl, _, e0, e1, u0, u1⟩ := h.cell (M.A + p) (by omega)
      by_cases hw : (at2 M.L (M.A + p)).1 = useI 1 (openG x)
      · have hR := Lib.hid (show nameI M x = (p : Int) by unfold nameI nameB; rw [ho, hat, hld, hw]; simp [hl, hp]; omega)
        have hU : ∀ W, Calls Try.prog 42 #[.int .i64 1, .int .u64 (openG x)] W fun e w' => e = .returned (.int .u64 (at2 M.L (M.A + p)).1) ∧ Below W.heap.size W w' := fun W => by
          rw [hw]
          exact (duse_any 1 (openG x) W (by omega) (by omega) (by omega) (by omega)).mono fun e w' h => ⟨h.1, h.2 ▸ Below.refl _ _⟩
        clear hw hat hld
        have hb0 : Below w.heap.size w (w.alloc (.cells (dmX M d) 69)) := by (repeat (first | exact Below.refl _ _ | assumption | refine below_alloc2 ?_ (by first | exact Nat.le_refl _ | omega) _ | refine Below.drew ?_ | refine below_drewN ?_ _ | refine below_push2 ?_ ‹_› (by first | exact Nat.le_refl _ | omega) | refine Below.setCell ?_ (by first | (simp; done) | (simp; omega) | omega) _))
        have BX := Blk.new w (dmX M d) 69
        go_enter Try.func32, Try.ntmps32
        go_wp2_with fail
        generalize w.alloc (.cells (dmX M d) 69) = w1 at hb0 BX ⊢
        refine (dopen_any x _ x0 x1).mono ?_
        rw [ho]
        rw [hp]
        rintro e w2 ⟨rfl, rfl⟩
        replace e0 := (hb0.cell (p := ⟨b, off + (M.A + p) * 2, none⟩) hbl).trans e0
        generalize (at2 M.L (M.A + p)).1 = wd at *
        have k0 := fun dd os => cell_regrown (BX.at 0 rfl) dd os
        have k2 := fun dd os => cell_regrown (show w1.cell? ⟨w.heap.size, 2, none⟩ = some (.slice (some ⟨b, off, none⟩) M.L.length d.h1.c) from by rw [← ha]; exact BX.at 2 rfl) dd os
        have ke := fun dd os => cell_regrown e0 dd os
        have hw1 : IntKind.i64.wrap ((M.A : Int) + (p : Int)) = (M.A : Int) + (p : Int) := by rw [IntKind.wrap_i64]; omega
        have hw2 : (0 : Int) ≤ (M.A : Int) + (p : Int) := by omega
        have hw3 : (M.A : Int) + (p : Int) < (M.L.length : Int) := by omega
        have hw4 : ((M.A : Int) + (p : Int)).toNat = M.A + p := by omega
        have hge0 : decide (M.A ≤ p) = false := by simp; omega
        clear e0 e1 u0 u1 ha hlen
        go_upto_region 2 with (fail)
        have kU := fun dd os => Calls.regrown_of (hU (Go.Sort.grow (redrawn w1 dd) os))
        clear hU
        refine wp_region_quiet_below (by kernel_rfl) (by kernel_rfl) ?_
        iterate 22 (go_big_quiet_step (exact kU _ _))
        refine wpQuiet_nil ?_
        intro w6 hw'
        have hb6 := RefP.below_of_regrown hw'
        clear hw' k0 k2 ke kU BX
        go_wp2_with fail
        go_ret
        exact ⟨by rw [hR.out]; rfl, below_push2 hb0 hb6 (Nat.le_refl _)⟩
      · have hR := Lib.hid (show nameI M x = -1 by unfold nameI nameB; rw [ho, hat, hld]; simp [hl, hw])
        have hU : ∀ W, Calls Try.prog 42 #[.int .i64 1, .int .u64 (openG x)] W fun e w' => e = .returned (.int .u64 (useI 1 (openG x))) ∧ Below W.heap.size W w' := fun W =>
          (duse_any 1 (openG x) W (by omega) (by omega) (by omega) (by omega)).mono fun e w' h => ⟨h.1, h.2 ▸ Below.refl _ _⟩
        have hne : ((at2 M.L (M.A + p)).1 != useI 1 (openG x)) = true := by simpa using hw
        generalize useI 1 (openG x) = us at hU hne
        clear hw hat hld
        have hb0 : Below w.heap.size w (w.alloc (.cells (dmX M d) 69)) := by (repeat (first | exact Below.refl _ _ | assumption | refine below_alloc2 ?_ (by first | exact Nat.le_refl _ | omega) _ | refine Below.drew ?_ | refine below_drewN ?_ _ | refine below_push2 ?_ ‹_› (by first | exact Nat.le_refl _ | omega) | refine Below.setCell ?_ (by first | (simp; done) | (simp; omega) | omega) _))
        have BX := Blk.new w (dmX M d) 69
        go_enter Try.func32, Try.ntmps32
        go_wp2_with fail
        generalize w.alloc (.cells (dmX M d) 69) = w1 at hb0 BX ⊢
        refine (dopen_any x _ x0 x1).mono ?_
        rw [ho]
        rw [hp]
        rintro e w2 ⟨rfl, rfl⟩
        replace e0 := (hb0.cell (p := ⟨b, off + (M.A + p) * 2, none⟩) hbl).trans e0
        generalize (at2 M.L (M.A + p)).1 = wd at *
        have k0 := fun dd os => cell_regrown (BX.at 0 rfl) dd os
        have k2 := fun dd os => cell_regrown (show w1.cell? ⟨w.heap.size, 2, none⟩ = some (.slice (some ⟨b, off, none⟩) M.L.length d.h1.c) from by rw [← ha]; exact BX.at 2 rfl) dd os
        have ke := fun dd os => cell_regrown e0 dd os
        have hw1 : IntKind.i64.wrap ((M.A : Int) + (p : Int)) = (M.A : Int) + (p : Int) := by rw [IntKind.wrap_i64]; omega
        have hw2 : (0 : Int) ≤ (M.A : Int) + (p : Int) := by omega
        have hw3 : (M.A : Int) + (p : Int) < (M.L.length : Int) := by omega
        have hw4 : ((M.A : Int) + (p : Int)).toNat = M.A + p := by omega
        have hge0 : decide (M.A ≤ p) = false := by simp; omega
        clear e0 e1 u0 u1 ha hlen
        go_upto_region 2 with (fail)
        have kU := fun dd os => Calls.regrown_of (hU (Go.Sort.grow (redrawn w1 dd) os))
        clear hU
        refine wp_region_quiet_below (by kernel_rfl) (by kernel_rfl) ?_
        iterate 22 (go_big_quiet_step (exact kU _ _))
        refine wpQuiet_nil ?_
        intro w6 hw'
        have hb6 := RefP.below_of_regrown hw'
        clear hw' k0 k2 ke kU BX
        go_wp2_with fail
        go_ret
        exact ⟨by rw [hR.out]; rfl, below_push2 hb0 hb6 (Nat.le_refl _)⟩
    · have hR := Lib.hid (show nameI M x = -1 by simp [nameI, nameB, hl])
      have hge : (M.A : Int) ≤ openP x := by omega
      have kU : True → True → True := fun _ _ => trivial
      have hb0 : Below w.heap.size w (w.alloc (.cells (dmX M d) 69)) := by (repeat (first | exact Below.refl _ _ | assumption | refine below_alloc2 ?_ (by first | exact Nat.le_refl _ | omega) _ | refine Below.drew ?_ | refine below_drewN ?_ _ | refine below_push2 ?_ ‹_› (by first | exact Nat.le_refl _ | omega) | refine Below.setCell ?_ (by first | (simp; done) | (simp; omega) | omega) _))
      have BX := Blk.new w (dmX M d) 69
      go_enter Try.func32, Try.ntmps32
      go_wp2_with fail
      generalize w.alloc (.cells (dmX M d) 69) = w1 at hb0 BX ⊢
      refine (dopen_any x _ x0 x1).mono ?_
      rw [ho]
      rintro e w2 ⟨rfl, rfl⟩
      go_upto_region 2 with (fail)
      have k0 := fun dd os => cell_regrown (BX.at 0 rfl) dd os
      refine wp_region_quiet_below (by kernel_rfl) (by kernel_rfl) ?_
      iterate 22 (go_big_quiet_step (exact kU _ _))
      refine wpQuiet_nil ?_
      intro w6 hw'
      have hb6 := RefP.below_of_regrown hw'
      clear hw' k0 BX
      go_wp2_with fail
      go_ret
      exact ⟨by rw [hR.out]; rfl, below_push2 hb0 hb6 (Nat.le_refl _)⟩
end Go.Proofs.Ytpempcefgfmniaa.MemP

/-
  bowerref26: set: contract.
-/
namespace Go.Proofs.Ytpempcefgfmniaa.MemP
open Go.RowKit RefP CellP Dp
set_option linter.unusedVariables false
set_option linter.unusedSimpArgs false
theorem blk_rep {w : World} {S : List Nat} {q : BlockH} {b : BlockV} (h : BlockOk w S q b) : blockT.rep w S (blockA q b).toList b := blockT_mk h
theorem copyBlocks {w : World} {S : List Nat} {a : Option Addr} {c : Nat} {xs : List BlockV} (H : RowRep blockT w S a xs) (h0 : 0 < xs.length) (hm : xs.length ≤ 60000) : ∃ g cap w', CopyRow Try.prog blockT 45 35 w S a c xs g cap w' := by
  obtain ⟨i0, hi, hz0, hz1, hz2⟩ := info_parts' infoBlock
  exact copy_row 45 35 i0 _ 272 Try.underlying45 hi hz0 hz1 hz2 (by simp [Value.cells]; rfl) (by decide) H h0 (by unfold maxLen; omega) (by omega)
theorem copyOps {w : World} {S : List Nat} {a : Option Addr} {c : Nat} {xs : List OpV} (H : RowRep opT w S a xs) (h0 : 0 < xs.length) (hm : xs.length ≤ 60000) : ∃ g cap w', CopyRow Try.prog opT 46 37 w S a c xs g cap w' := by
  obtain ⟨i0, hi, hz0, hz1, hz2⟩ := info_parts' infoOp
  exact copy_row 46 37 i0 _ 56 Try.underlying46 hi hz0 hz1 hz2 (by simp [Value.cells]; rfl) (by decide) H h0 (by unfold maxLen; omega) (by omega)
def SetAt (w : World) (S : List Nat) (l : List BlockV) (e : Ending) (w' : World) : Prop := ∃ a' c', e = .returned (.slice a' l.length c') ∧ RowRep blockT w' S a' l ∧ Below w.heap.size w w'
set_option maxRecDepth 100000 in
set_option maxHeartbeats 1600000 in
theorem dset_any {S : List Nat} (a : Option Addr) (c : Nat) (l : List BlockV) (i : Nat) (q : BlockH) (b : BlockV) (w : World) (H : RowRep blockT w S a l) (hl : l.length ≤ 8192) (hi : i < l.length) (hb : BlockOk w S q b) (hS : ∀ b ∈ S, b < w.heap.size) :
    Calls Try.prog 60 #[.slice a l.length c, .int .i64 i, .agg (blockA q b)] w (SetAt w S (l.set i b)) := by
  have hb0 : Below w.heap.size w (w.alloc (.cells (blockA q b) 35)) := by (repeat (first | exact Below.refl _ _ | assumption | refine below_alloc2 ?_ (by first | exact Nat.le_refl _ | omega) _ | refine Below.drew ?_ | refine below_drewN ?_ _ | refine below_push2 ?_ ‹_› (by first | exact Nat.le_refl _ | omega) | refine Below.setCell ?_ (by first | (simp; done) | (simp; omega) | omega) _))
  have BX := Blk.new w (blockA q b) 35
  have hi' : (i : Int) < (l.length : Int) := by omega
  go_enter Try.func60, Try.ntmps60
  go_upto_region 1 with (fail)
  generalize w.alloc (.cells (blockA q b) 35) = w1 at hb0 BX ⊢
  have H1 := H.keep (Keeps.of_below hb0)
  have hb1 := hb.keep (Keeps.of_below hb0)
  have hs1 := hb0.size
  have hS1 : ∀ b ∈ S, b < w1.heap.size := fun b hb => Nat.lt_of_lt_of_le (hS b hb) hs1
  obtain ⟨g, cap, w2, A⟩ := copyBlocks (c := c) H1 (by omega) (by omega)
  have hr := A.run
  have hB2 := below_push2 hb0 A.below (Nat.le_refl _)
  have hg := A.ge
  obtain ⟨cur, BG, hsz, hcur⟩ := A.blk
  have BX2 := BX.below A.below
  have hgS : g ∉ S := fun e => by have := hS1 g e; omega
  have hb2 : BlockOk w2 (g :: S) q b := (hb1.more (fun b hb => by
    rcases List.mem_cons.1 hb with rfl | hb
    · exact .inr hg
    · exact .inl hb)).keep (Keeps.of_below A.below)
  have hR := set_row BG hgS hsz hcur i hi b _ (blk_rep hb2)
  have hB3 := below_sets' (B := w.heap.size) (b := g) (by omega) (blockA q b).toList (i * blockT.k) _ hB2
  have hth := there_blk' (o := i * 17) (n := 17) BG (by
    have h1 : (i + 1) * 17 ≤ l.length * 17 := Nat.mul_le_mul_right _ hi
    have h2 : l.length * 17 ≤ cur.size := hsz
    omega)
  rw [show i * blockT.k = i * 17 from rfl] at hR hB3
  generalize hX : w2.setCells g (i * 17) (blockA q b).toList = w3 at hR hB3
  replace hX := Lib.hid hX
  clear H1 H hb1 hb2 hcur hsz A BG hb hS hS1 hgS
  go_wp2_with (first
    | (at_builtin; refine wpList_append_run hr.out rfl (by rfl) (by rfl) (by rfl) ?_)
    | (refine wpList_load_row rfl 35 _ rfl w.heap.size rfl 35 _ (0, 0) _ BX2.h Try.underlying35 rfl (by kernel_rfl) ?_)
    | (refine wpList_store_mid rfl 35 _ _ rfl g (i * 17) (blockA q b) rfl rfl hth (by kernel_rfl) (by kernel_rfl) ?_; rw [hX.out]))
  go_ret
  exact ⟨some ⟨g, 0, none⟩, cap, by simp, hR, hB3⟩
end Go.Proofs.Ytpempcefgfmniaa.MemP

/-
  Light of a row of accesses (chapter 26's law): contract.
-/
namespace Go.Proofs.Ytpempcefgfmniaa.Dp
open Go.RowKit RefP
set_option linter.unusedVariables false
set_option linter.unusedSimpArgs false
/-- an access's cells, written out -/
abbrev acc26 (q : BlockH) (x : AccV) : List Value := [.int .i64 x.kind, .int .i64 x.at_, .int .u64 x.ver, .int .u64 x.word, .int .i64 x.block.kind, .int .i64 x.block.node.level, .string x.block.node.low, .string x.block.node.high, .bool x.block.node.last, .int .i64 x.block.node.next, .slice q.node.keys.a x.block.node.keys.length q.node.keys.c, .slice q.node.vals.a x.block.node.vals.length q.node.vals.c, .slice q.node.kids.a x.block.node.kids.length q.node.kids.c, .int .i64 x.block.plan.thread, .int .i64 x.block.plan.ans.code, .string x.block.plan.ans.key, .int .u64 x.block.plan.ans.val, .slice q.plan.pairs.a x.block.plan.ans.pairs.length q.plan.pairs.c, .slice q.plan.steps.a x.block.plan.steps.length q.plan.steps.c, .slice q.plan.extra.a x.block.plan.extra.length q.plan.extra.c, .slice q.pairs.a x.block.pairs.length q.pairs.c, .int .i64 x.op.kind, .string x.op.key, .string x.op.upto, .int .u64 x.op.val, .int .i64 x.op.limit]
theorem accL_eq (q : BlockH) (x : AccV) : accL q x = acc26 q x := rfl
/-- how many pairs, as the machine's number -/
def sumW (x : AccV) : Int := IntKind.i64.wrap ((x.block.pairs.length : Int) + (x.block.plan.ans.pairs.length : Int))
def lightA (x : AccV) : Bool := lightN x.block.node && (decide (x.block.plan.steps.length ≤ 60) && (decide (x.block.plan.extra.length ≤ 60) && decide (sumW x ≤ 60)))
def lightL (xs : List AccV) : Bool := xs.all lightA && decide (xs.length ≤ 60)
theorem lightL_no {xs : List AccV} {k : Nat} (hk : k < xs.length) (h : lightA xs[k] = false) : lightL xs = false := by
  have : xs.all lightA = false := by
    rw [Bool.eq_false_iff]
    intro e
    rw [List.all_eq_true] at e
    have := e _ (List.getElem_mem hk)
    rw [h] at this; cases this
  simp [lightL, this]
/-- an access of a row -/
theorem acc_cell {w : World} {S : List Nat} {a : Option Addr} {xs : List AccV} (H : RowRep accT w S a xs) (k : Nat) (hk : k < xs.length) : ∃ b off q, a = some ⟨b, off, none⟩ ∧ b < w.heap.size ∧ w.rangeAt b (off + k * 26) (acc26 q xs[k]) ∧ AccOk w S q xs[k] := by
  obtain ⟨b, off, e, hb, _, hc⟩ := H (by omega)
  obtain ⟨cs, hr, hv⟩ := hc k xs[k] (List.getElem?_eq_getElem hk)
  obtain ⟨q, rfl, hok⟩ := accT_of hr
  exact ⟨b, off, q, e, hb, hv, hok⟩
theorem range_blk {w : World} {b : Nat} {cs : Array Value} {T : TypeId} (B : Blk w b cs T) (o : Nat) (l : List Value) (h : ∀ j v, l[j]? = some v → cs[o + j]? = some v) : w.rangeAt b o l := fun j v hv => B.at _ (h j v hv)
theorem lt8 {r : Nat} (h : r < 8) : r = 0 ∨ r = 1 ∨ r = 2 ∨ r = 3 ∨ r = 4 ∨ r = 5 ∨ r = 6 ∨ r = 7 := by omega
theorem acc_node {w : World} {b : Nat} {q : BlockH} {x : AccV} {T : TypeId} (B : Blk w b (acc26 q x).toArray T) : w.rangeAt b 5 (nodeL q.node x.block.node) :=
  range_blk B 5 _ (fun j v hv => by
    have hj : j < 8 := (List.getElem?_eq_some_iff.1 hv).1
    rcases lt8 hj with e | e | e | e | e | e | e | e <;> subst e <;> exact hv)
set_option maxRecDepth 100000 in
set_option maxHeartbeats 3200000 in
theorem light_any (S : List Nat) (a : Option Addr) (c : Nat) (xs : List AccV) (w : World) (H : RowRep accT w S a xs) (hm : xs.length ≤ 9223372036854775807) : Calls Try.prog 10 #[.slice a xs.length c] w fun e w' => e = .returned (.bool (lightL xs)) ∧ Below w.heap.size w w' := by
  have hmx : (maxLen : Nat) = 9223372036854775807 := by unfold maxLen; rfl
  go_enter Try.func10, Try.ntmps10
  go_wp2_with fail
  go_loopw [7] (fun i wr => ∃ k : Nat, k ≤ xs.length ∧ i = .int .i64 k ∧ Below w.heap.size w wr ∧ (xs.take k).all lightA = true) (fun i _ => xs.length - (intOf i).toNat)
  case atStart => exact ⟨0, Nat.zero_le _, rfl, Below.refl _ _, by simp⟩
  case round =>
    obtain ⟨k, hk, rfl, hb, hall⟩ := hrel
    by_cases hlt : k < xs.length
    · have hlt' : (k : Int) < (xs.length : Int) := by omega
      obtain ⟨b, off, q, rfl, hbl, hcs, hok⟩ := acc_cell (H.keep (Keeps.of_below hb)) k hlt
      have hall2 : lightA xs[k] = true → (xs.take (k + 1)).all lightA = true := fun e => by
        rw [List.take_succ_eq_append_getElem hlt, List.all_append, hall]; simp [e]
      have hno : lightA xs[k] = false → lightL xs = false := lightL_no hlt
      generalize xs[k] = x at hcs hok hall2 hno
      have hB1 := below_alloc2 hb (Nat.le_refl _) (.cells (acc26 q x).toArray 39)
      have BX := Blk.new wr (acc26 q x).toArray 39
      have hN := acc_node BX
      have hNode := (hok.block.node)
      go_wp2_with (first
        | (refine wpList_load_mid rfl 39 _ rfl b (off + k * 26) rfl (acc26 q x) _ hcs Try.underlying39 rfl (by kernel_rfl) ?_)
        | (refine wpList_store_row rfl 39 _ _ rfl _ _ rfl rfl 39 _ (Blk.new wr _ _).h (by kernel_rfl) (by rfl) (by kernel_rfl) ?_; rw [World.setRow_alloc_new])
        | (refine wpList_load_mid rfl 27 _ rfl wr.heap.size 5 rfl (nodeL q.node x.block.node) _ hN Try.underlying27 rfl (by kernel_rfl) ?_))
      refine (light10_any S q.node x.block.node _ (hNode.keep (Keeps.of_below ((Below.refl _ wr).alloc (Nat.le_refl _) _)))).mono ?_
      rintro e w2 ⟨rfl, hb2⟩
      have BX2 := BX.below hb2
      have b17 : w2.cell? ⟨wr.heap.size, 17, none⟩ = some (.slice q.plan.pairs.a x.block.plan.ans.pairs.length q.plan.pairs.c) := BX2.at 17 rfl
      have b18 : w2.cell? ⟨wr.heap.size, 18, none⟩ = some (.slice q.plan.steps.a x.block.plan.steps.length q.plan.steps.c) := BX2.at 18 rfl
      have b19 : w2.cell? ⟨wr.heap.size, 19, none⟩ = some (.slice q.plan.extra.a x.block.plan.extra.length q.plan.extra.c) := BX2.at 19 rfl
      have b20 : w2.cell? ⟨wr.heap.size, 20, none⟩ = some (.slice q.pairs.a x.block.pairs.length q.pairs.c) := BX2.at 20 rfl
      have hz : IntKind.i64.wrap ((x.block.pairs.length : Int) + (x.block.plan.ans.pairs.length : Int)) = sumW x := rfl
      have hA : lightA x = (lightN x.block.node && (decide (x.block.plan.steps.length ≤ 60) && (decide (x.block.plan.extra.length ≤ 60) && decide (sumW x ≤ 60)))) := rfl
      clear hcs hok hN hNode BX BX2
      by_cases g0 : lightN x.block.node = true
      · rw [g0]
        by_cases g1 : x.block.plan.steps.length ≤ 60
        · have q1 : decide (60 < (x.block.plan.steps.length : Int)) = false := by simp; omega
          by_cases g2 : x.block.plan.extra.length ≤ 60
          · have q2 : decide (60 < (x.block.plan.extra.length : Int)) = false := by simp; omega
            by_cases g3 : sumW x ≤ 60
            · have hx2 := hall2 (by rw [hA, g0]; simp [g1, g2, g3])
              generalize sumW x = z at hz g3
              have q3 : decide (60 < z) = false := by simp; omega
              clear hall2 hno hA g0 g1 g2 g3
              go_wp2_with fail
              go_roundw
              case rel => exact ⟨k + 1, by omega, by go_num, below_push2 hB1 hb2 (Nat.le_refl _), hx2⟩
              case measure => simp [intOf]; omega
            · have hE := Lib.hid (hno (by rw [hA]; simp [g3]))
              generalize sumW x = z at hz g3
              have q3 : decide (60 < z) = true := by simp; omega
              clear hall2 hno hA g0 g1 g2 g3
              go_wp2_with fail
              go_ret
              exact ⟨by rw [hE.out]; rfl, below_push2 hB1 hb2 (Nat.le_refl _)⟩
          · have q2 : decide (60 < (x.block.plan.extra.length : Int)) = true := by simp; omega
            have hE := Lib.hid (hno (by rw [hA]; simp [g2]))
            clear hall2 hno hA g0 g1 g2
            go_wp2_with fail
            go_ret
            exact ⟨by rw [hE.out]; rfl, below_push2 hB1 hb2 (Nat.le_refl _)⟩
        · have q1 : decide (60 < (x.block.plan.steps.length : Int)) = true := by simp; omega
          have hE := Lib.hid (hno (by rw [hA]; simp [g1]))
          clear hall2 hno hA g0 g1
          go_wp2_with fail
          go_ret
          exact ⟨by rw [hE.out]; rfl, below_push2 hB1 hb2 (Nat.le_refl _)⟩
      · have g0' : lightN x.block.node = false := by simpa using g0
        rw [g0']
        have hE := Lib.hid (hno (by rw [hA]; simp [g0']))
        clear hall2 hno hA g0 g0'
        go_wp2_with fail
        go_ret
        exact ⟨by rw [hE.out]; rfl, below_push2 hB1 hb2 (Nat.le_refl _)⟩
    · obtain rfl : k = xs.length := by omega
      rw [List.take_length] at hall
      have hE : Hid (lightL xs = decide (xs.length ≤ 60)) := by simp [Hid, lightL, hall]
      have q1 : decide ((xs.length : Int) ≤ 60) = decide (xs.length ≤ 60) := by simp; omega
      clear hall
      go_wp2_with fail
      go_ret
      exact ⟨by rw [hE.out]; rfl, hb⟩
end Go.Proofs.Ytpempcefgfmniaa.Dp

/-
  Do of any access on a memory that is known in depth: contract.
-/
namespace Go.Proofs.Ytpempcefgfmniaa.MemP
open Go.RowKit RefP CellP Dp
set_option linter.unusedVariables false
set_option linter.unusedSimpArgs false
/-- the own blocks were there, and S holds blocks that are there alone -/
theorem doS {S : List Nat} {m : MemId} (h : ∀ b ∈ m.own, b ∈ S) : ∀ b ∈ [m.g, m.gb, m.gr], b ∈ S := by
  simp only [MemId.own, List.mem_cons, List.not_mem_nil, or_false, forall_eq_or_imp, forall_eq] at h ⊢
  exact ⟨h.2.2.1, h.2.2.2.1, h.2.2.2.2⟩
theorem fr3 {m : MemId} {S : List Nat} {w w' : World} (F : Fr S w w') (h : ∀ b ∈ S, b = m.g ∨ b = m.gb ∨ b = m.gr) : Fr [m.g, m.gb, m.gr] w w' := F.more (fun b hb => by simpa using h b hb)
theorem did_same {w w' : World} {S : List Nat} {m : MemId} {M : MemV} {a : AccV} {q : BlockH} {e : Ending} (h : MemIs w S m M) (hM : doV M a = M) (hq : RepOk w' (List.range w.heap.size) q (repV M a)) (he : e = .returned (.agg (repA q (repV M a)))) (hb : Below w.heap.size w w') (hn : a.kind ≠ 4 → q = nilH) : Did w S m M a e w' :=
  ⟨⟨q, he, hq, hn⟩, by rw [hM]; exact h.below hb, Fr.of_below hb⟩
theorem z64 : (0 : Int) ≤ 0 ∧ (0 : Int) ≤ 18446744073709551615 := by decide
theorem opL_getD (R : List OpV) (k : Nat) (hk : k < R.length) : (R.map opL).getD k [] = opL (R.getD k opZ) := by
  simp [List.getD_eq_getElem?_getD, hk]
theorem op_of {R : List OpV} (h : ∀ x ∈ R, OpOk x) (k : Nat) : OpOk (R.getD k opZ) := by
  rw [List.getD_eq_getElem?_getD]
  by_cases hk : k < R.length
  · rw [List.getElem?_eq_getElem hk]; exact h _ (List.getElem_mem hk)
  · rw [List.getElem?_eq_none (by omega)]; exact opZ_ok
theorem map_set {R : List OpV} (k : Nat) (x : OpV) : (R.map opL).set k (opL x) = (R.set k x).map opL := by
  rw [List.map_set]
set_option maxRecDepth 100000 in
set_option maxHeartbeats 3200000 in
theorem do_any {S S0 : List Nat} {m : MemId} {M : MemV} (a : AccV) (q : BlockH) (w : World) (h : MemIs w S m M) (hS : ∀ b ∈ S, b < w.heap.size) (ha : AccOk w S0 q a) (hf : Few a.block) :
    Calls Try.prog 12 #[.pointer (some ⟨m.o, 0, none⟩), .agg (acc26 q a).toArray] w fun e w' => Did w S m M a e w' := by
  have ho := doS h.own
  obtain ⟨⟨bs, h0, hB⟩, hl, hr, hown⟩ := id h
  obtain ⟨hv0, hv1⟩ := ha.ver
  obtain ⟨hx0, hx1⟩ := ha.word
  have hblk := ha.block
  have hop := ha.op
  obtain ⟨kind, i, ver, word, b, x⟩ := a
  simp only at hv0 hv1 hx0 hx1 hblk hf hop
  have hne := h0.ne
  have hlt := h.lt
  simp only [MemId.own, List.mem_cons, List.not_mem_nil, or_false, forall_eq_or_imp, forall_eq] at hlt
  by_cases k1 : kind = 1
  · subst k1
    refine (show Calls _ _ _ _ _ from do_load i ver word _ _ _ _ _ _ _ _ _ _ _ _ _ _ _ _ _ _ _ _ _ _ w h0).mono ?_
    rintro e w' ⟨rfl, hb⟩
    obtain ⟨r1, r2⟩ := loadW_rng h0.cells i
    have hR : repV M ⟨1, i, ver, word, b, x⟩ = ⟨inB M.L.length i, loadW M.L i, loadV M.L i, blockZ, opZ⟩ := by simp [repV]
    refine did_same (q := nilH) h (by simp [doV]) ?_ ?_ hb (fun h => by first | rfl | exact absurd rfl h) <;> rw [hR]
    · exact repZ _ _ _ r1 r2
    · rfl
  by_cases k2 : kind = 2
  · subst k2
    refine (show Calls _ _ _ _ _ from do_store i ver word _ _ _ _ _ _ _ _ _ _ _ _ _ _ _ _ _ _ _ _ _ _ w h0 hx0 hx1).mono ?_
    rintro e w' ⟨rfl, h1, F⟩
    have F3 : Fr [m.g, m.gb, m.gr] w w' := F.more (by simp)
    have hR : repV M ⟨2, i, ver, word, b, x⟩ = ⟨inB M.L.length i, 0, 0, blockZ, opZ⟩ := by simp [repV]
    refine ⟨⟨nilH, by rw [hR]; rfl, by rw [hR]; exact repZ _ _ _ ⟨by decide, by decide⟩ ⟨by decide, by decide⟩, fun _ => rfl⟩, ?_, F3⟩
    unfold doV
    rw [if_pos rfl]
    by_cases hi : inB M.L.length i = true
    · rw [if_pos hi]
      rw [storeB_yes _ _ hi] at h1
      exact ⟨⟨_, h1, clear_isB i (by rw [h0.lb]) hl (own_isB F3 ho hB)⟩, by unfold clearV; split <;> simp [hl], hr, hown⟩
    · rw [if_neg hi]
      have hi' : inB M.L.length i = false := by simpa using hi
      rw [storeB_no _ _ hi', storeL_no _ hi'] at h1
      exact ⟨⟨_, h1, own_isB F3 ho hB⟩, hl, hr, hown⟩
  by_cases k3 : kind = 3
  · subst k3
    refine (show Calls _ _ _ _ _ from do_cas i ver word _ _ _ _ _ _ _ _ _ _ _ _ _ _ _ _ _ _ _ _ _ _ w h0 hv0 hv1 hx0 hx1).mono ?_
    rintro e w' ⟨rfl, h1, F⟩
    have F3 : Fr [m.g, m.gb, m.gr] w w' := F.more (by simp)
    have hR : repV M ⟨3, i, ver, word, b, x⟩ = ⟨casB M.L i ver, 0, 0, blockZ, opZ⟩ := by simp [repV]
    refine ⟨⟨nilH, by rw [hR]; rfl, by rw [hR]; exact repZ _ _ _ ⟨by decide, by decide⟩ ⟨by decide, by decide⟩, fun _ => rfl⟩, ?_, F3⟩
    unfold doV
    rw [if_neg (show ¬ (3 : Int) = 2 by decide), if_pos rfl]
    by_cases hi : casB M.L i ver = true
    · rw [if_pos hi]
      rw [casBs_yes _ _ hi] at h1
      exact ⟨⟨_, h1, clear_isB i (by rw [h0.lb]) hl (own_isB F3 ho hB)⟩, by unfold clearV; split <;> simp [hl], hr, hown⟩
    · rw [if_neg hi]
      have hi' : casB M.L i ver = false := by simpa using hi
      rw [casBs_no _ _ hi', casL_no _ hi'] at h1
      exact ⟨⟨_, h1, own_isB F3 ho hB⟩, hl, hr, hown⟩
  by_cases k4 : kind = 4
  · subst k4
    cases hN : nameB M.A M.T M.L word
    · refine (show Calls _ _ _ _ _ from do_get_no i ver word _ _ _ _ _ _ _ _ _ _ _ _ _ _ _ _ _ _ _ _ _ _ w h0 hx0 hx1 hN).mono ?_
      rintro e w' ⟨rfl, hb⟩
      have hR : repV M ⟨4, i, ver, word, b, x⟩ = ⟨false, 0, 0, blockZ, opZ⟩ := by simp [repV, hN]
      refine did_same (q := nilH) h (by simp [doV]) ?_ ?_ hb (fun h => by first | rfl | exact absurd rfl h) <;> rw [hR]
      · exact repZ _ _ _ ⟨by decide, by decide⟩ ⟨by decide, by decide⟩
      · rfl
    · obtain ⟨k, hk, hp, _⟩ := named_lt hN
      have hR : repV M ⟨4, i, ver, word, b, x⟩ = ⟨true, 0, 0, M.B.getD k blockZ, opZ⟩ := by simp [repV, hN, hp]
      obtain ⟨q1, e1, H1, f1⟩ := hB k hk
      refine (show Calls _ _ _ _ _ from do_get_yes i ver word _ _ _ _ _ _ _ _ _ _ _ _ _ _ _ _ _ _ _ _ _ _ k S q1 (M.B.getD k blockZ) w h0 hx0 hx1 hN hk hp e1 H1 f1).mono ?_
      rintro e w' ⟨⟨q', rfl, H'⟩, hb⟩
      refine did_same (q := q') h (by simp [doV]) ?_ ?_ hb (fun h => by first | rfl | exact absurd rfl h) <;> rw [hR]
      · exact ⟨z64, z64, H', f1, opZ_ok⟩
      · rfl
  by_cases k5 : kind = 5
  · subst k5
    cases hN : nameB M.A M.T M.L word
    · refine (show Calls _ _ _ _ _ from do_put_no i ver word _ _ _ _ _ q b w h0 hx0 hx1 hN).mono ?_
      rintro e w' ⟨rfl, hb⟩
      have hR : repV M ⟨5, i, ver, word, b, x⟩ = ⟨false, 0, 0, blockZ, opZ⟩ := by simp [repV, hN]
      refine did_same (q := nilH) h (by simp [doV, hN]) ?_ ?_ hb (fun h => by first | rfl | exact absurd rfl h) <;> rw [hR]
      · exact repZ _ _ _ ⟨by decide, by decide⟩ ⟨by decide, by decide⟩
      · rfl
    · obtain ⟨k, hk, hp, _⟩ := named_lt hN
      have hR : repV M ⟨5, i, ver, word, b, x⟩ = ⟨true, 0, 0, blockZ, opZ⟩ := by simp [repV, hN]
      refine (show Calls _ _ _ _ _ from do_put_yes i ver word _ _ _ _ _ k S0 q b w h0 hx0 hx1 hN hk hp hblk hf).mono ?_
      rintro e w' ⟨rfl, ⟨q', h1, H'⟩, F⟩
      have F3 : Fr [m.g, m.gb, m.gr] w w' := F.more (by simp)
      refine ⟨⟨nilH, by rw [hR]; rfl, by rw [hR]; exact repZ _ _ _ ⟨by decide, by decide⟩ ⟨by decide, by decide⟩, fun _ => rfl⟩, ?_, F3⟩
      have hD : doV M ⟨5, i, ver, word, b, x⟩ = { M with B := M.B.set k b } := by simp [doV, hN, hp]
      rw [hD]
      exact ⟨⟨_, h1, put_isB k _ b ⟨q', rfl, H'.more (fun c hc => .inl (by simpa using hS c hc)), hf⟩ h0.lb hl (own_isB F3 ho hB)⟩, by simp [hl], hr, hown⟩
  by_cases k6 : kind = 6
  · subst k6
    by_cases hi : 0 ≤ i ∧ i < (M.T : Int)
    · have hR : repV M ⟨6, i, ver, word, b, x⟩ = ⟨true, 0, 0, blockZ, M.R.getD i.toNat opZ⟩ := by simp [repV, hi]
      have hlr := h0.lr
      simp only [List.length_map] at hlr
      refine (show Calls _ _ _ _ _ from do_read_yes i ver word _ _ _ _ _ _ _ _ _ _ _ _ _ _ _ _ _ _ _ _ _ _ i.toNat (M.R.getD i.toNat opZ) w h0 (by omega) (by omega) (opL_getD _ _ (by omega))).mono ?_
      rintro e w' ⟨rfl, hb⟩
      refine did_same (q := nilH) h (by simp [doV]) ?_ ?_ hb (fun h => by first | rfl | exact absurd rfl h) <;> rw [hR]
      · exact ⟨z64, z64, blockZ_ok _ _, fewZ, op_of hr _⟩
      · rfl
    · have hR : repV M ⟨6, i, ver, word, b, x⟩ = ⟨false, 0, 0, blockZ, opZ⟩ := by simp [repV, hi]
      refine (show Calls _ _ _ _ _ from do_read_no i ver word _ _ _ _ _ _ _ _ _ _ _ _ _ _ _ _ _ _ _ _ _ _ w h0 hi).mono ?_
      rintro e w' ⟨rfl, hb⟩
      refine did_same (q := nilH) h (by simp [doV]) ?_ ?_ hb (fun h => by first | rfl | exact absurd rfl h) <;> rw [hR]
      · exact repZ _ _ _ ⟨by decide, by decide⟩ ⟨by decide, by decide⟩
      · rfl
  by_cases k7 : kind = 7
  · subst k7
    by_cases hi : 0 ≤ i ∧ i < (M.T : Int)
    · have hR : repV M ⟨7, i, ver, word, b, x⟩ = ⟨true, 0, 0, blockZ, opZ⟩ := by simp [repV, hi]
      have hD : doV M ⟨7, i, ver, word, b, x⟩ = { M with R := M.R.set i.toNat x } := by simp [doV, hi]
      refine (show Calls _ _ _ _ _ from do_write_yes i ver word _ _ _ _ _ _ _ _ _ _ _ _ _ _ _ _ _ i.toNat x w h0 (by omega) (by omega)).mono ?_
      rintro e w' ⟨rfl, h1, F⟩
      have F3 : Fr [m.g, m.gb, m.gr] w w' := F.more (by simp)
      refine ⟨⟨nilH, by rw [hR]; rfl, by rw [hR]; exact repZ _ _ _ ⟨by decide, by decide⟩ ⟨by decide, by decide⟩, fun _ => rfl⟩, ?_, F3⟩
      rw [hD]
      rw [map_set] at h1
      refine ⟨⟨_, h1, own_isB F3 ho hB⟩, hl, fun y hy => ?_, hown⟩
      rcases List.mem_or_eq_of_mem_set hy with hy | rfl
      · exact hr y hy
      · exact hop
    · have hR : repV M ⟨7, i, ver, word, b, x⟩ = ⟨false, 0, 0, blockZ, opZ⟩ := by simp [repV]; omega
      refine (show Calls _ _ _ _ _ from do_write_no i ver word _ _ _ _ _ _ _ _ _ _ _ _ _ _ _ _ _ _ _ _ _ _ w h0 hi).mono ?_
      rintro e w' ⟨rfl, hb⟩
      refine did_same (q := nilH) h (by simp [doV, hi]) ?_ ?_ hb (fun h => by first | rfl | exact absurd rfl h) <;> rw [hR]
      · exact repZ _ _ _ ⟨by decide, by decide⟩ ⟨by decide, by decide⟩
      · rfl
  · have hR : repV M ⟨kind, i, ver, word, b, x⟩ = ⟨false, 0, 0, blockZ, opZ⟩ := by simp [repV, k1, k2, k3, k4, k5, k6, k7]
    refine (show Calls _ _ _ _ _ from do_else kind i ver word _ _ _ _ _ _ _ _ _ _ _ _ _ _ _ _ _ _ _ _ _ _ w h0 (by omega)).mono ?_
    rintro e w' ⟨rfl, hb⟩
    refine did_same (q := nilH) h (by simp [doV, k2, k3, k5, k7]) ?_ ?_ hb (fun h => by first | rfl | exact absurd rfl h) <;> rw [hR]
    · exact repZ _ _ _ ⟨by decide, by decide⟩ ⟨by decide, by decide⟩
    · rfl
end Go.Proofs.Ytpempcefgfmniaa.MemP

/-
  bowerref26: Do: contracts (loads, records, none).
-/
namespace Go.Proofs.Ytpempcefgfmniaa.MemP
open Go.RowKit RefP CellP Dp
set_option linter.unusedVariables false
set_option linter.unusedSimpArgs false
theorem res_cc {P : Program} {fn : Func} {p q : Tmp} {ty ty' : TypeId} (h : fn.results = #[.cell p ty, .cell q ty']) (tmps : Array Value) (w : World) (g : Nat) (t : TypeId) (cs : Array Value) (fr : Nat × Nat) (d : TypeDesc) (g' : Nat) (t' : TypeId) (cs' : Array Value) (fr' : Nat × Nat) (d' : TypeDesc)
    (hp : tmps.getD p undef = .pointer (some ⟨g, 0, none⟩)) (hg : w.heap[g]? = some (.cells cs t fr))
    (hu : P.underlying ty = some d) (hd : (match d with | .struct _ | .array _ _ => true | _ => false) = true) (hi : (P.info? ty).map (·.size) = some cs.size)
    (hp' : tmps.getD q undef = .pointer (some ⟨g', 0, none⟩)) (hg' : w.heap[g']? = some (.cells cs' t' fr'))
    (hu' : P.underlying ty' = some d') (hd' : (match d' with | .struct _ | .array _ _ => true | _ => false) = true) (hi' : (P.info? ty').map (·.size) = some cs'.size) :
    (results fn tmps).run P w = .ok (.tuple #[.agg cs, .agg cs']) w := by
  have h1 : tmps[p]?.getD undef = .pointer (some ⟨g, 0, none⟩) := by simpa using hp
  have h2 : tmps[q]?.getD undef = .pointer (some ⟨g', 0, none⟩) := by simpa using hp'
  simp [results, h, h1, h2, asAddr, run_loadVar_row w g t ty cs fr d hg hu hd hi, run_loadVar_row w g' t' ty' cs' fr' d' hg' hu' hd' hi']
/-- the document's memory did an access -/
def DidD (w : World) (S : List Nat) (M : MemV) (a : AccV) (e : Ending) (w' : World) : Prop := ∃ d' q', e = .returned (.tuple #[.agg (dmX (doV M a) d'), .agg (repA q' (repV M a))]) ∧ DMem w' S d' (doV M a) ∧ BlockOk w' S q' (repV M a).block ∧ Below w.heap.size w w'
set_option maxRecDepth 100000 in
set_option maxHeartbeats 3200000 in
theorem ddo_load_in {S : List Nat} (M : MemV) (d : DH) (k : Nat) (ver word : Int) (q : BlockH) (b : BlockV) (x : OpV) (w : World) (h : DMem w S d M) (hk : k < M.L.length) :
    Calls Try.prog 30 #[.agg (dmX M d), .agg (acc26 q ⟨1, k, ver, word, b, x⟩).toArray] w (DidD w S M ⟨1, k, ver, word, b, x⟩) := by
  have hB : Below w.heap.size w ((((w.alloc (.cells (dmX M d) 69)).alloc (.cells (acc26 q ⟨1, k, ver, word, b, x⟩).toArray 39)).alloc (.cells #[.int .i64 0, .int .i64 0, .slice none 0 0, .slice none 0 0, .slice none 0 0] 69)).alloc (.cells #[.bool false, .int .u64 0, .int .u64 0, .int .i64 0, .int .i64 0, .string ⟨#[]⟩, .string ⟨#[]⟩, .bool false, .int .i64 0, .slice none 0 0, .slice none 0 0, .slice none 0 0, .int .i64 0, .int .i64 0, .string ⟨#[]⟩, .int .u64 0, .slice none 0 0, .slice none 0 0, .slice none 0 0, .slice none 0 0, .int .i64 0, .string ⟨#[]⟩, .string ⟨#[]⟩, .int .u64 0, .int .i64 0] 50)) := by (repeat (first | exact Below.refl _ _ | assumption | refine below_alloc2 ?_ (by first | exact Nat.le_refl _ | omega) _ | refine Below.drew ?_ | refine below_drewN ?_ _ | refine below_push2 ?_ ‹_› (by first | exact Nat.le_refl _ | omega) | refine Below.setCell ?_ (by first | (simp; done) | (simp; omega) | omega) _))
  have BX := (((Blk.new w (dmX M d) 69).alloc (.cells (acc26 q ⟨1, k, ver, word, b, x⟩).toArray 39)).alloc (.cells #[.int .i64 0, .int .i64 0, .slice none 0 0, .slice none 0 0, .slice none 0 0] 69)).alloc (.cells #[.bool false, .int .u64 0, .int .u64 0, .int .i64 0, .int .i64 0, .string ⟨#[]⟩, .string ⟨#[]⟩, .bool false, .int .i64 0, .slice none 0 0, .slice none 0 0, .slice none 0 0, .int .i64 0, .int .i64 0, .string ⟨#[]⟩, .int .u64 0, .slice none 0 0, .slice none 0 0, .slice none 0 0, .slice none 0 0, .int .i64 0, .string ⟨#[]⟩, .string ⟨#[]⟩, .int .u64 0, .int .i64 0] 50)
  have BA : Blk ((((w.alloc (.cells (dmX M d) 69)).alloc (.cells (acc26 q ⟨1, k, ver, word, b, x⟩).toArray 39)).alloc (.cells #[.int .i64 0, .int .i64 0, .slice none 0 0, .slice none 0 0, .slice none 0 0] 69)).alloc (.cells #[.bool false, .int .u64 0, .int .u64 0, .int .i64 0, .int .i64 0, .string ⟨#[]⟩, .string ⟨#[]⟩, .bool false, .int .i64 0, .slice none 0 0, .slice none 0 0, .slice none 0 0, .int .i64 0, .int .i64 0, .string ⟨#[]⟩, .int .u64 0, .slice none 0 0, .slice none 0 0, .slice none 0 0, .slice none 0 0, .int .i64 0, .string ⟨#[]⟩, .string ⟨#[]⟩, .int .u64 0, .int .i64 0] 50)) (w.heap.size + 1) (acc26 q ⟨1, k, ver, word, b, x⟩).toArray 39 := by
    have := ((Blk.new (w.alloc (.cells (dmX M d) 69)) (acc26 q ⟨1, k, ver, word, b, x⟩).toArray 39).alloc (.cells #[.int .i64 0, .int .i64 0, .slice none 0 0, .slice none 0 0, .slice none 0 0] 69)).alloc (.cells #[.bool false, .int .u64 0, .int .u64 0, .int .i64 0, .int .i64 0, .string ⟨#[]⟩, .string ⟨#[]⟩, .bool false, .int .i64 0, .slice none 0 0, .slice none 0 0, .slice none 0 0, .int .i64 0, .int .i64 0, .string ⟨#[]⟩, .int .u64 0, .slice none 0 0, .slice none 0 0, .slice none 0 0, .slice none 0 0, .int .i64 0, .string ⟨#[]⟩, .string ⟨#[]⟩, .int .u64 0, .int .i64 0] 50)
    simpa using this
  have BM : Blk ((((w.alloc (.cells (dmX M d) 69)).alloc (.cells (acc26 q ⟨1, k, ver, word, b, x⟩).toArray 39)).alloc (.cells #[.int .i64 0, .int .i64 0, .slice none 0 0, .slice none 0 0, .slice none 0 0] 69)).alloc (.cells #[.bool false, .int .u64 0, .int .u64 0, .int .i64 0, .int .i64 0, .string ⟨#[]⟩, .string ⟨#[]⟩, .bool false, .int .i64 0, .slice none 0 0, .slice none 0 0, .slice none 0 0, .int .i64 0, .int .i64 0, .string ⟨#[]⟩, .int .u64 0, .slice none 0 0, .slice none 0 0, .slice none 0 0, .slice none 0 0, .int .i64 0, .string ⟨#[]⟩, .string ⟨#[]⟩, .int .u64 0, .int .i64 0] 50)) (w.heap.size + 2) #[.int .i64 0, .int .i64 0, .slice none 0 0, .slice none 0 0, .slice none 0 0] 69 := by
    have := (Blk.new ((w.alloc (.cells (dmX M d) 69)).alloc (.cells (acc26 q ⟨1, k, ver, word, b, x⟩).toArray 39)) #[.int .i64 0, .int .i64 0, .slice none 0 0, .slice none 0 0, .slice none 0 0] 69).alloc (.cells #[.bool false, .int .u64 0, .int .u64 0, .int .i64 0, .int .i64 0, .string ⟨#[]⟩, .string ⟨#[]⟩, .bool false, .int .i64 0, .slice none 0 0, .slice none 0 0, .slice none 0 0, .int .i64 0, .int .i64 0, .string ⟨#[]⟩, .int .u64 0, .slice none 0 0, .slice none 0 0, .slice none 0 0, .slice none 0 0, .int .i64 0, .string ⟨#[]⟩, .string ⟨#[]⟩, .int .u64 0, .int .i64 0] 50)
    simpa using this
  have BR : Blk ((((w.alloc (.cells (dmX M d) 69)).alloc (.cells (acc26 q ⟨1, k, ver, word, b, x⟩).toArray 39)).alloc (.cells #[.int .i64 0, .int .i64 0, .slice none 0 0, .slice none 0 0, .slice none 0 0] 69)).alloc (.cells #[.bool false, .int .u64 0, .int .u64 0, .int .i64 0, .int .i64 0, .string ⟨#[]⟩, .string ⟨#[]⟩, .bool false, .int .i64 0, .slice none 0 0, .slice none 0 0, .slice none 0 0, .int .i64 0, .int .i64 0, .string ⟨#[]⟩, .int .u64 0, .slice none 0 0, .slice none 0 0, .slice none 0 0, .slice none 0 0, .int .i64 0, .string ⟨#[]⟩, .string ⟨#[]⟩, .int .u64 0, .int .i64 0] 50)) (w.heap.size + 3) #[.bool false, .int .u64 0, .int .u64 0, .int .i64 0, .int .i64 0, .string ⟨#[]⟩, .string ⟨#[]⟩, .bool false, .int .i64 0, .slice none 0 0, .slice none 0 0, .slice none 0 0, .int .i64 0, .int .i64 0, .string ⟨#[]⟩, .int .u64 0, .slice none 0 0, .slice none 0 0, .slice none 0 0, .slice none 0 0, .int .i64 0, .string ⟨#[]⟩, .string ⟨#[]⟩, .int .u64 0, .int .i64 0] 50 := by
    have := Blk.new (((w.alloc (.cells (dmX M d) 69)).alloc (.cells (acc26 q ⟨1, k, ver, word, b, x⟩).toArray 39)).alloc (.cells #[.int .i64 0, .int .i64 0, .slice none 0 0, .slice none 0 0, .slice none 0 0] 69)) #[.bool false, .int .u64 0, .int .u64 0, .int .i64 0, .int .i64 0, .string ⟨#[]⟩, .string ⟨#[]⟩, .bool false, .int .i64 0, .slice none 0 0, .slice none 0 0, .slice none 0 0, .int .i64 0, .int .i64 0, .string ⟨#[]⟩, .int .u64 0, .slice none 0 0, .slice none 0 0, .slice none 0 0, .slice none 0 0, .int .i64 0, .string ⟨#[]⟩, .string ⟨#[]⟩, .int .u64 0, .int .i64 0] 50
    simpa using this
  go_enter Try.func30, Try.ntmps30
  go_upto_region 1 with (fail)
  generalize ((((w.alloc (.cells (dmX M d) 69)).alloc (.cells (acc26 q ⟨1, k, ver, word, b, x⟩).toArray 39)).alloc (.cells #[.int .i64 0, .int .i64 0, .slice none 0 0, .slice none 0 0, .slice none 0 0] 69)).alloc (.cells #[.bool false, .int .u64 0, .int .u64 0, .int .i64 0, .int .i64 0, .string ⟨#[]⟩, .string ⟨#[]⟩, .bool false, .int .i64 0, .slice none 0 0, .slice none 0 0, .slice none 0 0, .int .i64 0, .int .i64 0, .string ⟨#[]⟩, .int .u64 0, .slice none 0 0, .slice none 0 0, .slice none 0 0, .slice none 0 0, .int .i64 0, .string ⟨#[]⟩, .string ⟨#[]⟩, .int .u64 0, .int .i64 0] 50)) = w1 at hB BX BA BM BR ⊢
  have h1 := h.below hB
  have c0 : w1.cell? ⟨w.heap.size, 0, none⟩ = some (.int .i64 M.A) := BX.at 0 rfl
  have c1 : w1.cell? ⟨w.heap.size, 1, none⟩ = some (.int .i64 M.T) := BX.at 1 rfl
  have c2 : w1.cell? ⟨w.heap.size, 2, none⟩ = some (.slice d.h1.a M.L.length d.h1.c) := BX.at 2 rfl
  have c3 : w1.cell? ⟨w.heap.size, 3, none⟩ = some (.slice d.h2.a M.B.length d.h2.c) := BX.at 3 rfl
  have c4 : w1.cell? ⟨w.heap.size, 4, none⟩ = some (.slice d.h3.a M.R.length d.h3.c) := BX.at 4 rfl
  have a0 : w1.cell? ⟨w.heap.size + 1, 0, none⟩ = some (.int .i64 1) := BA.at 0 rfl
  have a1 : w1.cell? ⟨w.heap.size + 1, 1, none⟩ = some (.int .i64 k) := BA.at 1 rfl
  have a2 : w1.cell? ⟨w.heap.size + 1, 2, none⟩ = some (.int .u64 ver) := BA.at 2 rfl
  have a3 : w1.cell? ⟨w.heap.size + 1, 3, none⟩ = some (.int .u64 word) := BA.at 3 rfl
  have hs0 : w.heap.size < w1.heap.size := BX.lt
  have hs1 : w.heap.size + 1 < w1.heap.size := BA.lt
  obtain ⟨bb, off, ha, hbl, hbS, e0, e1, u0, u1⟩ := h1.cell k hk
  obtain ⟨bb', off', ha', hbl', _⟩ := h.cell k hk
  have hbb : bb < w.heap.size := by
    rw [ha] at ha'
    cases ha'; exact hbl'
  rw [ha] at c2
  have hS : ∀ w', Fr [w.heap.size + 2, w.heap.size + 3] w1 w' → w'.cell? ⟨w.heap.size, 0, none⟩ = some (.int .i64 M.A) ∧ w'.cell? ⟨w.heap.size, 1, none⟩ = some (.int .i64 M.T) ∧ w'.cell? ⟨w.heap.size, 2, none⟩ = some (.slice (some ⟨bb, off, none⟩) M.L.length d.h1.c) ∧ w'.cell? ⟨w.heap.size, 3, none⟩ = some (.slice d.h2.a M.B.length d.h2.c) ∧ w'.cell? ⟨w.heap.size, 4, none⟩ = some (.slice d.h3.a M.R.length d.h3.c) ∧ w'.cell? ⟨w.heap.size + 1, 1, none⟩ = some (.int .i64 k) ∧ w'.cell? ⟨bb, off + k * 2, none⟩ = some (.int .u64 (at2 M.L k).1) ∧ w'.cell? ⟨bb, off + k * 2 + 1, none⟩ = some (.int .u64 (at2 M.L k).2) := fun w' F =>
    ⟨((F.keeps.cell (p := ⟨w.heap.size, 0, none⟩) hs0 (by simp)).trans c0), ((F.keeps.cell (p := ⟨w.heap.size, 1, none⟩) hs0 (by simp)).trans c1), ((F.keeps.cell (p := ⟨w.heap.size, 2, none⟩) hs0 (by simp)).trans c2), ((F.keeps.cell (p := ⟨w.heap.size, 3, none⟩) hs0 (by simp)).trans c3), ((F.keeps.cell (p := ⟨w.heap.size, 4, none⟩) hs0 (by simp)).trans c4), ((F.keeps.cell (p := ⟨w.heap.size + 1, 1, none⟩) hs1 (by simp)).trans a1), (F.keeps.cell (p := ⟨bb, off + k * 2, none⟩) hbl (by simp; omega)).trans e0, (F.keeps.cell (p := ⟨bb, off + k * 2 + 1, none⟩) hbl (by simp; omega)).trans e1⟩
  have hR : repV M ⟨1, k, ver, word, b, x⟩ = ⟨true, (at2 M.L k).1, (at2 M.L k).2, blockZ, opZ⟩ := by
    have h1 : inB M.L.length k = true := inB_mk (by omega) (by omega)
    simp [repV, h1, load_at2' hk]
  have hD : doV M ⟨1, k, ver, word, b, x⟩ = M := by simp [doV]
  have hfin : ∀ w', Fr [w.heap.size + 2, w.heap.size + 3] w1 w' → DidD w S M ⟨1, k, ver, word, b, x⟩ (.returned (.tuple #[.agg #[.int .i64 M.A, .int .i64 M.T, .slice (some ⟨bb, off, none⟩) M.L.length d.h1.c, .slice d.h2.a M.B.length d.h2.c, .slice d.h3.a M.R.length d.h3.c], .agg #[.bool true, .int .u64 (at2 M.L k).1, .int .u64 (at2 M.L k).2, .int .i64 0, .int .i64 0, .string ⟨#[]⟩, .string ⟨#[]⟩, .bool false, .int .i64 0, .slice none 0 0, .slice none 0 0, .slice none 0 0, .int .i64 0, .int .i64 0, .string ⟨#[]⟩, .int .u64 0, .slice none 0 0, .slice none 0 0, .slice none 0 0, .slice none 0 0, .int .i64 0, .string ⟨#[]⟩, .string ⟨#[]⟩, .int .u64 0, .int .i64 0]])) w' := fun w' F => by
    have hb' := F.below hB (Nat.le_refl _) (by simp)
    refine ⟨d, nilH, ?_, ?_, ?_, hb'⟩
    · rw [hR, hD]; simp [ha, blockZ, opZ, nilH, Hd.nil]
    · rw [hD]; exact h.below hb'
    · rw [hR]; exact blockZ_ok _ _
  have g0 : decide ((0 : Int) ≤ (k : Int)) = true := by simp
  have g1 : decide (k < M.L.length) = true := by simpa using hk
  have kk : (k : Int) < (M.L.length : Int) := by omega
  obtain ⟨g2, hg2⟩ : ∃ g2, decide (k < M.T) = g2 := ⟨_, rfl⟩
  cases g2
  all_goals
    go_upto_region 6 with (fail)
    clear h h1 hR hD ha' hbl'
    refine wp_region_held_drew (S := fun w' => w'.cell? ⟨w.heap.size, 0, none⟩ = some (.int .i64 M.A) ∧ w'.cell? ⟨w.heap.size, 1, none⟩ = some (.int .i64 M.T) ∧ w'.cell? ⟨w.heap.size, 2, none⟩ = some (.slice (some ⟨bb, off, none⟩) M.L.length d.h1.c) ∧ w'.cell? ⟨w.heap.size, 3, none⟩ = some (.slice d.h2.a M.B.length d.h2.c) ∧ w'.cell? ⟨w.heap.size, 4, none⟩ = some (.slice d.h3.a M.R.length d.h3.c) ∧ w'.cell? ⟨w.heap.size + 1, 1, none⟩ = some (.int .i64 k) ∧ w'.cell? ⟨bb, off + k * 2, none⟩ = some (.int .u64 (at2 M.L k).1) ∧ w'.cell? ⟨bb, off + k * 2 + 1, none⟩ = some (.int .u64 (at2 M.L k).2)) (by kernel_rfl) (hS _ (Fr.of_below (Below.refl _ _).drew)) (fun hHeld => ?_)
    clear c0 c1 c2 c3 c4 a0 a1 a2 a3 e0 e1
    refine wpAnyH_take (i := 0) (oi := ⟨_, _, _, _, _, _⟩) (v := ?_) rfl (by kernel_rfl) (by kernel_rfl) (by kernel_rfl) (fun _ _ _ h => h) (Or.inl ⟨by rfl, ?_⟩) (by assumption) ?_
    rotate_left
    · intro wS hSw
      try dsimp only at hSw
      go_simp
      try with_reducible rfl
    try simp only [Act.put, List.setIfInBounds_toArray, List.set_cons_zero, List.set_cons_succ]
    refine wpAnyH_take (i := 1) (oi := ⟨_, _, _, _, _, _⟩) (v := ?_) rfl (by kernel_rfl) (by kernel_rfl) (by kernel_rfl) (fun _ _ _ h => h) (Or.inl ⟨by rfl, ?_⟩) (by assumption) ?_
    rotate_left
    · intro wS hSw
      try dsimp only at hSw
      go_simp
      try with_reducible rfl
    try simp only [Act.put, List.setIfInBounds_toArray, List.set_cons_zero, List.set_cons_succ]
    refine wpAnyH_take (i := 2) (oi := ⟨_, _, _, _, _, _⟩) (v := ?_) rfl (by kernel_rfl) (by kernel_rfl) (by kernel_rfl) (fun _ _ _ h => h) (Or.inl ⟨by rfl, ?_⟩) (by assumption) ?_
    rotate_left
    · intro wS hSw
      try dsimp only at hSw
      go_simp
      try with_reducible rfl
    try simp only [Act.put, List.setIfInBounds_toArray, List.set_cons_zero, List.set_cons_succ]
    refine wpAnyH_take (i := 3) (oi := ⟨_, _, _, _, _, _⟩) (v := ?_) rfl (by kernel_rfl) (by kernel_rfl) (by kernel_rfl) (fun _ _ _ h => h) (Or.inl ⟨by rfl, ?_⟩) (by assumption) ?_
    rotate_left
    · intro wS hSw
      try dsimp only at hSw
      go_simp
      try with_reducible rfl
    try simp only [Act.put, List.setIfInBounds_toArray, List.set_cons_zero, List.set_cons_succ]
    refine wpAnyH_take (i := 4) (oi := ⟨_, _, _, _, _, _⟩) (v := ?_) rfl (by kernel_rfl) (by kernel_rfl) (by kernel_rfl) (fun _ _ _ h => h) (Or.inl ⟨by rfl, ?_⟩) (by assumption) ?_
    rotate_left
    · intro wS hSw
      try dsimp only at hSw
      go_simp
      try with_reducible rfl
    try simp only [Act.put, List.setIfInBounds_toArray, List.set_cons_zero, List.set_cons_succ]
    refine wpAnyH_take (i := 5) (oi := ⟨_, _, _, _, _, _⟩) (v := ?_) rfl (by kernel_rfl) (by kernel_rfl) (by kernel_rfl) (fun _ _ _ h => h) (Or.inl ⟨by rfl, ?_⟩) (by assumption) ?_
    rotate_left
    · intro wS hSw
      try dsimp only at hSw
      go_simp
      try with_reducible rfl
    try simp only [Act.put, List.setIfInBounds_toArray, List.set_cons_zero, List.set_cons_succ]
    refine wpAnyH_take (i := 6) (oi := ⟨_, _, _, _, _, _⟩) (v := ?_) rfl (by kernel_rfl) (by kernel_rfl) (by kernel_rfl) (fun _ _ _ h => h) (Or.inl ⟨by rfl, ?_⟩) (by assumption) ?_
    rotate_left
    · intro wS hSw
      try dsimp only at hSw
      go_simp
      try with_reducible rfl
    try simp only [Act.put, List.setIfInBounds_toArray, List.set_cons_zero, List.set_cons_succ]
    refine wpAnyH_take (i := 7) (oi := ⟨_, _, _, _, _, _⟩) (v := ?_) rfl (by kernel_rfl) (by kernel_rfl) (by kernel_rfl) (fun _ _ _ h => h) (Or.inl ⟨by rfl, ?_⟩) (by assumption) ?_
    rotate_left
    · intro wS hSw
      try dsimp only at hSw
      go_simp
      try with_reducible rfl
    try simp only [Act.put, List.setIfInBounds_toArray, List.set_cons_zero, List.set_cons_succ]
    refine wpAnyH_take (i := 8) (oi := ⟨_, _, _, _, _, _⟩) (v := ?_) rfl (by kernel_rfl) (by kernel_rfl) (by kernel_rfl) (fun _ _ _ h => h) (Or.inl ⟨by rfl, ?_⟩) (by assumption) ?_
    rotate_left
    · intro wS hSw
      try dsimp only at hSw
      go_simp
      try with_reducible rfl
    try simp only [Act.put, List.setIfInBounds_toArray, List.set_cons_zero, List.set_cons_succ]
    refine wpAnyH_take (i := 9) (oi := ⟨_, _, _, _, _, _⟩) (v := ?_) rfl (by kernel_rfl) (by kernel_rfl) (by kernel_rfl) (fun _ _ _ h => h) (Or.inl ⟨by rfl, ?_⟩) (by assumption) ?_
    rotate_left
    · intro wS hSw
      try dsimp only at hSw
      go_simp
      try with_reducible rfl
    try simp only [Act.put, List.setIfInBounds_toArray, List.set_cons_zero, List.set_cons_succ]
    refine wpAnyH_take (i := 10) (oi := ⟨_, _, _, _, _, _⟩) (v := ?_) rfl (by kernel_rfl) (by kernel_rfl) (by kernel_rfl) (fun _ _ _ h => h) (Or.inl ⟨by rfl, ?_⟩) (by assumption) ?_
    rotate_left
    · intro wS hSw
      try dsimp only at hSw
      go_simp
      try with_reducible rfl
    try simp only [Act.put, List.setIfInBounds_toArray, List.set_cons_zero, List.set_cons_succ]
    refine wpAnyH_take (i := 11) (oi := ⟨_, _, _, _, _, _⟩) (v := ?_) rfl (by kernel_rfl) (by kernel_rfl) (by kernel_rfl) (fun _ _ _ h => h) (Or.inl ⟨by rfl, ?_⟩) (by assumption) ?_
    rotate_left
    · intro wS hSw
      try dsimp only at hSw
      go_simp
      try with_reducible rfl
    try simp only [Act.put, List.setIfInBounds_toArray, List.set_cons_zero, List.set_cons_succ]
    refine wpAnyH_take (i := 12) (oi := ⟨_, _, _, _, _, _⟩) (v := ?_) rfl (by kernel_rfl) (by kernel_rfl) (by kernel_rfl) (fun _ _ _ h => h) (Or.inl ⟨by rfl, ?_⟩) (by assumption) ?_
    rotate_left
    · intro wS hSw
      try dsimp only at hSw
      go_simp
      try with_reducible rfl
    try simp only [Act.put, List.setIfInBounds_toArray, List.set_cons_zero, List.set_cons_succ]
    refine wpAnyH_take (i := 13) (oi := ⟨_, _, _, _, _, _⟩) (v := ?_) rfl (by kernel_rfl) (by kernel_rfl) (by kernel_rfl) (fun _ _ _ h => h) (Or.inl ⟨by rfl, ?_⟩) (by assumption) ?_
    rotate_left
    · intro wS hSw
      try dsimp only at hSw
      go_simp
      try with_reducible rfl
    try simp only [Act.put, List.setIfInBounds_toArray, List.set_cons_zero, List.set_cons_succ]
    refine wpAnyH_take (i := 14) (oi := ⟨_, _, _, _, _, _⟩) (v := ?_) rfl (by kernel_rfl) (by kernel_rfl) (by kernel_rfl) (fun _ _ _ h => h) (Or.inl ⟨by rfl, ?_⟩) (by assumption) ?_
    rotate_left
    · intro wS hSw
      try dsimp only at hSw
      go_simp
      try with_reducible rfl
    try simp only [Act.put, List.setIfInBounds_toArray, List.set_cons_zero, List.set_cons_succ]
    refine wpAnyH_take (i := 15) (oi := ⟨_, _, _, _, _, _⟩) (v := ?_) rfl (by kernel_rfl) (by kernel_rfl) (by kernel_rfl) (fun _ _ _ h => h) (Or.inl ⟨by rfl, ?_⟩) (by assumption) ?_
    rotate_left
    · intro wS hSw
      try dsimp only at hSw
      go_simp
      try with_reducible rfl
    try simp only [Act.put, List.setIfInBounds_toArray, List.set_cons_zero, List.set_cons_succ]
    have F0 : Fr [w.heap.size + 2, w.heap.size + 3] w1 w1.drew := Fr.of_below (Below.refl _ _).drew
    have FA := F0.trans (Fr.row (S := [w.heap.size + 2, w.heap.size + 3]) (w := w1.drew) (w.heap.size + 2) (#[.int .i64 M.A, .int .i64 M.T, .slice (some ⟨bb, off, none⟩) M.L.length d.h1.c, .slice d.h2.a M.B.length d.h2.c, .slice d.h3.a M.R.length d.h3.c]) (by simp))
    have FAB := FA.trans (Fr.row (S := [w.heap.size + 2, w.heap.size + 3]) (w.heap.size + 3) (#[.bool true, .int .u64 (at2 M.L k).1, .int .u64 (at2 M.L k).2, .int .i64 0, .int .i64 0, .string ⟨#[]⟩, .string ⟨#[]⟩, .bool false, .int .i64 0, .slice none 0 0, .slice none 0 0, .slice none 0 0, .int .i64 0, .int .i64 0, .string ⟨#[]⟩, .int .u64 0, .slice none 0 0, .slice none 0 0, .slice none 0 0, .slice none 0 0, .int .i64 0, .string ⟨#[]⟩, .string ⟨#[]⟩, .int .u64 0, .int .i64 0]) (by simp))
    have MA := Blk.row BM.drew (#[.int .i64 M.A, .int .i64 M.T, .slice (some ⟨bb, off, none⟩) M.L.length d.h1.c, .slice d.h2.a M.B.length d.h2.c, .slice d.h3.a M.R.length d.h3.c])
    have RA := (Fr.row (S := [w.heap.size + 2]) (w := w1.drew) (w.heap.size + 2) (#[.int .i64 M.A, .int .i64 M.T, .slice (some ⟨bb, off, none⟩) M.L.length d.h1.c, .slice d.h2.a M.B.length d.h2.c, .slice d.h3.a M.R.length d.h3.c]) (by simp)).blk BR.drew (by simp)
    have RAB := Blk.row RA (#[.bool true, .int .u64 (at2 M.L k).1, .int .u64 (at2 M.L k).2, .int .i64 0, .int .i64 0, .string ⟨#[]⟩, .string ⟨#[]⟩, .bool false, .int .i64 0, .slice none 0 0, .slice none 0 0, .slice none 0 0, .int .i64 0, .int .i64 0, .string ⟨#[]⟩, .int .u64 0, .slice none 0 0, .slice none 0 0, .slice none 0 0, .slice none 0 0, .int .i64 0, .string ⟨#[]⟩, .string ⟨#[]⟩, .int .u64 0, .int .i64 0])
    have MAB := (Fr.row (S := [w.heap.size + 3]) (w.heap.size + 3) (#[.bool true, .int .u64 (at2 M.L k).1, .int .u64 (at2 M.L k).2, .int .i64 0, .int .i64 0, .string ⟨#[]⟩, .string ⟨#[]⟩, .bool false, .int .i64 0, .slice none 0 0, .slice none 0 0, .slice none 0 0, .int .i64 0, .int .i64 0, .string ⟨#[]⟩, .int .u64 0, .slice none 0 0, .slice none 0 0, .slice none 0 0, .slice none 0 0, .int .i64 0, .string ⟨#[]⟩, .string ⟨#[]⟩, .int .u64 0, .int .i64 0]) (by simp)).blk MA (by simp)
    refine wpAnyH_ready (rs := [16]) (by kernel_rfl) (by simp) ?_
    refine AllReadyH.cons rfl (fun K hK => ?_) AllReadyH.nil
    rw [if_pos (by rfl)]
    refine wp_store_row 69 _ _ rfl (w.heap.size + 2) _ rfl rfl 69 _ (BM.drew).h (by kernel_rfl) (by rfl) (by kernel_rfl) ?_
    refine hK.out _ _ (hS _ (FA)) (fun hHeld => ?_)
    clear hK K
    refine wpAnyH_ready (rs := [17]) (by kernel_rfl) (by simp) ?_
    refine AllReadyH.cons rfl (fun K hK => ?_) AllReadyH.nil
    rw [if_pos (by rfl)]
    refine wp_store_row 50 _ _ rfl (w.heap.size + 3) _ rfl rfl 50 _ (RA).h (by kernel_rfl) (by rfl) (by kernel_rfl) ?_
    refine hK.out _ _ (hS _ (FAB)) (fun hHeld => ?_)
    clear hK K
    have FF := FAB
    refine wpAnyH_done (by kernel_rfl) ?_ _
    go_wp2_with fail
    refine bodyPost_ret (res_cc rfl _ _ (w.heap.size + 2) 69 (#[.int .i64 M.A, .int .i64 M.T, .slice (some ⟨bb, off, none⟩) M.L.length d.h1.c, .slice d.h2.a M.B.length d.h2.c, .slice d.h3.a M.R.length d.h3.c]) (0, 0) _ (w.heap.size + 3) 50 (#[.bool true, .int .u64 (at2 M.L k).1, .int .u64 (at2 M.L k).2, .int .i64 0, .int .i64 0, .string ⟨#[]⟩, .string ⟨#[]⟩, .bool false, .int .i64 0, .slice none 0 0, .slice none 0 0, .slice none 0 0, .int .i64 0, .int .i64 0, .string ⟨#[]⟩, .int .u64 0, .slice none 0 0, .slice none 0 0, .slice none 0 0, .slice none 0 0, .int .i64 0, .string ⟨#[]⟩, .string ⟨#[]⟩, .int .u64 0, .int .i64 0]) (0, 0) _ rfl (MAB).h Try.underlying69 rfl (by kernel_rfl) rfl (RAB).h Try.underlying50 rfl (by kernel_rfl)) rfl ?_
    exact hfin _ FF
end Go.Proofs.Ytpempcefgfmniaa.MemP

/-
  bowerref26: Do: contracts (what does nothing).
-/
namespace Go.Proofs.Ytpempcefgfmniaa.MemP
open Go.RowKit RefP CellP Dp
set_option linter.unusedVariables false
set_option linter.unusedSimpArgs false
abbrev ddM (M : MemV) (d : DH) : Array Value := #[.int .i64 M.A, .int .i64 M.T, .slice d.h1.a M.L.length d.h1.c, .slice d.h2.a M.B.length d.h2.c, .slice d.h3.a M.R.length d.h3.c]
abbrev ddR (ok : Bool) : Array Value := #[.bool ok, .int .u64 0, .int .u64 0, .int .i64 0, .int .i64 0, .string ⟨#[]⟩, .string ⟨#[]⟩, .bool false, .int .i64 0, .slice none 0 0, .slice none 0 0, .slice none 0 0, .int .i64 0, .int .i64 0, .string ⟨#[]⟩, .int .u64 0, .slice none 0 0, .slice none 0 0, .slice none 0 0, .slice none 0 0, .int .i64 0, .string ⟨#[]⟩, .string ⟨#[]⟩, .int .u64 0, .int .i64 0]
theorem didd_no {w w' : World} {S : List Nat} {M : MemV} {d : DH} {a : AccV} (h : DMem w S d M) (hb : Below w.heap.size w w') (hD : doV M a = M) (ok : Bool) (hR : repV M a = ⟨ok, 0, 0, blockZ, opZ⟩) :
    DidD w S M a (.returned (.tuple #[.agg (ddM M d), .agg (ddR ok)])) w' := by
  refine ⟨d, nilH, ?_, ?_, ?_, hb⟩
  · rw [hR, hD]; simp [blockZ, opZ, nilH, Hd.nil]
  · rw [hD]; exact h.below hb
  · rw [hR]; exact blockZ_ok _ _
theorem below_two {w w1 : World} {c1 c2 : Array Value} (hB : Below w.heap.size w w1) : Below w.heap.size w ((w1.setRow (w.heap.size + 2) c1).setRow (w.heap.size + 3) c2) :=
  below_setRow (below_setRow hB (by omega) _) (by omega) _
set_option maxRecDepth 100000 in
set_option maxHeartbeats 3200000 in
theorem ddo_load_no {S : List Nat} (M : MemV) (d : DH) (i : Int) (ver word : Int) (q : BlockH) (b : BlockV) (x : OpV) (w : World) (h : DMem w S d M) (hi : inB M.L.length i = false) :
    Calls Try.prog 30 #[.agg (dmX M d), .agg (acc26 q ⟨1, i, ver, word, b, x⟩).toArray] w (DidD w S M ⟨1, i, ver, word, b, x⟩) := by
  have hR : repV M ⟨1, i, ver, word, b, x⟩ = ⟨false, 0, 0, blockZ, opZ⟩ := by simp [repV, hi, loadW, loadV]
  have hD : doV M ⟨1, i, ver, word, b, x⟩ = M := by simp [doV]
  have hlen := h.len
  have hn := inB_no hi
  by_cases h0 : i < 0
  · have hB : Below w.heap.size w ((((w.alloc (.cells (dmX M d) 69)).alloc (.cells (acc26 q ⟨1, i, ver, word, b, x⟩).toArray 39)).alloc (.cells #[.int .i64 0, .int .i64 0, .slice none 0 0, .slice none 0 0, .slice none 0 0] 69)).alloc (.cells #[.bool false, .int .u64 0, .int .u64 0, .int .i64 0, .int .i64 0, .string ⟨#[]⟩, .string ⟨#[]⟩, .bool false, .int .i64 0, .slice none 0 0, .slice none 0 0, .slice none 0 0, .int .i64 0, .int .i64 0, .string ⟨#[]⟩, .int .u64 0, .slice none 0 0, .slice none 0 0, .slice none 0 0, .slice none 0 0, .int .i64 0, .string ⟨#[]⟩, .string ⟨#[]⟩, .int .u64 0, .int .i64 0] 50)) := by (repeat (first | exact Below.refl _ _ | assumption | refine below_alloc2 ?_ (by first | exact Nat.le_refl _ | omega) _ | refine Below.drew ?_ | refine below_drewN ?_ _ | refine below_push2 ?_ ‹_› (by first | exact Nat.le_refl _ | omega) | refine Below.setCell ?_ (by first | (simp; done) | (simp; omega) | omega) _))
    have BX := (((Blk.new w (dmX M d) 69).alloc (.cells (acc26 q ⟨1, i, ver, word, b, x⟩).toArray 39)).alloc (.cells #[.int .i64 0, .int .i64 0, .slice none 0 0, .slice none 0 0, .slice none 0 0] 69)).alloc (.cells #[.bool false, .int .u64 0, .int .u64 0, .int .i64 0, .int .i64 0, .string ⟨#[]⟩, .string ⟨#[]⟩, .bool false, .int .i64 0, .slice none 0 0, .slice none 0 0, .slice none 0 0, .int .i64 0, .int .i64 0, .string ⟨#[]⟩, .int .u64 0, .slice none 0 0, .slice none 0 0, .slice none 0 0, .slice none 0 0, .int .i64 0, .string ⟨#[]⟩, .string ⟨#[]⟩, .int .u64 0, .int .i64 0] 50)
    have BA : Blk ((((w.alloc (.cells (dmX M d) 69)).alloc (.cells (acc26 q ⟨1, i, ver, word, b, x⟩).toArray 39)).alloc (.cells #[.int .i64 0, .int .i64 0, .slice none 0 0, .slice none 0 0, .slice none 0 0] 69)).alloc (.cells #[.bool false, .int .u64 0, .int .u64 0, .int .i64 0, .int .i64 0, .string ⟨#[]⟩, .string ⟨#[]⟩, .bool false, .int .i64 0, .slice none 0 0, .slice none 0 0, .slice none 0 0, .int .i64 0, .int .i64 0, .string ⟨#[]⟩, .int .u64 0, .slice none 0 0, .slice none 0 0, .slice none 0 0, .slice none 0 0, .int .i64 0, .string ⟨#[]⟩, .string ⟨#[]⟩, .int .u64 0, .int .i64 0] 50)) (w.heap.size + 1) (acc26 q ⟨1, i, ver, word, b, x⟩).toArray 39 := by
      have := ((Blk.new (w.alloc (.cells (dmX M d) 69)) (acc26 q ⟨1, i, ver, word, b, x⟩).toArray 39).alloc (.cells #[.int .i64 0, .int .i64 0, .slice none 0 0, .slice none 0 0, .slice none 0 0] 69)).alloc (.cells #[.bool false, .int .u64 0, .int .u64 0, .int .i64 0, .int .i64 0, .string ⟨#[]⟩, .string ⟨#[]⟩, .bool false, .int .i64 0, .slice none 0 0, .slice none 0 0, .slice none 0 0, .int .i64 0, .int .i64 0, .string ⟨#[]⟩, .int .u64 0, .slice none 0 0, .slice none 0 0, .slice none 0 0, .slice none 0 0, .int .i64 0, .string ⟨#[]⟩, .string ⟨#[]⟩, .int .u64 0, .int .i64 0] 50)
      simpa using this
    have BM : Blk ((((w.alloc (.cells (dmX M d) 69)).alloc (.cells (acc26 q ⟨1, i, ver, word, b, x⟩).toArray 39)).alloc (.cells #[.int .i64 0, .int .i64 0, .slice none 0 0, .slice none 0 0, .slice none 0 0] 69)).alloc (.cells #[.bool false, .int .u64 0, .int .u64 0, .int .i64 0, .int .i64 0, .string ⟨#[]⟩, .string ⟨#[]⟩, .bool false, .int .i64 0, .slice none 0 0, .slice none 0 0, .slice none 0 0, .int .i64 0, .int .i64 0, .string ⟨#[]⟩, .int .u64 0, .slice none 0 0, .slice none 0 0, .slice none 0 0, .slice none 0 0, .int .i64 0, .string ⟨#[]⟩, .string ⟨#[]⟩, .int .u64 0, .int .i64 0] 50)) (w.heap.size + 2) #[.int .i64 0, .int .i64 0, .slice none 0 0, .slice none 0 0, .slice none 0 0] 69 := by
      have := (Blk.new ((w.alloc (.cells (dmX M d) 69)).alloc (.cells (acc26 q ⟨1, i, ver, word, b, x⟩).toArray 39)) #[.int .i64 0, .int .i64 0, .slice none 0 0, .slice none 0 0, .slice none 0 0] 69).alloc (.cells #[.bool false, .int .u64 0, .int .u64 0, .int .i64 0, .int .i64 0, .string ⟨#[]⟩, .string ⟨#[]⟩, .bool false, .int .i64 0, .slice none 0 0, .slice none 0 0, .slice none 0 0, .int .i64 0, .int .i64 0, .string ⟨#[]⟩, .int .u64 0, .slice none 0 0, .slice none 0 0, .slice none 0 0, .slice none 0 0, .int .i64 0, .string ⟨#[]⟩, .string ⟨#[]⟩, .int .u64 0, .int .i64 0] 50)
      simpa using this
    have BR : Blk ((((w.alloc (.cells (dmX M d) 69)).alloc (.cells (acc26 q ⟨1, i, ver, word, b, x⟩).toArray 39)).alloc (.cells #[.int .i64 0, .int .i64 0, .slice none 0 0, .slice none 0 0, .slice none 0 0] 69)).alloc (.cells #[.bool false, .int .u64 0, .int .u64 0, .int .i64 0, .int .i64 0, .string ⟨#[]⟩, .string ⟨#[]⟩, .bool false, .int .i64 0, .slice none 0 0, .slice none 0 0, .slice none 0 0, .int .i64 0, .int .i64 0, .string ⟨#[]⟩, .int .u64 0, .slice none 0 0, .slice none 0 0, .slice none 0 0, .slice none 0 0, .int .i64 0, .string ⟨#[]⟩, .string ⟨#[]⟩, .int .u64 0, .int .i64 0] 50)) (w.heap.size + 3) #[.bool false, .int .u64 0, .int .u64 0, .int .i64 0, .int .i64 0, .string ⟨#[]⟩, .string ⟨#[]⟩, .bool false, .int .i64 0, .slice none 0 0, .slice none 0 0, .slice none 0 0, .int .i64 0, .int .i64 0, .string ⟨#[]⟩, .int .u64 0, .slice none 0 0, .slice none 0 0, .slice none 0 0, .slice none 0 0, .int .i64 0, .string ⟨#[]⟩, .string ⟨#[]⟩, .int .u64 0, .int .i64 0] 50 := by
      have := Blk.new (((w.alloc (.cells (dmX M d) 69)).alloc (.cells (acc26 q ⟨1, i, ver, word, b, x⟩).toArray 39)).alloc (.cells #[.int .i64 0, .int .i64 0, .slice none 0 0, .slice none 0 0, .slice none 0 0] 69)) #[.bool false, .int .u64 0, .int .u64 0, .int .i64 0, .int .i64 0, .string ⟨#[]⟩, .string ⟨#[]⟩, .bool false, .int .i64 0, .slice none 0 0, .slice none 0 0, .slice none 0 0, .int .i64 0, .int .i64 0, .string ⟨#[]⟩, .int .u64 0, .slice none 0 0, .slice none 0 0, .slice none 0 0, .slice none 0 0, .int .i64 0, .string ⟨#[]⟩, .string ⟨#[]⟩, .int .u64 0, .int .i64 0] 50
      simpa using this
    go_enter Try.func30, Try.ntmps30
    go_upto_region 1 with (fail)
    generalize ((((w.alloc (.cells (dmX M d) 69)).alloc (.cells (acc26 q ⟨1, i, ver, word, b, x⟩).toArray 39)).alloc (.cells #[.int .i64 0, .int .i64 0, .slice none 0 0, .slice none 0 0, .slice none 0 0] 69)).alloc (.cells #[.bool false, .int .u64 0, .int .u64 0, .int .i64 0, .int .i64 0, .string ⟨#[]⟩, .string ⟨#[]⟩, .bool false, .int .i64 0, .slice none 0 0, .slice none 0 0, .slice none 0 0, .int .i64 0, .int .i64 0, .string ⟨#[]⟩, .int .u64 0, .slice none 0 0, .slice none 0 0, .slice none 0 0, .slice none 0 0, .int .i64 0, .string ⟨#[]⟩, .string ⟨#[]⟩, .int .u64 0, .int .i64 0] 50)) = w1 at hB BX BA BM BR ⊢
    have h1 := h.below hB
    have c0 : w1.cell? ⟨w.heap.size, 0, none⟩ = some (.int .i64 M.A) := BX.at 0 rfl
    have c1 : w1.cell? ⟨w.heap.size, 1, none⟩ = some (.int .i64 M.T) := BX.at 1 rfl
    have c2 : w1.cell? ⟨w.heap.size, 2, none⟩ = some (.slice d.h1.a M.L.length d.h1.c) := BX.at 2 rfl
    have c3 : w1.cell? ⟨w.heap.size, 3, none⟩ = some (.slice d.h2.a M.B.length d.h2.c) := BX.at 3 rfl
    have c4 : w1.cell? ⟨w.heap.size, 4, none⟩ = some (.slice d.h3.a M.R.length d.h3.c) := BX.at 4 rfl
    have a0 : w1.cell? ⟨w.heap.size + 1, 0, none⟩ = some (.int .i64 1) := BA.at 0 rfl
    have a1 : w1.cell? ⟨w.heap.size + 1, 1, none⟩ = some (.int .i64 i) := BA.at 1 rfl
    have a2 : w1.cell? ⟨w.heap.size + 1, 2, none⟩ = some (.int .u64 ver) := BA.at 2 rfl
    have a3 : w1.cell? ⟨w.heap.size + 1, 3, none⟩ = some (.int .u64 word) := BA.at 3 rfl
    have FA : Fr [w.heap.size + 2] (w1) ((w1).setRow (w.heap.size + 2) (ddM M d)) := Fr.row (S := [w.heap.size + 2]) (w := w1) (w.heap.size + 2) (ddM M d) (by simp)
    have MA := Blk.row BM (ddM M d)
    have RA := FA.blk BR (by simp)
    have RAB := Blk.row RA (ddR false)
    have MAB := (Fr.row (S := [w.heap.size + 3]) (w.heap.size + 3) (ddR false) (by simp)).blk MA (by simp)
    go_wp2_with (first
      | (refine wpList_load_row rfl 69 _ rfl w.heap.size rfl 69 _ (0, 0) _ (BX).h Try.underlying69 rfl (by kernel_rfl) ?_)
      | (refine wpList_store_row rfl 69 _ _ rfl (w.heap.size + 2) (ddM M d) rfl rfl 69 _ (BM).h (by kernel_rfl) (by rfl) (by kernel_rfl) ?_)
      | (refine wpList_store_row rfl 50 _ _ rfl (w.heap.size + 3) (ddR false) rfl rfl 50 _ RA.h (by kernel_rfl) (by rfl) (by kernel_rfl) ?_))
    refine bodyPost_ret (res_cc rfl _ _ (w.heap.size + 2) 69 (ddM M d) (0, 0) _ (w.heap.size + 3) 50 (ddR false) (0, 0) _ rfl MAB.h Try.underlying69 rfl (by kernel_rfl) rfl RAB.h Try.underlying50 rfl (by kernel_rfl)) rfl ?_
    exact didd_no h (below_two hB) hD false hR
  · have h0' : 0 ≤ i := by omega
    have h1' : (M.L.length : Int) ≤ i := by omega
    have h2' : (M.T : Int) ≤ i := by omega
    have hB : Below w.heap.size w ((((w.alloc (.cells (dmX M d) 69)).alloc (.cells (acc26 q ⟨1, i, ver, word, b, x⟩).toArray 39)).alloc (.cells #[.int .i64 0, .int .i64 0, .slice none 0 0, .slice none 0 0, .slice none 0 0] 69)).alloc (.cells #[.bool false, .int .u64 0, .int .u64 0, .int .i64 0, .int .i64 0, .string ⟨#[]⟩, .string ⟨#[]⟩, .bool false, .int .i64 0, .slice none 0 0, .slice none 0 0, .slice none 0 0, .int .i64 0, .int .i64 0, .string ⟨#[]⟩, .int .u64 0, .slice none 0 0, .slice none 0 0, .slice none 0 0, .slice none 0 0, .int .i64 0, .string ⟨#[]⟩, .string ⟨#[]⟩, .int .u64 0, .int .i64 0] 50)) := by (repeat (first | exact Below.refl _ _ | assumption | refine below_alloc2 ?_ (by first | exact Nat.le_refl _ | omega) _ | refine Below.drew ?_ | refine below_drewN ?_ _ | refine below_push2 ?_ ‹_› (by first | exact Nat.le_refl _ | omega) | refine Below.setCell ?_ (by first | (simp; done) | (simp; omega) | omega) _))
    have BX := (((Blk.new w (dmX M d) 69).alloc (.cells (acc26 q ⟨1, i, ver, word, b, x⟩).toArray 39)).alloc (.cells #[.int .i64 0, .int .i64 0, .slice none 0 0, .slice none 0 0, .slice none 0 0] 69)).alloc (.cells #[.bool false, .int .u64 0, .int .u64 0, .int .i64 0, .int .i64 0, .string ⟨#[]⟩, .string ⟨#[]⟩, .bool false, .int .i64 0, .slice none 0 0, .slice none 0 0, .slice none 0 0, .int .i64 0, .int .i64 0, .string ⟨#[]⟩, .int .u64 0, .slice none 0 0, .slice none 0 0, .slice none 0 0, .slice none 0 0, .int .i64 0, .string ⟨#[]⟩, .string ⟨#[]⟩, .int .u64 0, .int .i64 0] 50)
    have BA : Blk ((((w.alloc (.cells (dmX M d) 69)).alloc (.cells (acc26 q ⟨1, i, ver, word, b, x⟩).toArray 39)).alloc (.cells #[.int .i64 0, .int .i64 0, .slice none 0 0, .slice none 0 0, .slice none 0 0] 69)).alloc (.cells #[.bool false, .int .u64 0, .int .u64 0, .int .i64 0, .int .i64 0, .string ⟨#[]⟩, .string ⟨#[]⟩, .bool false, .int .i64 0, .slice none 0 0, .slice none 0 0, .slice none 0 0, .int .i64 0, .int .i64 0, .string ⟨#[]⟩, .int .u64 0, .slice none 0 0, .slice none 0 0, .slice none 0 0, .slice none 0 0, .int .i64 0, .string ⟨#[]⟩, .string ⟨#[]⟩, .int .u64 0, .int .i64 0] 50)) (w.heap.size + 1) (acc26 q ⟨1, i, ver, word, b, x⟩).toArray 39 := by
      have := ((Blk.new (w.alloc (.cells (dmX M d) 69)) (acc26 q ⟨1, i, ver, word, b, x⟩).toArray 39).alloc (.cells #[.int .i64 0, .int .i64 0, .slice none 0 0, .slice none 0 0, .slice none 0 0] 69)).alloc (.cells #[.bool false, .int .u64 0, .int .u64 0, .int .i64 0, .int .i64 0, .string ⟨#[]⟩, .string ⟨#[]⟩, .bool false, .int .i64 0, .slice none 0 0, .slice none 0 0, .slice none 0 0, .int .i64 0, .int .i64 0, .string ⟨#[]⟩, .int .u64 0, .slice none 0 0, .slice none 0 0, .slice none 0 0, .slice none 0 0, .int .i64 0, .string ⟨#[]⟩, .string ⟨#[]⟩, .int .u64 0, .int .i64 0] 50)
      simpa using this
    have BM : Blk ((((w.alloc (.cells (dmX M d) 69)).alloc (.cells (acc26 q ⟨1, i, ver, word, b, x⟩).toArray 39)).alloc (.cells #[.int .i64 0, .int .i64 0, .slice none 0 0, .slice none 0 0, .slice none 0 0] 69)).alloc (.cells #[.bool false, .int .u64 0, .int .u64 0, .int .i64 0, .int .i64 0, .string ⟨#[]⟩, .string ⟨#[]⟩, .bool false, .int .i64 0, .slice none 0 0, .slice none 0 0, .slice none 0 0, .int .i64 0, .int .i64 0, .string ⟨#[]⟩, .int .u64 0, .slice none 0 0, .slice none 0 0, .slice none 0 0, .slice none 0 0, .int .i64 0, .string ⟨#[]⟩, .string ⟨#[]⟩, .int .u64 0, .int .i64 0] 50)) (w.heap.size + 2) #[.int .i64 0, .int .i64 0, .slice none 0 0, .slice none 0 0, .slice none 0 0] 69 := by
      have := (Blk.new ((w.alloc (.cells (dmX M d) 69)).alloc (.cells (acc26 q ⟨1, i, ver, word, b, x⟩).toArray 39)) #[.int .i64 0, .int .i64 0, .slice none 0 0, .slice none 0 0, .slice none 0 0] 69).alloc (.cells #[.bool false, .int .u64 0, .int .u64 0, .int .i64 0, .int .i64 0, .string ⟨#[]⟩, .string ⟨#[]⟩, .bool false, .int .i64 0, .slice none 0 0, .slice none 0 0, .slice none 0 0, .int .i64 0, .int .i64 0, .string ⟨#[]⟩, .int .u64 0, .slice none 0 0, .slice none 0 0, .slice none 0 0, .slice none 0 0, .int .i64 0, .string ⟨#[]⟩, .string ⟨#[]⟩, .int .u64 0, .int .i64 0] 50)
      simpa using this
    have BR : Blk ((((w.alloc (.cells (dmX M d) 69)).alloc (.cells (acc26 q ⟨1, i, ver, word, b, x⟩).toArray 39)).alloc (.cells #[.int .i64 0, .int .i64 0, .slice none 0 0, .slice none 0 0, .slice none 0 0] 69)).alloc (.cells #[.bool false, .int .u64 0, .int .u64 0, .int .i64 0, .int .i64 0, .string ⟨#[]⟩, .string ⟨#[]⟩, .bool false, .int .i64 0, .slice none 0 0, .slice none 0 0, .slice none 0 0, .int .i64 0, .int .i64 0, .string ⟨#[]⟩, .int .u64 0, .slice none 0 0, .slice none 0 0, .slice none 0 0, .slice none 0 0, .int .i64 0, .string ⟨#[]⟩, .string ⟨#[]⟩, .int .u64 0, .int .i64 0] 50)) (w.heap.size + 3) #[.bool false, .int .u64 0, .int .u64 0, .int .i64 0, .int .i64 0, .string ⟨#[]⟩, .string ⟨#[]⟩, .bool false, .int .i64 0, .slice none 0 0, .slice none 0 0, .slice none 0 0, .int .i64 0, .int .i64 0, .string ⟨#[]⟩, .int .u64 0, .slice none 0 0, .slice none 0 0, .slice none 0 0, .slice none 0 0, .int .i64 0, .string ⟨#[]⟩, .string ⟨#[]⟩, .int .u64 0, .int .i64 0] 50 := by
      have := Blk.new (((w.alloc (.cells (dmX M d) 69)).alloc (.cells (acc26 q ⟨1, i, ver, word, b, x⟩).toArray 39)).alloc (.cells #[.int .i64 0, .int .i64 0, .slice none 0 0, .slice none 0 0, .slice none 0 0] 69)) #[.bool false, .int .u64 0, .int .u64 0, .int .i64 0, .int .i64 0, .string ⟨#[]⟩, .string ⟨#[]⟩, .bool false, .int .i64 0, .slice none 0 0, .slice none 0 0, .slice none 0 0, .int .i64 0, .int .i64 0, .string ⟨#[]⟩, .int .u64 0, .slice none 0 0, .slice none 0 0, .slice none 0 0, .slice none 0 0, .int .i64 0, .string ⟨#[]⟩, .string ⟨#[]⟩, .int .u64 0, .int .i64 0] 50
      simpa using this
    go_enter Try.func30, Try.ntmps30
    go_upto_region 1 with (fail)
    generalize ((((w.alloc (.cells (dmX M d) 69)).alloc (.cells (acc26 q ⟨1, i, ver, word, b, x⟩).toArray 39)).alloc (.cells #[.int .i64 0, .int .i64 0, .slice none 0 0, .slice none 0 0, .slice none 0 0] 69)).alloc (.cells #[.bool false, .int .u64 0, .int .u64 0, .int .i64 0, .int .i64 0, .string ⟨#[]⟩, .string ⟨#[]⟩, .bool false, .int .i64 0, .slice none 0 0, .slice none 0 0, .slice none 0 0, .int .i64 0, .int .i64 0, .string ⟨#[]⟩, .int .u64 0, .slice none 0 0, .slice none 0 0, .slice none 0 0, .slice none 0 0, .int .i64 0, .string ⟨#[]⟩, .string ⟨#[]⟩, .int .u64 0, .int .i64 0] 50)) = w1 at hB BX BA BM BR ⊢
    have h1 := h.below hB
    have c0 : w1.cell? ⟨w.heap.size, 0, none⟩ = some (.int .i64 M.A) := BX.at 0 rfl
    have c1 : w1.cell? ⟨w.heap.size, 1, none⟩ = some (.int .i64 M.T) := BX.at 1 rfl
    have c2 : w1.cell? ⟨w.heap.size, 2, none⟩ = some (.slice d.h1.a M.L.length d.h1.c) := BX.at 2 rfl
    have c3 : w1.cell? ⟨w.heap.size, 3, none⟩ = some (.slice d.h2.a M.B.length d.h2.c) := BX.at 3 rfl
    have c4 : w1.cell? ⟨w.heap.size, 4, none⟩ = some (.slice d.h3.a M.R.length d.h3.c) := BX.at 4 rfl
    have a0 : w1.cell? ⟨w.heap.size + 1, 0, none⟩ = some (.int .i64 1) := BA.at 0 rfl
    have a1 : w1.cell? ⟨w.heap.size + 1, 1, none⟩ = some (.int .i64 i) := BA.at 1 rfl
    have a2 : w1.cell? ⟨w.heap.size + 1, 2, none⟩ = some (.int .u64 ver) := BA.at 2 rfl
    have a3 : w1.cell? ⟨w.heap.size + 1, 3, none⟩ = some (.int .u64 word) := BA.at 3 rfl
    have FA : Fr [w.heap.size + 2] (w1) ((w1).setRow (w.heap.size + 2) (ddM M d)) := Fr.row (S := [w.heap.size + 2]) (w := w1) (w.heap.size + 2) (ddM M d) (by simp)
    have MA := Blk.row BM (ddM M d)
    have RA := FA.blk BR (by simp)
    have RAB := Blk.row RA (ddR false)
    have MAB := (Fr.row (S := [w.heap.size + 3]) (w.heap.size + 3) (ddR false) (by simp)).blk MA (by simp)
    go_wp2_with (first
      | (refine wpList_load_row rfl 69 _ rfl w.heap.size rfl 69 _ (0, 0) _ (BX).h Try.underlying69 rfl (by kernel_rfl) ?_)
      | (refine wpList_store_row rfl 69 _ _ rfl (w.heap.size + 2) (ddM M d) rfl rfl 69 _ (BM).h (by kernel_rfl) (by rfl) (by kernel_rfl) ?_)
      | (refine wpList_store_row rfl 50 _ _ rfl (w.heap.size + 3) (ddR false) rfl rfl 50 _ RA.h (by kernel_rfl) (by rfl) (by kernel_rfl) ?_))
    refine bodyPost_ret (res_cc rfl _ _ (w.heap.size + 2) 69 (ddM M d) (0, 0) _ (w.heap.size + 3) 50 (ddR false) (0, 0) _ rfl MAB.h Try.underlying69 rfl (by kernel_rfl) rfl RAB.h Try.underlying50 rfl (by kernel_rfl)) rfl ?_
    exact didd_no h (below_two hB) hD false hR
end Go.Proofs.Ytpempcefgfmniaa.MemP
