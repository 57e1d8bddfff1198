/-
  memory.Do: contracts, of accesses to records, and of none that is known.
-/
import Derived.Deep.WholeRow
import Derived.Test.YtpempcefgfmniaaCarryOncePack3

namespace Go.Proofs.Ytpempcefgfmniaa.MemP
open Go.RowKit RefP CellP Dp
set_option linter.unusedVariables false
set_option linter.unusedSimpArgs false
/-- a reply that holds an operation -/
abbrev replyO (x : OpV) : Array Value := #[.bool true, .int .u64 0, .int .u64 0, .int .i64 0, .int .i64 0, .string ⟨#[]⟩, .string ⟨#[]⟩, .bool false, .int .i64 0, .slice none 0 0, .slice none 0 0, .slice none 0 0, .int .i64 0, .int .i64 0, .string ⟨#[]⟩, .int .u64 0, .slice none 0 0, .slice none 0 0, .slice none 0 0, .slice none 0 0, .int .i64 x.kind, .string x.key, .string x.upto, .int .u64 x.val, .int .i64 x.limit]
abbrev opA (x : OpV) : Array Value := #[.int .i64 x.kind, .string x.key, .string x.upto, .int .u64 x.val, .int .i64 x.limit]
theorem sets_replyO (x : OpV) : sets' #[.bool true, .int .u64 0, .int .u64 0, .int .i64 0, .int .i64 0, .string ⟨#[]⟩, .string ⟨#[]⟩, .bool false, .int .i64 0, .slice none 0 0, .slice none 0 0, .slice none 0 0, .int .i64 0, .int .i64 0, .string ⟨#[]⟩, .int .u64 0, .slice none 0 0, .slice none 0 0, .slice none 0 0, .slice none 0 0, .int .i64 0, .string ⟨#[]⟩, .string ⟨#[]⟩, .int .u64 0, .int .i64 0] 20 (opA x).toList = replyO x := by simp [sets']
theorem sets_raw5 (bs : List (List Value)) (k : Nat) (vs : List Value) (hk : k < bs.length) (hv : vs.length = 5) : sets' (rawA 5 bs) (k * 5) vs = rawA 5 (bs.set k vs) := by
  have hs : (rawA 5 bs).size = bs.length * 5 := recA_size _ _ _ _
  have hle : k * 5 + 5 ≤ bs.length * 5 := by omega
  refine recA_set k vs hk (by rw [sets_size, hs]) (fun j hj => ?_) (fun i' j hne hi' hj => ?_)
  · rw [sets_at vs _ _ j (by omega) (by rw [hs, hv]; exact hle)]
    have : j < vs.length := by omega
    simp [rawF, List.getD, this]
  · exact sets_off vs _ _ _ (by rw [hv]; omega)
theorem MemAt.recAt {w : World} {o oc g gb gr A T : Nat} {L : List (Int × Int)} {bs rs : List (List Value)} (h : MemAt w o oc g gb gr A T L bs rs) (k : Nat) (hk : k < T) (vs : List Value) (hv : vs.length = 5) :
    MemAt (w.setCells gr (k * 5) vs) o oc g gb gr A T L bs (rs.set k vs) := by
  have F := fr_sets' (S := [gr]) (b := gr) (by simp) vs (k * 5) w
  have hB := blk_sets' vs (k * 5) _ _ h.records
  rw [sets_raw5 rs k vs (by rw [h.lr]; exact hk) hv] at hB
  have n := h.ne
  exact ⟨F.blk h.head (by simp; omega), ⟨F.blk h.cells.head (by simp; omega), F.blk h.cells.rows (by simp; omega), h.cells.ne, h.cells.rng, h.cells.len⟩, F.blk h.blocks (by simp; omega), hB, h.len, h.lb, by simpa using h.lr, h.a1, h.t1, h.ne⟩
theorem raw5_at (l : List (List Value)) (i j : Nat) (hi : i < l.length) (hj : j < 5) : (rawA 5 l)[i * 5 + j]? = some (rawF (l.getD i []) j) := recA_at rawF [] l i j hi hj
set_option maxRecDepth 100000 in
set_option maxHeartbeats 3200000 in
theorem do_else {o oc g gb gr A T : Nat} {L : List (Int × Int)} {bs rs : List (List Value)} (k i ver word : Int) (c4 c5 c6 c7 c8 c9 c10 c11 c12 c13 c14 c15 c16 c17 c18 c19 c20 c21 c22 c23 c24 c25 : Value) (w : World) (h : MemAt w o oc g gb gr A T L bs rs) (hk : k < 1 ∨ 7 < k) :
    Calls Try.prog 12 #[.pointer (some ⟨o, 0, none⟩), .agg #[.int .i64 k, .int .i64 i, .int .u64 ver, .int .u64 word, c4, c5, c6, c7, c8, c9, c10, c11, c12, c13, c14, c15, c16, c17, c18, c19, c20, c21, c22, c23, c24, c25]] w fun e w' => e = .returned (.agg #[.bool false, .int .u64 0, .int .u64 0, .int .i64 0, .int .i64 0, .string ⟨#[]⟩, .string ⟨#[]⟩, .bool false, .int .i64 0, .slice none 0 0, .slice none 0 0, .slice none 0 0, .int .i64 0, .int .i64 0, .string ⟨#[]⟩, .int .u64 0, .slice none 0 0, .slice none 0 0, .slice none 0 0, .slice none 0 0, .int .i64 0, .string ⟨#[]⟩, .string ⟨#[]⟩, .int .u64 0, .int .i64 0]) ∧ Below w.heap.size w w' := by
  have k1 : k ≠ 1 := by omega
  have k2 : k ≠ 2 := by omega
  have k3 : k ≠ 3 := by omega
  have k4 : k ≠ 4 := by omega
  have k5 : k ≠ 5 := by omega
  have k6 : k ≠ 6 := by omega
  have k7 : k ≠ 7 := by omega
  have hb2 : Below w.heap.size w ((w.alloc (.cells #[.int .i64 k, .int .i64 i, .int .u64 ver, .int .u64 word, c4, c5, c6, c7, c8, c9, c10, c11, c12, c13, c14, c15, c16, c17, c18, c19, c20, c21, c22, c23, c24, c25] 39)).alloc (.cells #[.bool false, .int .u64 0, .int .u64 0, .int .i64 0, .int .i64 0, .string ⟨#[]⟩, .string ⟨#[]⟩, .bool false, .int .i64 0, .slice none 0 0, .slice none 0 0, .slice none 0 0, .int .i64 0, .int .i64 0, .string ⟨#[]⟩, .int .u64 0, .slice none 0 0, .slice none 0 0, .slice none 0 0, .slice none 0 0, .int .i64 0, .string ⟨#[]⟩, .string ⟨#[]⟩, .int .u64 0, .int .i64 0] 50)) := by (repeat (first | exact Below.refl _ _ | assumption | refine below_alloc2 ?_ (by first | exact Nat.le_refl _ | omega) _ | refine Below.drew ?_ | refine below_drewN ?_ _ | refine below_push2 ?_ ‹_› (by first | exact Nat.le_refl _ | omega) | refine Below.setCell ?_ (by first | (simp; done) | (simp; omega) | omega) _))
  have BX := (Blk.new w #[.int .i64 k, .int .i64 i, .int .u64 ver, .int .u64 word, c4, c5, c6, c7, c8, c9, c10, c11, c12, c13, c14, c15, c16, c17, c18, c19, c20, c21, c22, c23, c24, c25] 39).alloc (.cells #[.bool false, .int .u64 0, .int .u64 0, .int .i64 0, .int .i64 0, .string ⟨#[]⟩, .string ⟨#[]⟩, .bool false, .int .i64 0, .slice none 0 0, .slice none 0 0, .slice none 0 0, .int .i64 0, .int .i64 0, .string ⟨#[]⟩, .int .u64 0, .slice none 0 0, .slice none 0 0, .slice none 0 0, .slice none 0 0, .int .i64 0, .string ⟨#[]⟩, .string ⟨#[]⟩, .int .u64 0, .int .i64 0] 50)
  have BR : Blk ((w.alloc (.cells #[.int .i64 k, .int .i64 i, .int .u64 ver, .int .u64 word, c4, c5, c6, c7, c8, c9, c10, c11, c12, c13, c14, c15, c16, c17, c18, c19, c20, c21, c22, c23, c24, c25] 39)).alloc (.cells #[.bool false, .int .u64 0, .int .u64 0, .int .i64 0, .int .i64 0, .string ⟨#[]⟩, .string ⟨#[]⟩, .bool false, .int .i64 0, .slice none 0 0, .slice none 0 0, .slice none 0 0, .int .i64 0, .int .i64 0, .string ⟨#[]⟩, .int .u64 0, .slice none 0 0, .slice none 0 0, .slice none 0 0, .slice none 0 0, .int .i64 0, .string ⟨#[]⟩, .string ⟨#[]⟩, .int .u64 0, .int .i64 0] 50)) (w.heap.size + 1) #[.bool false, .int .u64 0, .int .u64 0, .int .i64 0, .int .i64 0, .string ⟨#[]⟩, .string ⟨#[]⟩, .bool false, .int .i64 0, .slice none 0 0, .slice none 0 0, .slice none 0 0, .int .i64 0, .int .i64 0, .string ⟨#[]⟩, .int .u64 0, .slice none 0 0, .slice none 0 0, .slice none 0 0, .slice none 0 0, .int .i64 0, .string ⟨#[]⟩, .string ⟨#[]⟩, .int .u64 0, .int .i64 0] 50 := by
    have := Blk.new (w.alloc (.cells #[.int .i64 k, .int .i64 i, .int .u64 ver, .int .u64 word, c4, c5, c6, c7, c8, c9, c10, c11, c12, c13, c14, c15, c16, c17, c18, c19, c20, c21, c22, c23, c24, c25] 39)) #[.bool false, .int .u64 0, .int .u64 0, .int .i64 0, .int .i64 0, .string ⟨#[]⟩, .string ⟨#[]⟩, .bool false, .int .i64 0, .slice none 0 0, .slice none 0 0, .slice none 0 0, .int .i64 0, .int .i64 0, .string ⟨#[]⟩, .int .u64 0, .slice none 0 0, .slice none 0 0, .slice none 0 0, .slice none 0 0, .int .i64 0, .string ⟨#[]⟩, .string ⟨#[]⟩, .int .u64 0, .int .i64 0] 50
    simpa using this
  have h2 := h.below hb2
  generalize hW : ((w.alloc (.cells #[.int .i64 k, .int .i64 i, .int .u64 ver, .int .u64 word, c4, c5, c6, c7, c8, c9, c10, c11, c12, c13, c14, c15, c16, c17, c18, c19, c20, c21, c22, c23, c24, c25] 39)).alloc (.cells #[.bool false, .int .u64 0, .int .u64 0, .int .i64 0, .int .i64 0, .string ⟨#[]⟩, .string ⟨#[]⟩, .bool false, .int .i64 0, .slice none 0 0, .slice none 0 0, .slice none 0 0, .int .i64 0, .int .i64 0, .string ⟨#[]⟩, .int .u64 0, .slice none 0 0, .slice none 0 0, .slice none 0 0, .slice none 0 0, .int .i64 0, .string ⟨#[]⟩, .string ⟨#[]⟩, .int .u64 0, .int .i64 0] 50)) = wq at hb2 h2 BX BR
  have b0 := BX.at 0 rfl
  have b1 := BX.at 1 rfl
  go_enter Try.func12, Try.ntmps12
  go_wp2_with fail
  refine (none_any _ h2).mono ?_
  rintro e w1 ⟨rfl, rfl⟩
  clear hW
  go_wp2_with (first
    | (refine wpList_load_row rfl 50 _ rfl (w.heap.size + 1) rfl 50 _ (0, 0) _ (BR).h Try.underlying50 rfl (by kernel_rfl) ?_)
    | (refine wpList_store_row rfl 50 _ _ rfl (w.heap.size + 1) _ rfl rfl 50 _ (BR).h (by kernel_rfl) (by rfl) (by kernel_rfl) ?_))
  refine bodyPost_ret (results_cell_row rfl _ _ (w.heap.size + 1) 50 #[.bool false, .int .u64 0, .int .u64 0, .int .i64 0, .int .i64 0, .string ⟨#[]⟩, .string ⟨#[]⟩, .bool false, .int .i64 0, .slice none 0 0, .slice none 0 0, .slice none 0 0, .int .i64 0, .int .i64 0, .string ⟨#[]⟩, .int .u64 0, .slice none 0 0, .slice none 0 0, .slice none 0 0, .slice none 0 0, .int .i64 0, .string ⟨#[]⟩, .string ⟨#[]⟩, .int .u64 0, .int .i64 0] (0, 0) _ rfl (Blk.row BR #[.bool false, .int .u64 0, .int .u64 0, .int .i64 0, .int .i64 0, .string ⟨#[]⟩, .string ⟨#[]⟩, .bool false, .int .i64 0, .slice none 0 0, .slice none 0 0, .slice none 0 0, .int .i64 0, .int .i64 0, .string ⟨#[]⟩, .int .u64 0, .slice none 0 0, .slice none 0 0, .slice none 0 0, .slice none 0 0, .int .i64 0, .string ⟨#[]⟩, .string ⟨#[]⟩, .int .u64 0, .int .i64 0]).h Try.underlying50 rfl (by kernel_rfl)) rfl ⟨rfl, below_setRow hb2 (by omega) _⟩
set_option maxRecDepth 100000 in
set_option maxHeartbeats 3200000 in
theorem do_read_no {o oc g gb gr A T : Nat} {L : List (Int × Int)} {bs rs : List (List Value)} (i ver word : Int) (c4 c5 c6 c7 c8 c9 c10 c11 c12 c13 c14 c15 c16 c17 c18 c19 c20 c21 c22 c23 c24 c25 : Value) (w : World) (h : MemAt w o oc g gb gr A T L bs rs) (hi : ¬ (0 ≤ i ∧ i < (T : Int))) :
    Calls Try.prog 12 #[.pointer (some ⟨o, 0, none⟩), .agg #[.int .i64 6, .int .i64 i, .int .u64 ver, .int .u64 word, c4, c5, c6, c7, c8, c9, c10, c11, c12, c13, c14, c15, c16, c17, c18, c19, c20, c21, c22, c23, c24, c25]] w fun e w' => e = .returned (.agg #[.bool false, .int .u64 0, .int .u64 0, .int .i64 0, .int .i64 0, .string ⟨#[]⟩, .string ⟨#[]⟩, .bool false, .int .i64 0, .slice none 0 0, .slice none 0 0, .slice none 0 0, .int .i64 0, .int .i64 0, .string ⟨#[]⟩, .int .u64 0, .slice none 0 0, .slice none 0 0, .slice none 0 0, .slice none 0 0, .int .i64 0, .string ⟨#[]⟩, .string ⟨#[]⟩, .int .u64 0, .int .i64 0]) ∧ Below w.heap.size w w' := by
  have hb2 : Below w.heap.size w ((w.alloc (.cells #[.int .i64 6, .int .i64 i, .int .u64 ver, .int .u64 word, c4, c5, c6, c7, c8, c9, c10, c11, c12, c13, c14, c15, c16, c17, c18, c19, c20, c21, c22, c23, c24, c25] 39)).alloc (.cells #[.bool false, .int .u64 0, .int .u64 0, .int .i64 0, .int .i64 0, .string ⟨#[]⟩, .string ⟨#[]⟩, .bool false, .int .i64 0, .slice none 0 0, .slice none 0 0, .slice none 0 0, .int .i64 0, .int .i64 0, .string ⟨#[]⟩, .int .u64 0, .slice none 0 0, .slice none 0 0, .slice none 0 0, .slice none 0 0, .int .i64 0, .string ⟨#[]⟩, .string ⟨#[]⟩, .int .u64 0, .int .i64 0] 50)) := by (repeat (first | exact Below.refl _ _ | assumption | refine below_alloc2 ?_ (by first | exact Nat.le_refl _ | omega) _ | refine Below.drew ?_ | refine below_drewN ?_ _ | refine below_push2 ?_ ‹_› (by first | exact Nat.le_refl _ | omega) | refine Below.setCell ?_ (by first | (simp; done) | (simp; omega) | omega) _))
  have BX := (Blk.new w #[.int .i64 6, .int .i64 i, .int .u64 ver, .int .u64 word, c4, c5, c6, c7, c8, c9, c10, c11, c12, c13, c14, c15, c16, c17, c18, c19, c20, c21, c22, c23, c24, c25] 39).alloc (.cells #[.bool false, .int .u64 0, .int .u64 0, .int .i64 0, .int .i64 0, .string ⟨#[]⟩, .string ⟨#[]⟩, .bool false, .int .i64 0, .slice none 0 0, .slice none 0 0, .slice none 0 0, .int .i64 0, .int .i64 0, .string ⟨#[]⟩, .int .u64 0, .slice none 0 0, .slice none 0 0, .slice none 0 0, .slice none 0 0, .int .i64 0, .string ⟨#[]⟩, .string ⟨#[]⟩, .int .u64 0, .int .i64 0] 50)
  have BR : Blk ((w.alloc (.cells #[.int .i64 6, .int .i64 i, .int .u64 ver, .int .u64 word, c4, c5, c6, c7, c8, c9, c10, c11, c12, c13, c14, c15, c16, c17, c18, c19, c20, c21, c22, c23, c24, c25] 39)).alloc (.cells #[.bool false, .int .u64 0, .int .u64 0, .int .i64 0, .int .i64 0, .string ⟨#[]⟩, .string ⟨#[]⟩, .bool false, .int .i64 0, .slice none 0 0, .slice none 0 0, .slice none 0 0, .int .i64 0, .int .i64 0, .string ⟨#[]⟩, .int .u64 0, .slice none 0 0, .slice none 0 0, .slice none 0 0, .slice none 0 0, .int .i64 0, .string ⟨#[]⟩, .string ⟨#[]⟩, .int .u64 0, .int .i64 0] 50)) (w.heap.size + 1) #[.bool false, .int .u64 0, .int .u64 0, .int .i64 0, .int .i64 0, .string ⟨#[]⟩, .string ⟨#[]⟩, .bool false, .int .i64 0, .slice none 0 0, .slice none 0 0, .slice none 0 0, .int .i64 0, .int .i64 0, .string ⟨#[]⟩, .int .u64 0, .slice none 0 0, .slice none 0 0, .slice none 0 0, .slice none 0 0, .int .i64 0, .string ⟨#[]⟩, .string ⟨#[]⟩, .int .u64 0, .int .i64 0] 50 := by
    have := Blk.new (w.alloc (.cells #[.int .i64 6, .int .i64 i, .int .u64 ver, .int .u64 word, c4, c5, c6, c7, c8, c9, c10, c11, c12, c13, c14, c15, c16, c17, c18, c19, c20, c21, c22, c23, c24, c25] 39)) #[.bool false, .int .u64 0, .int .u64 0, .int .i64 0, .int .i64 0, .string ⟨#[]⟩, .string ⟨#[]⟩, .bool false, .int .i64 0, .slice none 0 0, .slice none 0 0, .slice none 0 0, .int .i64 0, .int .i64 0, .string ⟨#[]⟩, .int .u64 0, .slice none 0 0, .slice none 0 0, .slice none 0 0, .slice none 0 0, .int .i64 0, .string ⟨#[]⟩, .string ⟨#[]⟩, .int .u64 0, .int .i64 0] 50
    simpa using this
  have h2 := h.below hb2
  generalize hW : ((w.alloc (.cells #[.int .i64 6, .int .i64 i, .int .u64 ver, .int .u64 word, c4, c5, c6, c7, c8, c9, c10, c11, c12, c13, c14, c15, c16, c17, c18, c19, c20, c21, c22, c23, c24, c25] 39)).alloc (.cells #[.bool false, .int .u64 0, .int .u64 0, .int .i64 0, .int .i64 0, .string ⟨#[]⟩, .string ⟨#[]⟩, .bool false, .int .i64 0, .slice none 0 0, .slice none 0 0, .slice none 0 0, .int .i64 0, .int .i64 0, .string ⟨#[]⟩, .int .u64 0, .slice none 0 0, .slice none 0 0, .slice none 0 0, .slice none 0 0, .int .i64 0, .string ⟨#[]⟩, .string ⟨#[]⟩, .int .u64 0, .int .i64 0] 50)) = wq at hb2 h2 BX BR
  have b0 := BX.at 0 rfl
  have b1 := BX.at 1 rfl
  go_enter Try.func12, Try.ntmps12
  go_wp2_with fail
  refine (none_any _ h2).mono ?_
  rintro e w1 ⟨rfl, rfl⟩
  clear hW
  have d10 : wq.cell? ⟨o, 10, none⟩ = some (.slice (some ⟨gr, 0, none⟩) T T) := h2.head.at 10 rfl
  have hT := h.t1
  have r0 := BR.at 0 rfl
  have fr0 := BR.free 0
  by_cases h0 : 0 ≤ i
  · have h1 : ¬ i < (T : Int) := by omega
    have g0 : decide (0 ≤ i) = true := by simpa using h0
    have g1 : decide (i < (T : Int)) = false := by simpa using h1
    go_upto_region 16 with (fail)
    refine QuietRow.tail_quiet 14 (by kernel_rfl) (by kernel_rfl) ?_
    simp only [List.take_succ_cons, List.take_zero, List.drop_succ_cons, List.drop_zero]
    iterate 14 (go_big_quiet_step (fail))
    refine wpQuiet_nil ?_
    have BR3 := (BR.drew).set 0 (.bool false)
    simp only [List.setIfInBounds_toArray, List.set_cons_zero] at BR3
    go_wp2_with (first
      | (refine wpList_load_row rfl 50 _ rfl (w.heap.size + 1) rfl 50 _ (0, 0) _ (BR3).h Try.underlying50 rfl (by kernel_rfl) ?_)
      | (refine wpList_store_row rfl 50 _ _ rfl (w.heap.size + 1) _ rfl rfl 50 _ (BR3).h (by kernel_rfl) (by rfl) (by kernel_rfl) ?_))
    refine bodyPost_ret (results_cell_row rfl _ _ (w.heap.size + 1) 50 #[.bool false, .int .u64 0, .int .u64 0, .int .i64 0, .int .i64 0, .string ⟨#[]⟩, .string ⟨#[]⟩, .bool false, .int .i64 0, .slice none 0 0, .slice none 0 0, .slice none 0 0, .int .i64 0, .int .i64 0, .string ⟨#[]⟩, .int .u64 0, .slice none 0 0, .slice none 0 0, .slice none 0 0, .slice none 0 0, .int .i64 0, .string ⟨#[]⟩, .string ⟨#[]⟩, .int .u64 0, .int .i64 0] (0, 0) _ rfl (Blk.row BR3 #[.bool false, .int .u64 0, .int .u64 0, .int .i64 0, .int .i64 0, .string ⟨#[]⟩, .string ⟨#[]⟩, .bool false, .int .i64 0, .slice none 0 0, .slice none 0 0, .slice none 0 0, .int .i64 0, .int .i64 0, .string ⟨#[]⟩, .int .u64 0, .slice none 0 0, .slice none 0 0, .slice none 0 0, .slice none 0 0, .int .i64 0, .string ⟨#[]⟩, .string ⟨#[]⟩, .int .u64 0, .int .i64 0]).h Try.underlying50 rfl (by kernel_rfl)) rfl ⟨rfl, below_setRow (hb2.drew.setCell (by simp) _) (by omega) _⟩
  · have g0 : decide (0 ≤ i) = false := by simpa using h0
    go_upto_region 16 with (fail)
    refine QuietRow.tail_quiet 14 (by kernel_rfl) (by kernel_rfl) ?_
    simp only [List.take_succ_cons, List.take_zero, List.drop_succ_cons, List.drop_zero]
    iterate 14 (go_big_quiet_step (fail))
    refine wpQuiet_nil ?_
    have BR3 := (BR.drew).set 0 (.bool false)
    simp only [List.setIfInBounds_toArray, List.set_cons_zero] at BR3
    go_wp2_with (first
      | (refine wpList_load_row rfl 50 _ rfl (w.heap.size + 1) rfl 50 _ (0, 0) _ (BR3).h Try.underlying50 rfl (by kernel_rfl) ?_)
      | (refine wpList_store_row rfl 50 _ _ rfl (w.heap.size + 1) _ rfl rfl 50 _ (BR3).h (by kernel_rfl) (by rfl) (by kernel_rfl) ?_))
    refine bodyPost_ret (results_cell_row rfl _ _ (w.heap.size + 1) 50 #[.bool false, .int .u64 0, .int .u64 0, .int .i64 0, .int .i64 0, .string ⟨#[]⟩, .string ⟨#[]⟩, .bool false, .int .i64 0, .slice none 0 0, .slice none 0 0, .slice none 0 0, .int .i64 0, .int .i64 0, .string ⟨#[]⟩, .int .u64 0, .slice none 0 0, .slice none 0 0, .slice none 0 0, .slice none 0 0, .int .i64 0, .string ⟨#[]⟩, .string ⟨#[]⟩, .int .u64 0, .int .i64 0] (0, 0) _ rfl (Blk.row BR3 #[.bool false, .int .u64 0, .int .u64 0, .int .i64 0, .int .i64 0, .string ⟨#[]⟩, .string ⟨#[]⟩, .bool false, .int .i64 0, .slice none 0 0, .slice none 0 0, .slice none 0 0, .int .i64 0, .int .i64 0, .string ⟨#[]⟩, .int .u64 0, .slice none 0 0, .slice none 0 0, .slice none 0 0, .slice none 0 0, .int .i64 0, .string ⟨#[]⟩, .string ⟨#[]⟩, .int .u64 0, .int .i64 0]).h Try.underlying50 rfl (by kernel_rfl)) rfl ⟨rfl, below_setRow (hb2.drew.setCell (by simp) _) (by omega) _⟩
set_option maxRecDepth 100000 in
set_option maxHeartbeats 3200000 in
theorem do_write_no {o oc g gb gr A T : Nat} {L : List (Int × Int)} {bs rs : List (List Value)} (i ver word : Int) (c4 c5 c6 c7 c8 c9 c10 c11 c12 c13 c14 c15 c16 c17 c18 c19 c20 c21 c22 c23 c24 c25 : Value) (w : World) (h : MemAt w o oc g gb gr A T L bs rs) (hi : ¬ (0 ≤ i ∧ i < (T : Int))) :
    Calls Try.prog 12 #[.pointer (some ⟨o, 0, none⟩), .agg #[.int .i64 7, .int .i64 i, .int .u64 ver, .int .u64 word, c4, c5, c6, c7, c8, c9, c10, c11, c12, c13, c14, c15, c16, c17, c18, c19, c20, c21, c22, c23, c24, c25]] w fun e w' => e = .returned (.agg #[.bool false, .int .u64 0, .int .u64 0, .int .i64 0, .int .i64 0, .string ⟨#[]⟩, .string ⟨#[]⟩, .bool false, .int .i64 0, .slice none 0 0, .slice none 0 0, .slice none 0 0, .int .i64 0, .int .i64 0, .string ⟨#[]⟩, .int .u64 0, .slice none 0 0, .slice none 0 0, .slice none 0 0, .slice none 0 0, .int .i64 0, .string ⟨#[]⟩, .string ⟨#[]⟩, .int .u64 0, .int .i64 0]) ∧ Below w.heap.size w w' := by
  have hb2 : Below w.heap.size w ((w.alloc (.cells #[.int .i64 7, .int .i64 i, .int .u64 ver, .int .u64 word, c4, c5, c6, c7, c8, c9, c10, c11, c12, c13, c14, c15, c16, c17, c18, c19, c20, c21, c22, c23, c24, c25] 39)).alloc (.cells #[.bool false, .int .u64 0, .int .u64 0, .int .i64 0, .int .i64 0, .string ⟨#[]⟩, .string ⟨#[]⟩, .bool false, .int .i64 0, .slice none 0 0, .slice none 0 0, .slice none 0 0, .int .i64 0, .int .i64 0, .string ⟨#[]⟩, .int .u64 0, .slice none 0 0, .slice none 0 0, .slice none 0 0, .slice none 0 0, .int .i64 0, .string ⟨#[]⟩, .string ⟨#[]⟩, .int .u64 0, .int .i64 0] 50)) := by (repeat (first | exact Below.refl _ _ | assumption | refine below_alloc2 ?_ (by first | exact Nat.le_refl _ | omega) _ | refine Below.drew ?_ | refine below_drewN ?_ _ | refine below_push2 ?_ ‹_› (by first | exact Nat.le_refl _ | omega) | refine Below.setCell ?_ (by first | (simp; done) | (simp; omega) | omega) _))
  have BX := (Blk.new w #[.int .i64 7, .int .i64 i, .int .u64 ver, .int .u64 word, c4, c5, c6, c7, c8, c9, c10, c11, c12, c13, c14, c15, c16, c17, c18, c19, c20, c21, c22, c23, c24, c25] 39).alloc (.cells #[.bool false, .int .u64 0, .int .u64 0, .int .i64 0, .int .i64 0, .string ⟨#[]⟩, .string ⟨#[]⟩, .bool false, .int .i64 0, .slice none 0 0, .slice none 0 0, .slice none 0 0, .int .i64 0, .int .i64 0, .string ⟨#[]⟩, .int .u64 0, .slice none 0 0, .slice none 0 0, .slice none 0 0, .slice none 0 0, .int .i64 0, .string ⟨#[]⟩, .string ⟨#[]⟩, .int .u64 0, .int .i64 0] 50)
  have BR : Blk ((w.alloc (.cells #[.int .i64 7, .int .i64 i, .int .u64 ver, .int .u64 word, c4, c5, c6, c7, c8, c9, c10, c11, c12, c13, c14, c15, c16, c17, c18, c19, c20, c21, c22, c23, c24, c25] 39)).alloc (.cells #[.bool false, .int .u64 0, .int .u64 0, .int .i64 0, .int .i64 0, .string ⟨#[]⟩, .string ⟨#[]⟩, .bool false, .int .i64 0, .slice none 0 0, .slice none 0 0, .slice none 0 0, .int .i64 0, .int .i64 0, .string ⟨#[]⟩, .int .u64 0, .slice none 0 0, .slice none 0 0, .slice none 0 0, .slice none 0 0, .int .i64 0, .string ⟨#[]⟩, .string ⟨#[]⟩, .int .u64 0, .int .i64 0] 50)) (w.heap.size + 1) #[.bool false, .int .u64 0, .int .u64 0, .int .i64 0, .int .i64 0, .string ⟨#[]⟩, .string ⟨#[]⟩, .bool false, .int .i64 0, .slice none 0 0, .slice none 0 0, .slice none 0 0, .int .i64 0, .int .i64 0, .string ⟨#[]⟩, .int .u64 0, .slice none 0 0, .slice none 0 0, .slice none 0 0, .slice none 0 0, .int .i64 0, .string ⟨#[]⟩, .string ⟨#[]⟩, .int .u64 0, .int .i64 0] 50 := by
    have := Blk.new (w.alloc (.cells #[.int .i64 7, .int .i64 i, .int .u64 ver, .int .u64 word, c4, c5, c6, c7, c8, c9, c10, c11, c12, c13, c14, c15, c16, c17, c18, c19, c20, c21, c22, c23, c24, c25] 39)) #[.bool false, .int .u64 0, .int .u64 0, .int .i64 0, .int .i64 0, .string ⟨#[]⟩, .string ⟨#[]⟩, .bool false, .int .i64 0, .slice none 0 0, .slice none 0 0, .slice none 0 0, .int .i64 0, .int .i64 0, .string ⟨#[]⟩, .int .u64 0, .slice none 0 0, .slice none 0 0, .slice none 0 0, .slice none 0 0, .int .i64 0, .string ⟨#[]⟩, .string ⟨#[]⟩, .int .u64 0, .int .i64 0] 50
    simpa using this
  have h2 := h.below hb2
  generalize hW : ((w.alloc (.cells #[.int .i64 7, .int .i64 i, .int .u64 ver, .int .u64 word, c4, c5, c6, c7, c8, c9, c10, c11, c12, c13, c14, c15, c16, c17, c18, c19, c20, c21, c22, c23, c24, c25] 39)).alloc (.cells #[.bool false, .int .u64 0, .int .u64 0, .int .i64 0, .int .i64 0, .string ⟨#[]⟩, .string ⟨#[]⟩, .bool false, .int .i64 0, .slice none 0 0, .slice none 0 0, .slice none 0 0, .int .i64 0, .int .i64 0, .string ⟨#[]⟩, .int .u64 0, .slice none 0 0, .slice none 0 0, .slice none 0 0, .slice none 0 0, .int .i64 0, .string ⟨#[]⟩, .string ⟨#[]⟩, .int .u64 0, .int .i64 0] 50)) = wq at hb2 h2 BX BR
  have b0 := BX.at 0 rfl
  have b1 := BX.at 1 rfl
  go_enter Try.func12, Try.ntmps12
  go_wp2_with fail
  refine (none_any _ h2).mono ?_
  rintro e w1 ⟨rfl, rfl⟩
  clear hW
  have d10 : wq.cell? ⟨o, 10, none⟩ = some (.slice (some ⟨gr, 0, none⟩) T T) := h2.head.at 10 rfl
  have hT := h.t1
  have r0 := BR.at 0 rfl
  have fr0 := BR.free 0
  by_cases h0 : 0 ≤ i
  · have h1 : ¬ i < (T : Int) := by omega
    have g0 : decide (0 ≤ i) = true := by simpa using h0
    have g1 : decide (i < (T : Int)) = false := by simpa using h1
    go_upto_region 20 with (fail)
    refine QuietRow.tail_quiet 14 (by kernel_rfl) (by kernel_rfl) ?_
    simp only [List.take_succ_cons, List.take_zero, List.drop_succ_cons, List.drop_zero]
    iterate 14 (go_big_quiet_step (fail))
    refine wpQuiet_nil ?_
    have BR3 := (BR.drew).set 0 (.bool false)
    simp only [List.setIfInBounds_toArray, List.set_cons_zero] at BR3
    go_wp2_with (first
      | (refine wpList_load_row rfl 50 _ rfl (w.heap.size + 1) rfl 50 _ (0, 0) _ (BR3).h Try.underlying50 rfl (by kernel_rfl) ?_)
      | (refine wpList_store_row rfl 50 _ _ rfl (w.heap.size + 1) _ rfl rfl 50 _ (BR3).h (by kernel_rfl) (by rfl) (by kernel_rfl) ?_))
    refine bodyPost_ret (results_cell_row rfl _ _ (w.heap.size + 1) 50 #[.bool false, .int .u64 0, .int .u64 0, .int .i64 0, .int .i64 0, .string ⟨#[]⟩, .string ⟨#[]⟩, .bool false, .int .i64 0, .slice none 0 0, .slice none 0 0, .slice none 0 0, .int .i64 0, .int .i64 0, .string ⟨#[]⟩, .int .u64 0, .slice none 0 0, .slice none 0 0, .slice none 0 0, .slice none 0 0, .int .i64 0, .string ⟨#[]⟩, .string ⟨#[]⟩, .int .u64 0, .int .i64 0] (0, 0) _ rfl (Blk.row BR3 #[.bool false, .int .u64 0, .int .u64 0, .int .i64 0, .int .i64 0, .string ⟨#[]⟩, .string ⟨#[]⟩, .bool false, .int .i64 0, .slice none 0 0, .slice none 0 0, .slice none 0 0, .int .i64 0, .int .i64 0, .string ⟨#[]⟩, .int .u64 0, .slice none 0 0, .slice none 0 0, .slice none 0 0, .slice none 0 0, .int .i64 0, .string ⟨#[]⟩, .string ⟨#[]⟩, .int .u64 0, .int .i64 0]).h Try.underlying50 rfl (by kernel_rfl)) rfl ⟨rfl, below_setRow (hb2.drew.setCell (by simp) _) (by omega) _⟩
  · have g0 : decide (0 ≤ i) = false := by simpa using h0
    go_upto_region 20 with (fail)
    refine QuietRow.tail_quiet 14 (by kernel_rfl) (by kernel_rfl) ?_
    simp only [List.take_succ_cons, List.take_zero, List.drop_succ_cons, List.drop_zero]
    iterate 14 (go_big_quiet_step (fail))
    refine wpQuiet_nil ?_
    have BR3 := (BR.drew).set 0 (.bool false)
    simp only [List.setIfInBounds_toArray, List.set_cons_zero] at BR3
    go_wp2_with (first
      | (refine wpList_load_row rfl 50 _ rfl (w.heap.size + 1) rfl 50 _ (0, 0) _ (BR3).h Try.underlying50 rfl (by kernel_rfl) ?_)
      | (refine wpList_store_row rfl 50 _ _ rfl (w.heap.size + 1) _ rfl rfl 50 _ (BR3).h (by kernel_rfl) (by rfl) (by kernel_rfl) ?_))
    refine bodyPost_ret (results_cell_row rfl _ _ (w.heap.size + 1) 50 #[.bool false, .int .u64 0, .int .u64 0, .int .i64 0, .int .i64 0, .string ⟨#[]⟩, .string ⟨#[]⟩, .bool false, .int .i64 0, .slice none 0 0, .slice none 0 0, .slice none 0 0, .int .i64 0, .int .i64 0, .string ⟨#[]⟩, .int .u64 0, .slice none 0 0, .slice none 0 0, .slice none 0 0, .slice none 0 0, .int .i64 0, .string ⟨#[]⟩, .string ⟨#[]⟩, .int .u64 0, .int .i64 0] (0, 0) _ rfl (Blk.row BR3 #[.bool false, .int .u64 0, .int .u64 0, .int .i64 0, .int .i64 0, .string ⟨#[]⟩, .string ⟨#[]⟩, .bool false, .int .i64 0, .slice none 0 0, .slice none 0 0, .slice none 0 0, .int .i64 0, .int .i64 0, .string ⟨#[]⟩, .int .u64 0, .slice none 0 0, .slice none 0 0, .slice none 0 0, .slice none 0 0, .int .i64 0, .string ⟨#[]⟩, .string ⟨#[]⟩, .int .u64 0, .int .i64 0]).h Try.underlying50 rfl (by kernel_rfl)) rfl ⟨rfl, below_setRow (hb2.drew.setCell (by simp) _) (by omega) _⟩
set_option maxRecDepth 100000 in
set_option maxHeartbeats 3200000 in
theorem do_read_yes {o oc g gb gr A T : Nat} {L : List (Int × Int)} {bs rs : List (List Value)} (i ver word : Int) (c4 c5 c6 c7 c8 c9 c10 c11 c12 c13 c14 c15 c16 c17 c18 c19 c20 c21 c22 c23 c24 c25 : Value) (k : Nat) (x : OpV) (w : World) (h : MemAt w o oc g gb gr A T L bs rs) (hi : i = (k : Int)) (hk : k < T) (hx : rs.getD k [] = opL x) :
    Calls Try.prog 12 #[.pointer (some ⟨o, 0, none⟩), .agg #[.int .i64 6, .int .i64 i, .int .u64 ver, .int .u64 word, c4, c5, c6, c7, c8, c9, c10, c11, c12, c13, c14, c15, c16, c17, c18, c19, c20, c21, c22, c23, c24, c25]] w fun e w' => e = .returned (.agg (replyO x)) ∧ Below w.heap.size w w' := by
  subst hi
  have hb2 : Below w.heap.size w ((w.alloc (.cells #[.int .i64 6, .int .i64 (k : Int), .int .u64 ver, .int .u64 word, c4, c5, c6, c7, c8, c9, c10, c11, c12, c13, c14, c15, c16, c17, c18, c19, c20, c21, c22, c23, c24, c25] 39)).alloc (.cells #[.bool false, .int .u64 0, .int .u64 0, .int .i64 0, .int .i64 0, .string ⟨#[]⟩, .string ⟨#[]⟩, .bool false, .int .i64 0, .slice none 0 0, .slice none 0 0, .slice none 0 0, .int .i64 0, .int .i64 0, .string ⟨#[]⟩, .int .u64 0, .slice none 0 0, .slice none 0 0, .slice none 0 0, .slice none 0 0, .int .i64 0, .string ⟨#[]⟩, .string ⟨#[]⟩, .int .u64 0, .int .i64 0] 50)) := by (repeat (first | exact Below.refl _ _ | assumption | refine below_alloc2 ?_ (by first | exact Nat.le_refl _ | omega) _ | refine Below.drew ?_ | refine below_drewN ?_ _ | refine below_push2 ?_ ‹_› (by first | exact Nat.le_refl _ | omega) | refine Below.setCell ?_ (by first | (simp; done) | (simp; omega) | omega) _))
  have BX := (Blk.new w #[.int .i64 6, .int .i64 (k : Int), .int .u64 ver, .int .u64 word, c4, c5, c6, c7, c8, c9, c10, c11, c12, c13, c14, c15, c16, c17, c18, c19, c20, c21, c22, c23, c24, c25] 39).alloc (.cells #[.bool false, .int .u64 0, .int .u64 0, .int .i64 0, .int .i64 0, .string ⟨#[]⟩, .string ⟨#[]⟩, .bool false, .int .i64 0, .slice none 0 0, .slice none 0 0, .slice none 0 0, .int .i64 0, .int .i64 0, .string ⟨#[]⟩, .int .u64 0, .slice none 0 0, .slice none 0 0, .slice none 0 0, .slice none 0 0, .int .i64 0, .string ⟨#[]⟩, .string ⟨#[]⟩, .int .u64 0, .int .i64 0] 50)
  have BR : Blk ((w.alloc (.cells #[.int .i64 6, .int .i64 (k : Int), .int .u64 ver, .int .u64 word, c4, c5, c6, c7, c8, c9, c10, c11, c12, c13, c14, c15, c16, c17, c18, c19, c20, c21, c22, c23, c24, c25] 39)).alloc (.cells #[.bool false, .int .u64 0, .int .u64 0, .int .i64 0, .int .i64 0, .string ⟨#[]⟩, .string ⟨#[]⟩, .bool false, .int .i64 0, .slice none 0 0, .slice none 0 0, .slice none 0 0, .int .i64 0, .int .i64 0, .string ⟨#[]⟩, .int .u64 0, .slice none 0 0, .slice none 0 0, .slice none 0 0, .slice none 0 0, .int .i64 0, .string ⟨#[]⟩, .string ⟨#[]⟩, .int .u64 0, .int .i64 0] 50)) (w.heap.size + 1) #[.bool false, .int .u64 0, .int .u64 0, .int .i64 0, .int .i64 0, .string ⟨#[]⟩, .string ⟨#[]⟩, .bool false, .int .i64 0, .slice none 0 0, .slice none 0 0, .slice none 0 0, .int .i64 0, .int .i64 0, .string ⟨#[]⟩, .int .u64 0, .slice none 0 0, .slice none 0 0, .slice none 0 0, .slice none 0 0, .int .i64 0, .string ⟨#[]⟩, .string ⟨#[]⟩, .int .u64 0, .int .i64 0] 50 := by
    have := Blk.new (w.alloc (.cells #[.int .i64 6, .int .i64 (k : Int), .int .u64 ver, .int .u64 word, c4, c5, c6, c7, c8, c9, c10, c11, c12, c13, c14, c15, c16, c17, c18, c19, c20, c21, c22, c23, c24, c25] 39)) #[.bool false, .int .u64 0, .int .u64 0, .int .i64 0, .int .i64 0, .string ⟨#[]⟩, .string ⟨#[]⟩, .bool false, .int .i64 0, .slice none 0 0, .slice none 0 0, .slice none 0 0, .int .i64 0, .int .i64 0, .string ⟨#[]⟩, .int .u64 0, .slice none 0 0, .slice none 0 0, .slice none 0 0, .slice none 0 0, .int .i64 0, .string ⟨#[]⟩, .string ⟨#[]⟩, .int .u64 0, .int .i64 0] 50
    simpa using this
  have h2 := h.below hb2
  generalize hW : ((w.alloc (.cells #[.int .i64 6, .int .i64 (k : Int), .int .u64 ver, .int .u64 word, c4, c5, c6, c7, c8, c9, c10, c11, c12, c13, c14, c15, c16, c17, c18, c19, c20, c21, c22, c23, c24, c25] 39)).alloc (.cells #[.bool false, .int .u64 0, .int .u64 0, .int .i64 0, .int .i64 0, .string ⟨#[]⟩, .string ⟨#[]⟩, .bool false, .int .i64 0, .slice none 0 0, .slice none 0 0, .slice none 0 0, .int .i64 0, .int .i64 0, .string ⟨#[]⟩, .int .u64 0, .slice none 0 0, .slice none 0 0, .slice none 0 0, .slice none 0 0, .int .i64 0, .string ⟨#[]⟩, .string ⟨#[]⟩, .int .u64 0, .int .i64 0] 50)) = wq at hb2 h2 BX BR
  have b0 := BX.at 0 rfl
  have b1 := BX.at 1 rfl
  go_enter Try.func12, Try.ntmps12
  go_wp2_with fail
  refine (none_any _ h2).mono ?_
  rintro e w1 ⟨rfl, rfl⟩
  clear hW
  have d10 : wq.cell? ⟨o, 10, none⟩ = some (.slice (some ⟨gr, 0, none⟩) T T) := h2.head.at 10 rfl
  have hT := h.t1
  have hlr := h.lr
  have r0 := BR.at 0 rfl
  have fr0 := BR.free 0
  have h0 : (0 : Int) ≤ (k : Int) := by omega
  have h1 : (k : Int) < (T : Int) := by omega
  have g0 : decide ((0 : Int) ≤ (k : Int)) = true := by simp
  have g1 : decide (k < T) = true := by simpa using hk
  go_upto_region 16 with (fail)
  refine QuietRow.tail_quiet 14 (by kernel_rfl) (by kernel_rfl) ?_
  simp only [List.take_succ_cons, List.take_zero, List.drop_succ_cons, List.drop_zero]
  iterate 14 (go_big_quiet_step (fail))
  refine wpQuiet_nil ?_
  have BR3 := (BR.set 0 (.bool true)).drew
  simp only [List.setIfInBounds_toArray, List.set_cons_zero] at BR3
  have F3 : Fr [w.heap.size + 1] wq ((wq.setCell ⟨w.heap.size + 1, 0, none⟩ (.bool true)).drew) := ((Fr.refl _ wq).set _ _ (.inl (by simp))).trans (Fr.of_below ((Below.refl _ _).drew))
  have B3 := (hb2.setCell (p := ⟨w.heap.size + 1, 0, none⟩) (by simp) (.bool true)).drew
  have hol := h.head.lt
  have hocl := h.cells.head.lt
  have hgl := h.cells.rows.lt
  have hgbl := h.blocks.lt
  have hgrl := h.records.lt
  have M3 := h2.off F3 (by simp; omega)
  have BX3 := F3.blk BX (by simp)
  go_upto_region 18 with (fail)
  generalize hW : (wq.setCell ⟨w.heap.size + 1, 0, none⟩ (.bool true)).drew = w3 at BR3 M3 BX3 B3 ⊢
  clear b0 b1 r0 fr0 d10 F3 BR BX
  have b1 := BX3.at 1 rfl
  have d10 : w3.cell? ⟨o, 10, none⟩ = some (.slice (some ⟨gr, 0, none⟩) T T) := M3.head.at 10 rfl
  have e0 : w3.cell? ⟨gr, k * 5, none⟩ = some (.int .i64 x.kind) := (M3.records.at _ (raw5_at rs k 0 (by omega) (by omega))).trans (by rw [hx]; rfl)
  have e1 : w3.cell? ⟨gr, k * 5 + 1, none⟩ = some (.string x.key) := (M3.records.at _ (raw5_at rs k 1 (by omega) (by omega))).trans (by rw [hx]; rfl)
  have e2 : w3.cell? ⟨gr, k * 5 + 2, none⟩ = some (.string x.upto) := (M3.records.at _ (raw5_at rs k 2 (by omega) (by omega))).trans (by rw [hx]; rfl)
  have e3 : w3.cell? ⟨gr, k * 5 + 3, none⟩ = some (.int .u64 x.val) := (M3.records.at _ (raw5_at rs k 3 (by omega) (by omega))).trans (by rw [hx]; rfl)
  have e4 : w3.cell? ⟨gr, k * 5 + 4, none⟩ = some (.int .i64 x.limit) := (M3.records.at _ (raw5_at rs k 4 (by omega) (by omega))).trans (by rw [hx]; rfl)
  clear hx hW h h2 hb2
  refine QuietRow.tail_quiet 9 (by kernel_rfl) (by kernel_rfl) ?_
  simp only [List.take_succ_cons, List.take_zero, List.drop_succ_cons, List.drop_zero]
  iterate 9 (go_big_quiet_step (fail))
  refine wpQuiet_nil ?_
  have hth := there_blk' (o := 20) (n := 5) BR3.drew (by decide)
  have BR4 := blk_sets' (opA x).toList 20 _ _ BR3.drew
  rw [sets_replyO] at BR4
  have B4 := below_sets' (b := w.heap.size + 1) (by omega) (opA x).toList 20 _ B3.drew
  generalize hX : w3.drew.setCells (w.heap.size + 1) 20 (opA x).toList = w4 at BR4 B4
  replace hX := Lib.hid hX
  go_wp2_with (first
    | (refine wpList_store_mid rfl 37 _ _ rfl (w.heap.size + 1) 20 (opA x) rfl rfl hth (by kernel_rfl) (by kernel_rfl) ?_; rw [hX.out])
    | (refine wpList_load_row rfl 50 _ rfl (w.heap.size + 1) rfl 50 _ (0, 0) _ BR4.h Try.underlying50 rfl (by kernel_rfl) ?_)
    | (refine wpList_store_row rfl 50 _ _ rfl (w.heap.size + 1) _ rfl rfl 50 _ BR4.h (by kernel_rfl) (by rfl) (by kernel_rfl) ?_))
  refine bodyPost_ret (results_cell_row rfl _ _ (w.heap.size + 1) 50 (replyO x) (0, 0) _ rfl (Blk.row BR4 (replyO x)).h Try.underlying50 rfl (by kernel_rfl)) rfl ⟨rfl, below_setRow B4 (by omega) _⟩
/-- the cells of an access that holds an operation -/
abbrev opacc (i ver word : Int) (c4 c5 c6 c7 c8 c9 c10 c11 c12 c13 c14 c15 c16 c17 c18 c19 c20 : Value) (x : OpV) : Array Value := #[.int .i64 7, .int .i64 i, .int .u64 ver, .int .u64 word, c4, c5, c6, c7, c8, c9, c10, c11, c12, c13, c14, c15, c16, c17, c18, c19, c20, .int .i64 x.kind, .string x.key, .string x.upto, .int .u64 x.val, .int .i64 x.limit]
set_option maxRecDepth 100000 in
set_option maxHeartbeats 3200000 in
theorem do_write_yes {o oc g gb gr A T : Nat} {L : List (Int × Int)} {bs rs : List (List Value)} (i ver word : Int) (c4 c5 c6 c7 c8 c9 c10 c11 c12 c13 c14 c15 c16 c17 c18 c19 c20 : Value) (k : Nat) (x : OpV) (w : World) (h : MemAt w o oc g gb gr A T L bs rs) (hi : i = (k : Int)) (hk : k < T) :
    Calls Try.prog 12 #[.pointer (some ⟨o, 0, none⟩), .agg (opacc i ver word c4 c5 c6 c7 c8 c9 c10 c11 c12 c13 c14 c15 c16 c17 c18 c19 c20 x)] w fun e w' => e = .returned (.agg #[.bool true, .int .u64 0, .int .u64 0, .int .i64 0, .int .i64 0, .string ⟨#[]⟩, .string ⟨#[]⟩, .bool false, .int .i64 0, .slice none 0 0, .slice none 0 0, .slice none 0 0, .int .i64 0, .int .i64 0, .string ⟨#[]⟩, .int .u64 0, .slice none 0 0, .slice none 0 0, .slice none 0 0, .slice none 0 0, .int .i64 0, .string ⟨#[]⟩, .string ⟨#[]⟩, .int .u64 0, .int .i64 0]) ∧ MemAt w' o oc g gb gr A T L bs (rs.set k (opL x)) ∧ Fr [gr] w w' := by
  subst hi
  have hb2 : Below w.heap.size w ((w.alloc (.cells (opacc k ver word c4 c5 c6 c7 c8 c9 c10 c11 c12 c13 c14 c15 c16 c17 c18 c19 c20 x) 39)).alloc (.cells #[.bool false, .int .u64 0, .int .u64 0, .int .i64 0, .int .i64 0, .string ⟨#[]⟩, .string ⟨#[]⟩, .bool false, .int .i64 0, .slice none 0 0, .slice none 0 0, .slice none 0 0, .int .i64 0, .int .i64 0, .string ⟨#[]⟩, .int .u64 0, .slice none 0 0, .slice none 0 0, .slice none 0 0, .slice none 0 0, .int .i64 0, .string ⟨#[]⟩, .string ⟨#[]⟩, .int .u64 0, .int .i64 0] 50)) := by (repeat (first | exact Below.refl _ _ | assumption | refine below_alloc2 ?_ (by first | exact Nat.le_refl _ | omega) _ | refine Below.drew ?_ | refine below_drewN ?_ _ | refine below_push2 ?_ ‹_› (by first | exact Nat.le_refl _ | omega) | refine Below.setCell ?_ (by first | (simp; done) | (simp; omega) | omega) _))
  have BX := (Blk.new w (opacc k ver word c4 c5 c6 c7 c8 c9 c10 c11 c12 c13 c14 c15 c16 c17 c18 c19 c20 x) 39).alloc (.cells #[.bool false, .int .u64 0, .int .u64 0, .int .i64 0, .int .i64 0, .string ⟨#[]⟩, .string ⟨#[]⟩, .bool false, .int .i64 0, .slice none 0 0, .slice none 0 0, .slice none 0 0, .int .i64 0, .int .i64 0, .string ⟨#[]⟩, .int .u64 0, .slice none 0 0, .slice none 0 0, .slice none 0 0, .slice none 0 0, .int .i64 0, .string ⟨#[]⟩, .string ⟨#[]⟩, .int .u64 0, .int .i64 0] 50)
  have BR : Blk ((w.alloc (.cells (opacc k ver word c4 c5 c6 c7 c8 c9 c10 c11 c12 c13 c14 c15 c16 c17 c18 c19 c20 x) 39)).alloc (.cells #[.bool false, .int .u64 0, .int .u64 0, .int .i64 0, .int .i64 0, .string ⟨#[]⟩, .string ⟨#[]⟩, .bool false, .int .i64 0, .slice none 0 0, .slice none 0 0, .slice none 0 0, .int .i64 0, .int .i64 0, .string ⟨#[]⟩, .int .u64 0, .slice none 0 0, .slice none 0 0, .slice none 0 0, .slice none 0 0, .int .i64 0, .string ⟨#[]⟩, .string ⟨#[]⟩, .int .u64 0, .int .i64 0] 50)) (w.heap.size + 1) #[.bool false, .int .u64 0, .int .u64 0, .int .i64 0, .int .i64 0, .string ⟨#[]⟩, .string ⟨#[]⟩, .bool false, .int .i64 0, .slice none 0 0, .slice none 0 0, .slice none 0 0, .int .i64 0, .int .i64 0, .string ⟨#[]⟩, .int .u64 0, .slice none 0 0, .slice none 0 0, .slice none 0 0, .slice none 0 0, .int .i64 0, .string ⟨#[]⟩, .string ⟨#[]⟩, .int .u64 0, .int .i64 0] 50 := by
    have := Blk.new (w.alloc (.cells (opacc k ver word c4 c5 c6 c7 c8 c9 c10 c11 c12 c13 c14 c15 c16 c17 c18 c19 c20 x) 39)) #[.bool false, .int .u64 0, .int .u64 0, .int .i64 0, .int .i64 0, .string ⟨#[]⟩, .string ⟨#[]⟩, .bool false, .int .i64 0, .slice none 0 0, .slice none 0 0, .slice none 0 0, .int .i64 0, .int .i64 0, .string ⟨#[]⟩, .int .u64 0, .slice none 0 0, .slice none 0 0, .slice none 0 0, .slice none 0 0, .int .i64 0, .string ⟨#[]⟩, .string ⟨#[]⟩, .int .u64 0, .int .i64 0] 50
    simpa using this
  have h2 := h.below hb2
  generalize hW : ((w.alloc (.cells (opacc k ver word c4 c5 c6 c7 c8 c9 c10 c11 c12 c13 c14 c15 c16 c17 c18 c19 c20 x) 39)).alloc (.cells #[.bool false, .int .u64 0, .int .u64 0, .int .i64 0, .int .i64 0, .string ⟨#[]⟩, .string ⟨#[]⟩, .bool false, .int .i64 0, .slice none 0 0, .slice none 0 0, .slice none 0 0, .int .i64 0, .int .i64 0, .string ⟨#[]⟩, .int .u64 0, .slice none 0 0, .slice none 0 0, .slice none 0 0, .slice none 0 0, .int .i64 0, .string ⟨#[]⟩, .string ⟨#[]⟩, .int .u64 0, .int .i64 0] 50)) = wq at hb2 h2 BX BR
  have b0 := BX.at 0 rfl
  have b1 := BX.at 1 rfl
  go_enter Try.func12, Try.ntmps12
  go_wp2_with fail
  refine (none_any _ h2).mono ?_
  rintro e w1 ⟨rfl, rfl⟩
  clear hW
  have d10 : wq.cell? ⟨o, 10, none⟩ = some (.slice (some ⟨gr, 0, none⟩) T T) := h2.head.at 10 rfl
  have hT := h.t1
  have hlr := h.lr
  have r0 := BR.at 0 rfl
  have fr0 := BR.free 0
  have h0 : (0 : Int) ≤ (k : Int) := by omega
  have h1 : (k : Int) < (T : Int) := by omega
  have g0 : decide ((0 : Int) ≤ (k : Int)) = true := by simp
  have g1 : decide (k < T) = true := by simpa using hk
  go_upto_region 20 with (fail)
  refine QuietRow.tail_quiet 14 (by kernel_rfl) (by kernel_rfl) ?_
  simp only [List.take_succ_cons, List.take_zero, List.drop_succ_cons, List.drop_zero]
  iterate 14 (go_big_quiet_step (fail))
  refine wpQuiet_nil ?_
  have BR3 := (BR.set 0 (.bool true)).drew
  simp only [List.setIfInBounds_toArray, List.set_cons_zero] at BR3
  have F3 : Fr [w.heap.size + 1] wq ((wq.setCell ⟨w.heap.size + 1, 0, none⟩ (.bool true)).drew) := ((Fr.refl _ wq).set _ _ (.inl (by simp))).trans (Fr.of_below ((Below.refl _ _).drew))
  have B3 := (hb2.setCell (p := ⟨w.heap.size + 1, 0, none⟩) (by simp) (.bool true)).drew
  have hol := h.head.lt
  have hocl := h.cells.head.lt
  have hgl := h.cells.rows.lt
  have hgbl := h.blocks.lt
  have hgrl := h.records.lt
  have M3 := h2.off F3 (by simp; omega)
  have BX3 := F3.blk BX (by simp)
  have hS3 := (Fr.of_below (S := [w.heap.size + 1]) hb2).trans (F3.more (S' := [w.heap.size + 1]) (by simp))
  go_upto_region 22 with (fail)
  generalize hW : (wq.setCell ⟨w.heap.size + 1, 0, none⟩ (.bool true)).drew = w3 at BR3 M3 BX3 B3 hS3 ⊢
  clear b0 b1 r0 fr0 d10 F3 BR BX
  have b1 := BX3.at 1 rfl
  have x21 := BX3.at 21 rfl
  have x22 := BX3.at 22 rfl
  have x23 := BX3.at 23 rfl
  have x24 := BX3.at 24 rfl
  have x25 := BX3.at 25 rfl
  have d10 : w3.cell? ⟨o, 10, none⟩ = some (.slice (some ⟨gr, 0, none⟩) T T) := M3.head.at 10 rfl
  clear hW h2 hb2
  refine QuietRow.tail_quiet 9 (by kernel_rfl) (by kernel_rfl) ?_
  simp only [List.take_succ_cons, List.take_zero, List.drop_succ_cons, List.drop_zero]
  iterate 9 (go_big_quiet_step (fail))
  refine wpQuiet_nil ?_
  have hth := there_blk' (o := k * 5) (n := 5) M3.records.drew (by rw [recA_size, hlr]; omega)
  have M4 := (M3.below (Below.refl _ w3).drew).recAt k hk (opA x).toList rfl
  have F4 := fr_sets' (S := [gr]) (b := gr) (by simp) (opA x).toList (k * 5) w3.drew
  have hl3 := hS3.size
  have BR4 := F4.blk BR3.drew (by simp; omega)
  have hS4 := ((hS3.more (S' := [gr, w.heap.size + 1]) (by simp)).trans (Fr.of_below ((Below.refl _ w3).drew))).trans (F4.more (by simp))
  generalize hX : w3.drew.setCells gr (k * 5) (opA x).toList = w4 at BR4 M4 hS4
  replace hX := Lib.hid hX
  go_wp2_with (first
    | (refine wpList_store_mid rfl 37 _ _ rfl gr (k * 5) (opA x) rfl rfl hth (by kernel_rfl) (by kernel_rfl) ?_; rw [hX.out])
    | (refine wpList_load_row rfl 50 _ rfl (w.heap.size + 1) rfl 50 _ (0, 0) _ BR4.h Try.underlying50 rfl (by kernel_rfl) ?_)
    | (refine wpList_store_row rfl 50 _ _ rfl (w.heap.size + 1) _ rfl rfl 50 _ BR4.h (by kernel_rfl) (by rfl) (by kernel_rfl) ?_))
  refine bodyPost_ret (results_cell_row rfl _ _ (w.heap.size + 1) 50 #[.bool true, .int .u64 0, .int .u64 0, .int .i64 0, .int .i64 0, .string ⟨#[]⟩, .string ⟨#[]⟩, .bool false, .int .i64 0, .slice none 0 0, .slice none 0 0, .slice none 0 0, .int .i64 0, .int .i64 0, .string ⟨#[]⟩, .int .u64 0, .slice none 0 0, .slice none 0 0, .slice none 0 0, .slice none 0 0, .int .i64 0, .string ⟨#[]⟩, .string ⟨#[]⟩, .int .u64 0, .int .i64 0] (0, 0) _ rfl (Blk.row BR4 #[.bool true, .int .u64 0, .int .u64 0, .int .i64 0, .int .i64 0, .string ⟨#[]⟩, .string ⟨#[]⟩, .bool false, .int .i64 0, .slice none 0 0, .slice none 0 0, .slice none 0 0, .int .i64 0, .int .i64 0, .string ⟨#[]⟩, .int .u64 0, .slice none 0 0, .slice none 0 0, .slice none 0 0, .slice none 0 0, .int .i64 0, .string ⟨#[]⟩, .string ⟨#[]⟩, .int .u64 0, .int .i64 0]).h Try.underlying50 rfl (by kernel_rfl)) rfl ⟨rfl, ?_, ?_⟩
  · exact M4.off (Fr.row (S := [w.heap.size + 1]) _ _ (by simp)) (by simp; omega)
  · have F7 := hS4.trans (Fr.row (S := [gr, w.heap.size + 1]) (w.heap.size + 1) #[.bool true, .int .u64 0, .int .u64 0, .int .i64 0, .int .i64 0, .string ⟨#[]⟩, .string ⟨#[]⟩, .bool false, .int .i64 0, .slice none 0 0, .slice none 0 0, .slice none 0 0, .int .i64 0, .int .i64 0, .string ⟨#[]⟩, .int .u64 0, .slice none 0 0, .slice none 0 0, .slice none 0 0, .slice none 0 0, .int .i64 0, .string ⟨#[]⟩, .string ⟨#[]⟩, .int .u64 0, .int .i64 0] (by simp))
    exact ⟨F7.os, F7.tape, F7.output, F7.size, fun c hc hn' => F7.block c hc (by simp at hn' ⊢; omega)⟩
end Go.Proofs.Ytpempcefgfmniaa.MemP

/-
  A memory whose blocks are known in depth; Do of any access, in general: contract.
-/
namespace Go.Proofs.Ytpempcefgfmniaa.MemP
open Go.RowKit RefP CellP Dp
set_option linter.unusedVariables false
set_option linter.unusedSimpArgs false
def nodeZ : NodeV := ⟨0, ⟨#[]⟩, ⟨#[]⟩, false, 0, [], [], []⟩
def planZ : PlanV := ⟨0, ⟨0, ⟨#[]⟩, 0, []⟩, [], []⟩
def blockZ : BlockV := ⟨0, ⟨0, ⟨#[]⟩, ⟨#[]⟩, false, 0, [], [], []⟩, ⟨0, ⟨0, ⟨#[]⟩, 0, []⟩, [], []⟩, []⟩
def blockE : BlockV := ⟨1, ⟨0, ⟨#[]⟩, ⟨#[]⟩, true, -1, [], [], []⟩, ⟨0, ⟨0, ⟨#[]⟩, 0, []⟩, [], []⟩, []⟩
def opZ : OpV := ⟨0, ⟨#[]⟩, ⟨#[]⟩, 0, 0⟩
def nilH : BlockH := ⟨⟨Hd.nil, Hd.nil, Hd.nil⟩, ⟨Hd.nil, Hd.nil, Hd.nil⟩, Hd.nil⟩
theorem blockZ_ok (w : World) (S : List Nat) : BlockOk w S nilH blockZ :=
  ⟨⟨by decide, by decide⟩, ⟨⟨by decide, by decide⟩, Nat.zero_le _, Nat.zero_le _, ⟨by decide, by decide⟩, HRow.nil _ _ _, HRow.nil _ _ _, HRow.nil _ _ _⟩, ⟨⟨by decide, by decide⟩, ⟨⟨by decide, by decide⟩, Nat.zero_le _, ⟨by decide, by decide⟩, HRow.nil _ _ _⟩, HRow.nil _ _ _, HRow.nil _ _ _⟩, HRow.nil _ _ _⟩
theorem blockE_ok (w : World) (S : List Nat) : BlockOk w S nilH blockE :=
  ⟨⟨by decide, by decide⟩, ⟨⟨by decide, by decide⟩, Nat.zero_le _, Nat.zero_le _, ⟨by decide, by decide⟩, HRow.nil _ _ _, HRow.nil _ _ _, HRow.nil _ _ _⟩, ⟨⟨by decide, by decide⟩, ⟨⟨by decide, by decide⟩, Nat.zero_le _, ⟨by decide, by decide⟩, HRow.nil _ _ _⟩, HRow.nil _ _ _, HRow.nil _ _ _⟩, HRow.nil _ _ _⟩
theorem opZ_ok : OpOk opZ := ⟨⟨by decide, by decide⟩, Nat.zero_le _, Nat.zero_le _, ⟨by decide, by decide⟩, ⟨by decide, by decide⟩⟩
theorem fewZ : Few blockZ := ⟨by decide, by decide, by decide, by decide, by decide, by decide, by decide⟩
theorem fewE : Few blockE := ⟨by decide, by decide, by decide, by decide, by decide, by decide, by decide⟩
/-- a block that lies somewhere, with its rows in none of S -/
def IsB (w : World) (S : List Nat) (cs : List Value) (b : BlockV) : Prop := ∃ q, cs = (blockA q b).toList ∧ BlockOk w S q b ∧ Few b
theorem IsB.keep {w w' : World} {S : List Nat} {cs : List Value} {b : BlockV} (h : IsB w S cs b) (k : Keeps S w w') : IsB w' S cs b := by
  obtain ⟨q, e, H, f⟩ := h
  exact ⟨q, e, H.keep k, f⟩
theorem IsB.more {w : World} {S S' : List Nat} {cs : List Value} {b : BlockV} (h : IsB w S cs b) (k : ∀ b ∈ S', b ∈ S ∨ w.heap.size ≤ b) : IsB w S' cs b := by
  obtain ⟨q, e, H, f⟩ := h
  exact ⟨q, e, H.more k, f⟩
theorem isB_zb (w : World) (S : List Nat) : IsB w S zb blockZ := ⟨nilH, rfl, blockZ_ok w S, fewZ⟩
theorem isB_eb (w : World) (S : List Nat) : IsB w S eb blockE := ⟨nilH, rfl, blockE_ok w S, fewE⟩
/-- the own blocks of a memory -/
structure MemId where
  o : Nat
  oc : Nat
  g : Nat
  gb : Nat
  gr : Nat
def MemId.own (m : MemId) : List Nat := [m.o, m.oc, m.g, m.gb, m.gr]
/-- what a memory has -/
structure MemV where
  A : Nat
  T : Nat
  L : List (Int × Int)
  B : List BlockV
  R : List OpV
structure MemIs (w : World) (S : List Nat) (m : MemId) (M : MemV) : Prop where
  mem : ∃ bs, MemAt w m.o m.oc m.g m.gb m.gr M.A M.T M.L bs (M.R.map opL) ∧ ∀ i, i < M.A → IsB w S (bs.getD i []) (M.B.getD i blockZ)
  len : M.B.length = M.A
  recs : ∀ x ∈ M.R, OpOk x
  own : ∀ b ∈ m.own, b ∈ S
theorem MemIs.keep {w w' : World} {S S' : List Nat} {m : MemId} {M : MemV} (h : MemIs w S m M) (F : Fr S' w w') (h1 : ∀ b ∈ S', b ∈ S) (h2 : ∀ b ∈ m.own, b ∉ S') : MemIs w' S m M := by
  obtain ⟨⟨bs, h0, hB⟩, hl, hr, ho⟩ := h
  refine ⟨⟨bs, h0.off F ?_, fun i hi => (hB i hi).keep (F.keeps.more h1)⟩, hl, hr, ho⟩
  simp only [MemId.own, List.mem_cons, List.not_mem_nil, or_false, forall_eq_or_imp, forall_eq] at h2
  exact h2
theorem MemIs.below {w w' : World} {S : List Nat} {m : MemId} {M : MemV} (h : MemIs w S m M) (hb : Below w.heap.size w w') : MemIs w' S m M :=
  h.keep (Fr.of_below (S := []) hb) (by simp) (by simp)
theorem MemIs.more {w : World} {S S' : List Nat} {m : MemId} {M : MemV} (h : MemIs w S m M) (k : ∀ b ∈ S', b ∈ S ∨ w.heap.size ≤ b) (ho : ∀ b ∈ m.own, b ∈ S') : MemIs w S' m M := by
  obtain ⟨⟨bs, h0, hB⟩, hl, hr, _⟩ := h
  exact ⟨⟨bs, h0, fun i hi => (hB i hi).more k⟩, hl, hr, ho⟩
theorem MemIs.lt {w : World} {S : List Nat} {m : MemId} {M : MemV} (h : MemIs w S m M) : ∀ b ∈ m.own, b < w.heap.size := by
  obtain ⟨⟨bs, h0, hB⟩, _⟩ := h
  have a1 := h0.head.lt
  have a2 := h0.cells.head.lt
  have a3 := h0.cells.rows.lt
  have a4 := h0.blocks.lt
  have a5 := h0.records.lt
  simp only [MemId.own, List.mem_cons, List.not_mem_nil, or_false, forall_eq_or_imp, forall_eq]
  exact ⟨a1, a2, a3, a4, a5⟩
theorem MemIs.at_ {w : World} {S : List Nat} {m : MemId} {M : MemV} (h : MemIs w S m M) : ∃ bs, MemAt w m.o m.oc m.g m.gb m.gr M.A M.T M.L bs (M.R.map opL) := by
  obtain ⟨⟨bs, h0, hB⟩, _⟩ := h
  exact ⟨bs, h0⟩
def clearV (B : List BlockV) (A : Nat) (c : Int) : List BlockV := if (A : Int) ≤ c ∧ c < 2 * A then B.set (c - A).toNat blockZ else B
/-- what an access does -/
def doV (M : MemV) (a : AccV) : MemV :=
  if a.kind = 2 then (if inB M.L.length a.at_ = true then { M with L := storeL M.L a.at_ a.word, B := clearV M.B M.A a.at_ } else M)
  else if a.kind = 3 then (if casB M.L a.at_ a.ver = true then { M with L := casL M.L a.at_ a.ver a.word, B := clearV M.B M.A a.at_ } else M)
  else if a.kind = 5 then (if nameB M.A M.T M.L a.word = true then { M with B := M.B.set (nameP M.A a.word).toNat a.block } else M)
  else if a.kind = 7 then (if 0 ≤ a.at_ ∧ a.at_ < (M.T : Int) then { M with R := M.R.set a.at_.toNat a.op } else M)
  else M
/-- what it answers -/
def repV (M : MemV) (a : AccV) : ReplyV :=
  if a.kind = 1 then ⟨inB M.L.length a.at_, loadW M.L a.at_, loadV M.L a.at_, blockZ, opZ⟩
  else if a.kind = 2 then ⟨inB M.L.length a.at_, 0, 0, blockZ, opZ⟩
  else if a.kind = 3 then ⟨casB M.L a.at_ a.ver, 0, 0, blockZ, opZ⟩
  else if a.kind = 4 then (if nameB M.A M.T M.L a.word = true then ⟨true, 0, 0, M.B.getD (nameP M.A a.word).toNat blockZ, opZ⟩ else ⟨false, 0, 0, blockZ, opZ⟩)
  else if a.kind = 5 then ⟨nameB M.A M.T M.L a.word, 0, 0, blockZ, opZ⟩
  else if a.kind = 6 then (if 0 ≤ a.at_ ∧ a.at_ < (M.T : Int) then ⟨true, 0, 0, blockZ, M.R.getD a.at_.toNat opZ⟩ else ⟨false, 0, 0, blockZ, opZ⟩)
  else if a.kind = 7 then ⟨decide (0 ≤ a.at_ ∧ a.at_ < (M.T : Int)), 0, 0, blockZ, opZ⟩
  else ⟨false, 0, 0, blockZ, opZ⟩
/-- the cells of a reply -/
abbrev repA (q : BlockH) (r : ReplyV) : Array Value := #[.bool r.ok, .int .u64 r.word, .int .u64 r.ver, .int .i64 r.block.kind, .int .i64 r.block.node.level, .string r.block.node.low, .string r.block.node.high, .bool r.block.node.last, .int .i64 r.block.node.next, .slice q.node.keys.a r.block.node.keys.length q.node.keys.c, .slice q.node.vals.a r.block.node.vals.length q.node.vals.c, .slice q.node.kids.a r.block.node.kids.length q.node.kids.c, .int .i64 r.block.plan.thread, .int .i64 r.block.plan.ans.code, .string r.block.plan.ans.key, .int .u64 r.block.plan.ans.val, .slice q.plan.pairs.a r.block.plan.ans.pairs.length q.plan.pairs.c, .slice q.plan.steps.a r.block.plan.steps.length q.plan.steps.c, .slice q.plan.extra.a r.block.plan.extra.length q.plan.extra.c, .slice q.pairs.a r.block.pairs.length q.pairs.c, .int .i64 r.op.kind, .string r.op.key, .string r.op.upto, .int .u64 r.op.val, .int .i64 r.op.limit]
structure RepOk (w : World) (S : List Nat) (q : BlockH) (r : ReplyV) : Prop where
  word : 0 ≤ r.word ∧ r.word ≤ 18446744073709551615
  ver : 0 ≤ r.ver ∧ r.ver ≤ 18446744073709551615
  block : BlockOk w S q r.block
  few : Few r.block
  op : OpOk r.op
/-- an access did what it does, in memory -/
structure Did (w : World) (S : List Nat) (m : MemId) (M : MemV) (a : AccV) (e : Ending) (w' : World) : Prop where
  rep : ∃ q, e = .returned (.agg (repA q (repV M a))) ∧ RepOk w' (List.range w.heap.size) q (repV M a) ∧ (a.kind ≠ 4 → q = nilH)
  mem : MemIs w' S m (doV M a)
  fr : Fr [m.g, m.gb, m.gr] w w'
theorem repZ {w : World} {S : List Nat} (ok : Bool) (word ver : Int) (h1 : 0 ≤ word ∧ word ≤ 18446744073709551615) (h2 : 0 ≤ ver ∧ ver ≤ 18446744073709551615) : RepOk w S nilH ⟨ok, word, ver, blockZ, opZ⟩ := ⟨h1, h2, blockZ_ok w S, fewZ, opZ_ok⟩
theorem clear_isB {w : World} {S : List Nat} {A : Nat} {bs : List (List Value)} {B : List BlockV} (c : Int) (hl : bs.length = A) (hl' : B.length = A) (h : ∀ i, i < A → IsB w S (bs.getD i []) (B.getD i blockZ)) : ∀ i, i < A → IsB w S ((clearL bs A c).getD i []) ((clearV B A c).getD i blockZ) := by
  intro i hi
  unfold clearL clearV
  by_cases hc : (A : Int) ≤ c ∧ c < 2 * A
  · rw [if_pos hc, if_pos hc]
    by_cases he : (c - A).toNat = i
    · subst he
      simp only [List.getD_eq_getElem?_getD, List.getElem?_set_self' , List.getElem?_eq_getElem (show (c - A).toNat < bs.length by omega), List.getElem?_eq_getElem (show (c - A).toNat < B.length by omega)]
      exact isB_zb w S
    · simp only [List.getD_eq_getElem?_getD, List.getElem?_set_ne he]
      simpa only [List.getD_eq_getElem?_getD] using h i hi
  · rw [if_neg hc, if_neg hc]; exact h i hi
theorem put_isB {w : World} {S : List Nat} {A : Nat} {bs : List (List Value)} {B : List BlockV} (k : Nat) (cs : List Value) (b : BlockV) (hb : IsB w S cs b) (hl : bs.length = A) (hl' : B.length = A) (h : ∀ i, i < A → IsB w S (bs.getD i []) (B.getD i blockZ)) : ∀ i, i < A → IsB w S ((bs.set k cs).getD i []) ((B.set k b).getD i blockZ) := by
  intro i hi
  by_cases he : k = i
  · subst he
    simp only [List.getD_eq_getElem?_getD, List.getElem?_set_self', List.getElem?_eq_getElem (show k < bs.length by omega), List.getElem?_eq_getElem (show k < B.length by omega)]
    exact hb
  · simp only [List.getD_eq_getElem?_getD, List.getElem?_set_ne he]
    simpa only [List.getD_eq_getElem?_getD] using h i hi
theorem own_isB {w w' : World} {S S' : List Nat} {A : Nat} {bs : List (List Value)} {B : List BlockV} (F : Fr S' w w') (hS : ∀ b ∈ S', b ∈ S) (h : ∀ i, i < A → IsB w S (bs.getD i []) (B.getD i blockZ)) : ∀ i, i < A → IsB w' S (bs.getD i []) (B.getD i blockZ) :=
  fun i hi => (h i hi).keep (F.keeps.more hS)
theorem loadW_rng {w : World} {oc g : Nat} {L : List (Int × Int)} (h : CellsAt w oc g L) (i : Int) : (0 ≤ loadW L i ∧ loadW L i ≤ 18446744073709551615) ∧ (0 ≤ loadV L i ∧ loadV L i ≤ 18446744073709551615) := by
  unfold loadW loadV
  by_cases hi : inB L.length i = true
  · rw [if_pos hi, if_pos hi]
    have hr := h.rng
    have := inB_yes hi
    have hm : at2 L i.toNat ∈ L := by
      unfold at2
      rw [List.getD_eq_getElem?_getD, List.getElem?_eq_getElem (show i.toNat < L.length by omega)]
      exact List.getElem_mem _
    have := hr _ hm
    omega
  · rw [if_neg hi, if_neg hi]; omega
end Go.Proofs.Ytpempcefgfmniaa.MemP

/-
  Light of a row of accesses (chapter 26's law): contract.
-/
namespace Go.Proofs.Ytpempcefgfmniaa.Dp
open Go.RowKit RefP
set_option linter.unusedVariables false
set_option linter.unusedSimpArgs false
/-- an access's cells, written out -/
abbrev acc26 (q : BlockH) (x : AccV) : List Value := [.int .i64 x.kind, .int .i64 x.at_, .int .u64 x.ver, .int .u64 x.word, .int .i64 x.block.kind, .int .i64 x.block.node.level, .string x.block.node.low, .string x.block.node.high, .bool x.block.node.last, .int .i64 x.block.node.next, .slice q.node.keys.a x.block.node.keys.length q.node.keys.c, .slice q.node.vals.a x.block.node.vals.length q.node.vals.c, .slice q.node.kids.a x.block.node.kids.length q.node.kids.c, .int .i64 x.block.plan.thread, .int .i64 x.block.plan.ans.code, .string x.block.plan.ans.key, .int .u64 x.block.plan.ans.val, .slice q.plan.pairs.a x.block.plan.ans.pairs.length q.plan.pairs.c, .slice q.plan.steps.a x.block.plan.steps.length q.plan.steps.c, .slice q.plan.extra.a x.block.plan.extra.length q.plan.extra.c, .slice q.pairs.a x.block.pairs.length q.pairs.c, .int .i64 x.op.kind, .string x.op.key, .string x.op.upto, .int .u64 x.op.val, .int .i64 x.op.limit]
theorem accL_eq (q : BlockH) (x : AccV) : accL q x = acc26 q x := rfl
/-- how many pairs, as the machine's number -/
def sumW (x : AccV) : Int := IntKind.i64.wrap ((x.block.pairs.length : Int) + (x.block.plan.ans.pairs.length : Int))
def lightA (x : AccV) : Bool := lightN x.block.node && (decide (x.block.plan.steps.length ≤ 60) && (decide (x.block.plan.extra.length ≤ 60) && decide (sumW x ≤ 60)))
def lightL (xs : List AccV) : Bool := xs.all lightA && decide (xs.length ≤ 60)
theorem lightL_no {xs : List AccV} {k : Nat} (hk : k < xs.length) (h : lightA xs[k] = false) : lightL xs = false := by
  have : xs.all lightA = false := by
    rw [Bool.eq_false_iff]
    intro e
    rw [List.all_eq_true] at e
    have := e _ (List.getElem_mem hk)
    rw [h] at this; cases this
  simp [lightL, this]
/-- an access of a row -/
theorem acc_cell {w : World} {S : List Nat} {a : Option Addr} {xs : List AccV} (H : RowRep accT w S a xs) (k : Nat) (hk : k < xs.length) : ∃ b off q, a = some ⟨b, off, none⟩ ∧ b < w.heap.size ∧ w.rangeAt b (off + k * 26) (acc26 q xs[k]) ∧ AccOk w S q xs[k] := by
  obtain ⟨b, off, e, hb, _, hc⟩ := H (by omega)
  obtain ⟨cs, hr, hv⟩ := hc k xs[k] (List.getElem?_eq_getElem hk)
  obtain ⟨q, rfl, hok⟩ := accT_of hr
  exact ⟨b, off, q, e, hb, hv, hok⟩
theorem range_blk {w : World} {b : Nat} {cs : Array Value} {T : TypeId} (B : Blk w b cs T) (o : Nat) (l : List Value) (h : ∀ j v, l[j]? = some v → cs[o + j]? = some v) : w.rangeAt b o l := fun j v hv => B.at _ (h j v hv)
theorem lt8 {r : Nat} (h : r < 8) : r = 0 ∨ r = 1 ∨ r = 2 ∨ r = 3 ∨ r = 4 ∨ r = 5 ∨ r = 6 ∨ r = 7 := by omega
theorem acc_node {w : World} {b : Nat} {q : BlockH} {x : AccV} {T : TypeId} (B : Blk w b (acc26 q x).toArray T) : w.rangeAt b 5 (nodeL q.node x.block.node) :=
  range_blk B 5 _ (fun j v hv => by
    have hj : j < 8 := (List.getElem?_eq_some_iff.1 hv).1
    rcases lt8 hj with e | e | e | e | e | e | e | e <;> subst e <;> exact hv)
set_option maxRecDepth 100000 in
set_option maxHeartbeats 3200000 in
theorem light_any (S : List Nat) (a : Option Addr) (c : Nat) (xs : List AccV) (w : World) (H : RowRep accT w S a xs) (hm : xs.length ≤ 9223372036854775807) : Calls Try.prog 10 #[.slice a xs.length c] w fun e w' => e = .returned (.bool (lightL xs)) ∧ Below w.heap.size w w' := by
  have hmx : (maxLen : Nat) = 9223372036854775807 := by unfold maxLen; rfl
  go_enter Try.func10, Try.ntmps10
  go_wp2_with fail
  go_loopw [7] (fun i wr => ∃ k : Nat, k ≤ xs.length ∧ i = .int .i64 k ∧ Below w.heap.size w wr ∧ (xs.take k).all lightA = true) (fun i _ => xs.length - (intOf i).toNat)
  case atStart => exact ⟨0, Nat.zero_le _, rfl, Below.refl _ _, by simp⟩
  case round =>
    obtain ⟨k, hk, rfl, hb, hall⟩ := hrel
    by_cases hlt : k < xs.length
    · have hlt' : (k : Int) < (xs.length : Int) := by omega
      obtain ⟨b, off, q, rfl, hbl, hcs, hok⟩ := acc_cell (H.keep (Keeps.of_below hb)) k hlt
      have hall2 : lightA xs[k] = true → (xs.take (k + 1)).all lightA = true := fun e => by
        rw [List.take_succ_eq_append_getElem hlt, List.all_append, hall]; simp [e]
      have hno : lightA xs[k] = false → lightL xs = false := lightL_no hlt
      generalize xs[k] = x at hcs hok hall2 hno
      have hB1 := below_alloc2 hb (Nat.le_refl _) (.cells (acc26 q x).toArray 39)
      have BX := Blk.new wr (acc26 q x).toArray 39
      have hN := acc_node BX
      have hNode := (hok.block.node)
      go_wp2_with (first
        | (refine wpList_load_mid rfl 39 _ rfl b (off + k * 26) rfl (acc26 q x) _ hcs Try.underlying39 rfl (by kernel_rfl) ?_)
        | (refine wpList_store_row rfl 39 _ _ rfl _ _ rfl rfl 39 _ (Blk.new wr _ _).h (by kernel_rfl) (by rfl) (by kernel_rfl) ?_; rw [World.setRow_alloc_new])
        | (refine wpList_load_mid rfl 27 _ rfl wr.heap.size 5 rfl (nodeL q.node x.block.node) _ hN Try.underlying27 rfl (by kernel_rfl) ?_))
      refine (light10_any S q.node x.block.node _ (hNode.keep (Keeps.of_below ((Below.refl _ wr).alloc (Nat.le_refl _) _)))).mono ?_
      rintro e w2 ⟨rfl, hb2⟩
      have BX2 := BX.below hb2
      have b17 : w2.cell? ⟨wr.heap.size, 17, none⟩ = some (.slice q.plan.pairs.a x.block.plan.ans.pairs.length q.plan.pairs.c) := BX2.at 17 rfl
      have b18 : w2.cell? ⟨wr.heap.size, 18, none⟩ = some (.slice q.plan.steps.a x.block.plan.steps.length q.plan.steps.c) := BX2.at 18 rfl
      have b19 : w2.cell? ⟨wr.heap.size, 19, none⟩ = some (.slice q.plan.extra.a x.block.plan.extra.length q.plan.extra.c) := BX2.at 19 rfl
      have b20 : w2.cell? ⟨wr.heap.size, 20, none⟩ = some (.slice q.pairs.a x.block.pairs.length q.pairs.c) := BX2.at 20 rfl
      have hz : IntKind.i64.wrap ((x.block.pairs.length : Int) + (x.block.plan.ans.pairs.length : Int)) = sumW x := rfl
      have hA : lightA x = (lightN x.block.node && (decide (x.block.plan.steps.length ≤ 60) && (decide (x.block.plan.extra.length ≤ 60) && decide (sumW x ≤ 60)))) := rfl
      clear hcs hok hN hNode BX BX2
      by_cases g0 : lightN x.block.node = true
      · rw [g0]
        by_cases g1 : x.block.plan.steps.length ≤ 60
        · have q1 : decide (60 < (x.block.plan.steps.length : Int)) = false := by simp; omega
          by_cases g2 : x.block.plan.extra.length ≤ 60
          · have q2 : decide (60 < (x.block.plan.extra.length : Int)) = false := by simp; omega
            by_cases g3 : sumW x ≤ 60
            · have hx2 := hall2 (by rw [hA, g0]; simp [g1, g2, g3])
              generalize sumW x = z at hz g3
              have q3 : decide (60 < z) = false := by simp; omega
              clear hall2 hno hA g0 g1 g2 g3
              go_wp2_with fail
              go_roundw
              case rel => exact ⟨k + 1, by omega, by go_num, below_push2 hB1 hb2 (Nat.le_refl _), hx2⟩
              case measure => simp [intOf]; omega
            · have hE := Lib.hid (hno (by rw [hA]; simp [g3]))
              generalize sumW x = z at hz g3
              have q3 : decide (60 < z) = true := by simp; omega
              clear hall2 hno hA g0 g1 g2 g3
              go_wp2_with fail
              go_ret
              exact ⟨by rw [hE.out]; rfl, below_push2 hB1 hb2 (Nat.le_refl _)⟩
          · have q2 : decide (60 < (x.block.plan.extra.length : Int)) = true := by simp; omega
            have hE := Lib.hid (hno (by rw [hA]; simp [g2]))
            clear hall2 hno hA g0 g1 g2
            go_wp2_with fail
            go_ret
            exact ⟨by rw [hE.out]; rfl, below_push2 hB1 hb2 (Nat.le_refl _)⟩
        · have q1 : decide (60 < (x.block.plan.steps.length : Int)) = true := by simp; omega
          have hE := Lib.hid (hno (by rw [hA]; simp [g1]))
          clear hall2 hno hA g0 g1
          go_wp2_with fail
          go_ret
          exact ⟨by rw [hE.out]; rfl, below_push2 hB1 hb2 (Nat.le_refl _)⟩
      · have g0' : lightN x.block.node = false := by simpa using g0
        rw [g0']
        have hE := Lib.hid (hno (by rw [hA]; simp [g0']))
        clear hall2 hno hA g0 g0'
        go_wp2_with fail
        go_ret
        exact ⟨by rw [hE.out]; rfl, below_push2 hB1 hb2 (Nat.le_refl _)⟩
    · obtain rfl : k = xs.length := by omega
      rw [List.take_length] at hall
      have hE : Hid (lightL xs = decide (xs.length ≤ 60)) := by simp [Hid, lightL, hall]
      have q1 : decide ((xs.length : Int) ≤ 60) = decide (xs.length ≤ 60) := by simp; omega
      clear hall
      go_wp2_with fail
      go_ret
      exact ⟨by rw [hE.out]; rfl, hb⟩
end Go.Proofs.Ytpempcefgfmniaa.Dp

/-
  Do of any access on a memory that is known in depth: contract.
-/
namespace Go.Proofs.Ytpempcefgfmniaa.MemP
open Go.RowKit RefP CellP Dp
set_option linter.unusedVariables false
set_option linter.unusedSimpArgs false
/-- the own blocks were there, and S holds blocks that are there alone -/
theorem doS {S : List Nat} {m : MemId} (h : ∀ b ∈ m.own, b ∈ S) : ∀ b ∈ [m.g, m.gb, m.gr], b ∈ S := by
  simp only [MemId.own, List.mem_cons, List.not_mem_nil, or_false, forall_eq_or_imp, forall_eq] at h ⊢
  exact ⟨h.2.2.1, h.2.2.2.1, h.2.2.2.2⟩
theorem fr3 {m : MemId} {S : List Nat} {w w' : World} (F : Fr S w w') (h : ∀ b ∈ S, b = m.g ∨ b = m.gb ∨ b = m.gr) : Fr [m.g, m.gb, m.gr] w w' := F.more (fun b hb => by simpa using h b hb)
theorem did_same {w w' : World} {S : List Nat} {m : MemId} {M : MemV} {a : AccV} {q : BlockH} {e : Ending} (h : MemIs w S m M) (hM : doV M a = M) (hq : RepOk w' (List.range w.heap.size) q (repV M a)) (he : e = .returned (.agg (repA q (repV M a)))) (hb : Below w.heap.size w w') (hn : a.kind ≠ 4 → q = nilH) : Did w S m M a e w' :=
  ⟨⟨q, he, hq, hn⟩, by rw [hM]; exact h.below hb, Fr.of_below hb⟩
theorem z64 : (0 : Int) ≤ 0 ∧ (0 : Int) ≤ 18446744073709551615 := by decide
theorem opL_getD (R : List OpV) (k : Nat) (hk : k < R.length) : (R.map opL).getD k [] = opL (R.getD k opZ) := by
  simp [List.getD_eq_getElem?_getD, hk]
theorem op_of {R : List OpV} (h : ∀ x ∈ R, OpOk x) (k : Nat) : OpOk (R.getD k opZ) := by
  rw [List.getD_eq_getElem?_getD]
  by_cases hk : k < R.length
  · rw [List.getElem?_eq_getElem hk]; exact h _ (List.getElem_mem hk)
  · rw [List.getElem?_eq_none (by omega)]; exact opZ_ok
theorem map_set {R : List OpV} (k : Nat) (x : OpV) : (R.map opL).set k (opL x) = (R.set k x).map opL := by
  rw [List.map_set]
set_option maxRecDepth 100000 in
set_option maxHeartbeats 3200000 in
theorem do_any {S S0 : List Nat} {m : MemId} {M : MemV} (a : AccV) (q : BlockH) (w : World) (h : MemIs w S m M) (hS : ∀ b ∈ S, b < w.heap.size) (ha : AccOk w S0 q a) (hf : Few a.block) :
    Calls Try.prog 12 #[.pointer (some ⟨m.o, 0, none⟩), .agg (acc26 q a).toArray] w fun e w' => Did w S m M a e w' := by
  have ho := doS h.own
  obtain ⟨⟨bs, h0, hB⟩, hl, hr, hown⟩ := id h
  obtain ⟨hv0, hv1⟩ := ha.ver
  obtain ⟨hx0, hx1⟩ := ha.word
  have hblk := ha.block
  have hop := ha.op
  obtain ⟨kind, i, ver, word, b, x⟩ := a
  simp only at hv0 hv1 hx0 hx1 hblk hf hop
  have hne := h0.ne
  have hlt := h.lt
  simp only [MemId.own, List.mem_cons, List.not_mem_nil, or_false, forall_eq_or_imp, forall_eq] at hlt
  by_cases k1 : kind = 1
  · subst k1
    refine (show Calls _ _ _ _ _ from do_load i ver word _ _ _ _ _ _ _ _ _ _ _ _ _ _ _ _ _ _ _ _ _ _ w h0).mono ?_
    rintro e w' ⟨rfl, hb⟩
    obtain ⟨r1, r2⟩ := loadW_rng h0.cells i
    have hR : repV M ⟨1, i, ver, word, b, x⟩ = ⟨inB M.L.length i, loadW M.L i, loadV M.L i, blockZ, opZ⟩ := by simp [repV]
    refine did_same (q := nilH) h (by simp [doV]) ?_ ?_ hb (fun h => by first | rfl | exact absurd rfl h) <;> rw [hR]
    · exact repZ _ _ _ r1 r2
    · rfl
  by_cases k2 : kind = 2
  · subst k2
    refine (show Calls _ _ _ _ _ from do_store i ver word _ _ _ _ _ _ _ _ _ _ _ _ _ _ _ _ _ _ _ _ _ _ w h0 hx0 hx1).mono ?_
    rintro e w' ⟨rfl, h1, F⟩
    have F3 : Fr [m.g, m.gb, m.gr] w w' := F.more (by simp)
    have hR : repV M ⟨2, i, ver, word, b, x⟩ = ⟨inB M.L.length i, 0, 0, blockZ, opZ⟩ := by simp [repV]
    refine ⟨⟨nilH, by rw [hR]; rfl, by rw [hR]; exact repZ _ _ _ ⟨by decide, by decide⟩ ⟨by decide, by decide⟩, fun _ => rfl⟩, ?_, F3⟩
    unfold doV
    rw [if_pos rfl]
    by_cases hi : inB M.L.length i = true
    · rw [if_pos hi]
      rw [storeB_yes _ _ hi] at h1
      exact ⟨⟨_, h1, clear_isB i (by rw [h0.lb]) hl (own_isB F3 ho hB)⟩, by unfold clearV; split <;> simp [hl], hr, hown⟩
    · rw [if_neg hi]
      have hi' : inB M.L.length i = false := by simpa using hi
      rw [storeB_no _ _ hi', storeL_no _ hi'] at h1
      exact ⟨⟨_, h1, own_isB F3 ho hB⟩, hl, hr, hown⟩
  by_cases k3 : kind = 3
  · subst k3
    refine (show Calls _ _ _ _ _ from do_cas i ver word _ _ _ _ _ _ _ _ _ _ _ _ _ _ _ _ _ _ _ _ _ _ w h0 hv0 hv1 hx0 hx1).mono ?_
    rintro e w' ⟨rfl, h1, F⟩
    have F3 : Fr [m.g, m.gb, m.gr] w w' := F.more (by simp)
    have hR : repV M ⟨3, i, ver, word, b, x⟩ = ⟨casB M.L i ver, 0, 0, blockZ, opZ⟩ := by simp [repV]
    refine ⟨⟨nilH, by rw [hR]; rfl, by rw [hR]; exact repZ _ _ _ ⟨by decide, by decide⟩ ⟨by decide, by decide⟩, fun _ => rfl⟩, ?_, F3⟩
    unfold doV
    rw [if_neg (show ¬ (3 : Int) = 2 by decide), if_pos rfl]
    by_cases hi : casB M.L i ver = true
    · rw [if_pos hi]
      rw [casBs_yes _ _ hi] at h1
      exact ⟨⟨_, h1, clear_isB i (by rw [h0.lb]) hl (own_isB F3 ho hB)⟩, by unfold clearV; split <;> simp [hl], hr, hown⟩
    · rw [if_neg hi]
      have hi' : casB M.L i ver = false := by simpa using hi
      rw [casBs_no _ _ hi', casL_no _ hi'] at h1
      exact ⟨⟨_, h1, own_isB F3 ho hB⟩, hl, hr, hown⟩
  by_cases k4 : kind = 4
  · subst k4
    cases hN : nameB M.A M.T M.L word
    · refine (show Calls _ _ _ _ _ from do_get_no i ver word _ _ _ _ _ _ _ _ _ _ _ _ _ _ _ _ _ _ _ _ _ _ w h0 hx0 hx1 hN).mono ?_
      rintro e w' ⟨rfl, hb⟩
      have hR : repV M ⟨4, i, ver, word, b, x⟩ = ⟨false, 0, 0, blockZ, opZ⟩ := by simp [repV, hN]
      refine did_same (q := nilH) h (by simp [doV]) ?_ ?_ hb (fun h => by first | rfl | exact absurd rfl h) <;> rw [hR]
      · exact repZ _ _ _ ⟨by decide, by decide⟩ ⟨by decide, by decide⟩
      · rfl
    · obtain ⟨k, hk, hp, _⟩ := named_lt hN
      have hR : repV M ⟨4, i, ver, word, b, x⟩ = ⟨true, 0, 0, M.B.getD k blockZ, opZ⟩ := by simp [repV, hN, hp]
      obtain ⟨q1, e1, H1, f1⟩ := hB k hk
      refine (show Calls _ _ _ _ _ from do_get_yes i ver word _ _ _ _ _ _ _ _ _ _ _ _ _ _ _ _ _ _ _ _ _ _ k S q1 (M.B.getD k blockZ) w h0 hx0 hx1 hN hk hp e1 H1 f1).mono ?_
      rintro e w' ⟨⟨q', rfl, H'⟩, hb⟩
      refine did_same (q := q') h (by simp [doV]) ?_ ?_ hb (fun h => by first | rfl | exact absurd rfl h) <;> rw [hR]
      · exact ⟨z64, z64, H', f1, opZ_ok⟩
      · rfl
  by_cases k5 : kind = 5
  · subst k5
    cases hN : nameB M.A M.T M.L word
    · refine (show Calls _ _ _ _ _ from do_put_no i ver word _ _ _ _ _ q b w h0 hx0 hx1 hN).mono ?_
      rintro e w' ⟨rfl, hb⟩
      have hR : repV M ⟨5, i, ver, word, b, x⟩ = ⟨false, 0, 0, blockZ, opZ⟩ := by simp [repV, hN]
      refine did_same (q := nilH) h (by simp [doV, hN]) ?_ ?_ hb (fun h => by first | rfl | exact absurd rfl h) <;> rw [hR]
      · exact repZ _ _ _ ⟨by decide, by decide⟩ ⟨by decide, by decide⟩
      · rfl
    · obtain ⟨k, hk, hp, _⟩ := named_lt hN
      have hR : repV M ⟨5, i, ver, word, b, x⟩ = ⟨true, 0, 0, blockZ, opZ⟩ := by simp [repV, hN]
      refine (show Calls _ _ _ _ _ from do_put_yes i ver word _ _ _ _ _ k S0 q b w h0 hx0 hx1 hN hk hp hblk hf).mono ?_
      rintro e w' ⟨rfl, ⟨q', h1, H'⟩, F⟩
      have F3 : Fr [m.g, m.gb, m.gr] w w' := F.more (by simp)
      refine ⟨⟨nilH, by rw [hR]; rfl, by rw [hR]; exact repZ _ _ _ ⟨by decide, by decide⟩ ⟨by decide, by decide⟩, fun _ => rfl⟩, ?_, F3⟩
      have hD : doV M ⟨5, i, ver, word, b, x⟩ = { M with B := M.B.set k b } := by simp [doV, hN, hp]
      rw [hD]
      exact ⟨⟨_, h1, put_isB k _ b ⟨q', rfl, H'.more (fun c hc => .inl (by simpa using hS c hc)), hf⟩ h0.lb hl (own_isB F3 ho hB)⟩, by simp [hl], hr, hown⟩
  by_cases k6 : kind = 6
  · subst k6
    by_cases hi : 0 ≤ i ∧ i < (M.T : Int)
    · have hR : repV M ⟨6, i, ver, word, b, x⟩ = ⟨true, 0, 0, blockZ, M.R.getD i.toNat opZ⟩ := by simp [repV, hi]
      have hlr := h0.lr
      simp only [List.length_map] at hlr
      refine (show Calls _ _ _ _ _ from do_read_yes i ver word _ _ _ _ _ _ _ _ _ _ _ _ _ _ _ _ _ _ _ _ _ _ i.toNat (M.R.getD i.toNat opZ) w h0 (by omega) (by omega) (opL_getD _ _ (by omega))).mono ?_
      rintro e w' ⟨rfl, hb⟩
      refine did_same (q := nilH) h (by simp [doV]) ?_ ?_ hb (fun h => by first | rfl | exact absurd rfl h) <;> rw [hR]
      · exact ⟨z64, z64, blockZ_ok _ _, fewZ, op_of hr _⟩
      · rfl
    · have hR : repV M ⟨6, i, ver, word, b, x⟩ = ⟨false, 0, 0, blockZ, opZ⟩ := by simp [repV, hi]
      refine (show Calls _ _ _ _ _ from do_read_no i ver word _ _ _ _ _ _ _ _ _ _ _ _ _ _ _ _ _ _ _ _ _ _ w h0 hi).mono ?_
      rintro e w' ⟨rfl, hb⟩
      refine did_same (q := nilH) h (by simp [doV]) ?_ ?_ hb (fun h => by first | rfl | exact absurd rfl h) <;> rw [hR]
      · exact repZ _ _ _ ⟨by decide, by decide⟩ ⟨by decide, by decide⟩
      · rfl
  by_cases k7 : kind = 7
  · subst k7
    by_cases hi : 0 ≤ i ∧ i < (M.T : Int)
    · have hR : repV M ⟨7, i, ver, word, b, x⟩ = ⟨true, 0, 0, blockZ, opZ⟩ := by simp [repV, hi]
      have hD : doV M ⟨7, i, ver, word, b, x⟩ = { M with R := M.R.set i.toNat x } := by simp [doV, hi]
      refine (show Calls _ _ _ _ _ from do_write_yes i ver word _ _ _ _ _ _ _ _ _ _ _ _ _ _ _ _ _ i.toNat x w h0 (by omega) (by omega)).mono ?_
      rintro e w' ⟨rfl, h1, F⟩
      have F3 : Fr [m.g, m.gb, m.gr] w w' := F.more (by simp)
      refine ⟨⟨nilH, by rw [hR]; rfl, by rw [hR]; exact repZ _ _ _ ⟨by decide, by decide⟩ ⟨by decide, by decide⟩, fun _ => rfl⟩, ?_, F3⟩
      rw [hD]
      rw [map_set] at h1
      refine ⟨⟨_, h1, own_isB F3 ho hB⟩, hl, fun y hy => ?_, hown⟩
      rcases List.mem_or_eq_of_mem_set hy with hy | rfl
      · exact hr y hy
      · exact hop
    · have hR : repV M ⟨7, i, ver, word, b, x⟩ = ⟨false, 0, 0, blockZ, opZ⟩ := by simp [repV]; omega
      refine (show Calls _ _ _ _ _ from do_write_no i ver word _ _ _ _ _ _ _ _ _ _ _ _ _ _ _ _ _ _ _ _ _ _ w h0 hi).mono ?_
      rintro e w' ⟨rfl, hb⟩
      refine did_same (q := nilH) h (by simp [doV, hi]) ?_ ?_ hb (fun h => by first | rfl | exact absurd rfl h) <;> rw [hR]
      · exact repZ _ _ _ ⟨by decide, by decide⟩ ⟨by decide, by decide⟩
      · rfl
  · have hR : repV M ⟨kind, i, ver, word, b, x⟩ = ⟨false, 0, 0, blockZ, opZ⟩ := by simp [repV, k1, k2, k3, k4, k5, k6, k7]
    refine (show Calls _ _ _ _ _ from do_else kind i ver word _ _ _ _ _ _ _ _ _ _ _ _ _ _ _ _ _ _ _ _ _ _ w h0 (by omega)).mono ?_
    rintro e w' ⟨rfl, hb⟩
    refine did_same (q := nilH) h (by simp [doV, k2, k3, k5, k7]) ?_ ?_ hb (fun h => by first | rfl | exact absurd rfl h) <;> rw [hR]
    · exact repZ _ _ _ ⟨by decide, by decide⟩ ⟨by decide, by decide⟩
    · rfl
end Go.Proofs.Ytpempcefgfmniaa.MemP

/-
  The example of chapter 26 is true.
-/
namespace Go.Proofs.Ytpempcefgfmniaa.MemP
open Go.RowKit RefP CellP
set_option linter.unusedVariables false
set_option linter.unusedSimpArgs false
/-- a reply is kept in a variable of its own -/
theorem rep_ok (a : Bool) (b c : Int) (W : World) : (Instr.field 50 (.agg #[.bool a, .int .u64 b, .int .u64 c, .int .i64 0, .int .i64 0, .string ⟨#[]⟩, .string ⟨#[]⟩, .bool false, .int .i64 0, .slice none 0 0, .slice none 0 0, .slice none 0 0, .int .i64 0, .int .i64 0, .string ⟨#[]⟩, .int .u64 0, .slice none 0 0, .slice none 0 0, .slice none 0 0, .slice none 0 0, .int .i64 0, .string ⟨#[]⟩, .string ⟨#[]⟩, .int .u64 0, .int .i64 0]) 0).run Try.prog W = .ok (.bool a) W := by kernel_rfl
theorem rep_word (a : Bool) (b c : Int) (W : World) : (Instr.field 50 (.agg #[.bool a, .int .u64 b, .int .u64 c, .int .i64 0, .int .i64 0, .string ⟨#[]⟩, .string ⟨#[]⟩, .bool false, .int .i64 0, .slice none 0 0, .slice none 0 0, .slice none 0 0, .int .i64 0, .int .i64 0, .string ⟨#[]⟩, .int .u64 0, .slice none 0 0, .slice none 0 0, .slice none 0 0, .slice none 0 0, .int .i64 0, .string ⟨#[]⟩, .string ⟨#[]⟩, .int .u64 0, .int .i64 0]) 1).run Try.prog W = .ok (.int .u64 b) W := by kernel_rfl
theorem rep_ver (a : Bool) (b c : Int) (W : World) : (Instr.field 50 (.agg #[.bool a, .int .u64 b, .int .u64 c, .int .i64 0, .int .i64 0, .string ⟨#[]⟩, .string ⟨#[]⟩, .bool false, .int .i64 0, .slice none 0 0, .slice none 0 0, .slice none 0 0, .int .i64 0, .int .i64 0, .string ⟨#[]⟩, .int .u64 0, .slice none 0 0, .slice none 0 0, .slice none 0 0, .slice none 0 0, .int .i64 0, .string ⟨#[]⟩, .string ⟨#[]⟩, .int .u64 0, .int .i64 0]) 2).run Try.prog W = .ok (.int .u64 c) W := by kernel_rfl
theorem ex1 : casB (freshL 4 2 0) 18 0 = true := by decide +kernel
theorem ex2 : casB (casL (freshL 4 2 0) 18 0 5) 18 0 = false := by decide +kernel
theorem ex3 : loadW (casL (freshL 4 2 0) 18 0 5) 18 = 5 := by decide +kernel
theorem ex4 : (casL (freshL 4 2 0) 18 0 5).length = 19 := by decide +kernel
theorem ex5 : gateI 4 2 = 18 := by decide
set_option maxRecDepth 100000 in
set_option maxHeartbeats 3200000 in
theorem lives_any (w : World) : Calls Try.prog 11 #[] w fun e w' => e = .returned (.bool true) ∧ Below w.heap.size w w' := by
  have hfw := rep_word
  go_enter Try.func11, Try.ntmps11
  go_wp2_with fail
  refine (mnew_yes 4 2 0 _ (by omega) (by omega) (by omega) (by omega) (by omega) (by omega)).mono ?_
  rintro e w1 ⟨o, oc, g, gb, gr, rfl, hM, hb1, ho, hoc, hg, hgb, hgr⟩
  go_wp2_with fail
  refine (gate_any _ hM).mono ?_
  rw [ex5]
  rintro e w2 ⟨rfl, hb2⟩
  have hM2 := hM.below hb2
  have hB2 := below_push2 hb1 hb2 (Nat.le_refl _)
  clear hM hb1 hb2
  go_wp2_with fail
  refine (do_cas 18 0 5 _ _ _ _ _ _ _ _ _ _ _ _ _ _ _ _ _ _ _ _ _ _ _ hM2 (by omega) (by omega) (by omega) (by omega)).mono ?_
  rw [ex1]
  rintro e w3 ⟨rfl, hM3, hF3⟩
  have hB3 := hF3.below hB2 (Nat.le_refl _) (by simp; omega)
  have hM4 := hM3.below ((Below.refl _ w3).alloc (Nat.le_refl _) (.cells #[.bool true, .int .u64 0, .int .u64 0, .int .i64 0, .int .i64 0, .string ⟨#[]⟩, .string ⟨#[]⟩, .bool false, .int .i64 0, .slice none 0 0, .slice none 0 0, .slice none 0 0, .int .i64 0, .int .i64 0, .string ⟨#[]⟩, .int .u64 0, .slice none 0 0, .slice none 0 0, .slice none 0 0, .slice none 0 0, .int .i64 0, .string ⟨#[]⟩, .string ⟨#[]⟩, .int .u64 0, .int .i64 0] 50))
  have hB4 := below_alloc2 hB3 (Nat.le_refl _) (.cells #[.bool true, .int .u64 0, .int .u64 0, .int .i64 0, .int .i64 0, .string ⟨#[]⟩, .string ⟨#[]⟩, .bool false, .int .i64 0, .slice none 0 0, .slice none 0 0, .slice none 0 0, .int .i64 0, .int .i64 0, .string ⟨#[]⟩, .int .u64 0, .slice none 0 0, .slice none 0 0, .slice none 0 0, .slice none 0 0, .int .i64 0, .string ⟨#[]⟩, .string ⟨#[]⟩, .int .u64 0, .int .i64 0] 50)
  have RA := Blk.new w3 #[.bool true, .int .u64 0, .int .u64 0, .int .i64 0, .int .i64 0, .string ⟨#[]⟩, .string ⟨#[]⟩, .bool false, .int .i64 0, .slice none 0 0, .slice none 0 0, .slice none 0 0, .int .i64 0, .int .i64 0, .string ⟨#[]⟩, .int .u64 0, .slice none 0 0, .slice none 0 0, .slice none 0 0, .slice none 0 0, .int .i64 0, .string ⟨#[]⟩, .string ⟨#[]⟩, .int .u64 0, .int .i64 0] 50
  have hg3 := hM3.cells.rows.lt
  have hgb3 := hM3.blocks.lt
  clear hM2 hB2 hM3 hF3 hB3
  go_wp2_with (refine wpList_store_row rfl 50 _ _ rfl _ _ rfl rfl 50 _ (Blk.new w3 _ _).h (by kernel_rfl) (by rfl) (by kernel_rfl) ?_; rw [World.setRow_alloc_new])
  refine (gate_any _ hM4).mono ?_
  rw [ex5]
  rintro e w5 ⟨rfl, hb5⟩
  have hM5 := hM4.below hb5
  have hB5 := below_push2 hB4 hb5 (Nat.le_refl _)
  have RA5 := RA.below hb5
  clear hM4 hB4 hb5 RA
  go_wp2_with fail
  refine (do_cas 18 0 6 _ _ _ _ _ _ _ _ _ _ _ _ _ _ _ _ _ _ _ _ _ _ _ hM5 (by omega) (by omega) (by omega) (by omega)).mono ?_
  rw [ex2, casL_no 6 ex2, casBs_no _ _ ex2]
  rintro e w6 ⟨rfl, hM6, hF6⟩
  have hB6 := hF6.below hB5 (Nat.le_refl _) (by simp; omega)
  have RA6 := hF6.blk RA5 (by simp; omega)
  have hM7 := hM6.below ((Below.refl _ w6).alloc (Nat.le_refl _) (.cells #[.bool false, .int .u64 0, .int .u64 0, .int .i64 0, .int .i64 0, .string ⟨#[]⟩, .string ⟨#[]⟩, .bool false, .int .i64 0, .slice none 0 0, .slice none 0 0, .slice none 0 0, .int .i64 0, .int .i64 0, .string ⟨#[]⟩, .int .u64 0, .slice none 0 0, .slice none 0 0, .slice none 0 0, .slice none 0 0, .int .i64 0, .string ⟨#[]⟩, .string ⟨#[]⟩, .int .u64 0, .int .i64 0] 50))
  have hB7 := below_alloc2 hB6 (Nat.le_refl _) (.cells #[.bool false, .int .u64 0, .int .u64 0, .int .i64 0, .int .i64 0, .string ⟨#[]⟩, .string ⟨#[]⟩, .bool false, .int .i64 0, .slice none 0 0, .slice none 0 0, .slice none 0 0, .int .i64 0, .int .i64 0, .string ⟨#[]⟩, .int .u64 0, .slice none 0 0, .slice none 0 0, .slice none 0 0, .slice none 0 0, .int .i64 0, .string ⟨#[]⟩, .string ⟨#[]⟩, .int .u64 0, .int .i64 0] 50)
  have RA7 := RA6.alloc (.cells #[.bool false, .int .u64 0, .int .u64 0, .int .i64 0, .int .i64 0, .string ⟨#[]⟩, .string ⟨#[]⟩, .bool false, .int .i64 0, .slice none 0 0, .slice none 0 0, .slice none 0 0, .int .i64 0, .int .i64 0, .string ⟨#[]⟩, .int .u64 0, .slice none 0 0, .slice none 0 0, .slice none 0 0, .slice none 0 0, .int .i64 0, .string ⟨#[]⟩, .string ⟨#[]⟩, .int .u64 0, .int .i64 0] 50)
  have RB7 := Blk.new w6 #[.bool false, .int .u64 0, .int .u64 0, .int .i64 0, .int .i64 0, .string ⟨#[]⟩, .string ⟨#[]⟩, .bool false, .int .i64 0, .slice none 0 0, .slice none 0 0, .slice none 0 0, .int .i64 0, .int .i64 0, .string ⟨#[]⟩, .int .u64 0, .slice none 0 0, .slice none 0 0, .slice none 0 0, .slice none 0 0, .int .i64 0, .string ⟨#[]⟩, .string ⟨#[]⟩, .int .u64 0, .int .i64 0] 50
  clear hM5 hB5 hM6 hF6 hB6 RA5 RA6
  go_wp2_with (refine wpList_store_row rfl 50 _ _ rfl _ _ rfl rfl 50 _ (Blk.new w6 _ _).h (by kernel_rfl) (by rfl) (by kernel_rfl) ?_; rw [World.setRow_alloc_new])
  refine (mlen_any _ hM7).mono ?_
  rw [ex4]
  rintro e w8 ⟨rfl, rfl⟩
  go_wp2_with fail
  refine (gate_any _ hM7).mono ?_
  rw [ex5]
  rintro e w8 ⟨rfl, hb8⟩
  have hM8 := hM7.below hb8
  have hB8 := below_push2 hB7 hb8 (Nat.le_refl _)
  have r0 := (RA7.below hb8).at 0 rfl
  have s0 := (RB7.below hb8).at 0 rfl
  clear hM7 hB7 hb8 RA7 RB7
  go_wp2_with fail
  refine (do_load 18 0 0 _ _ _ _ _ _ _ _ _ _ _ _ _ _ _ _ _ _ _ _ _ _ _ hM8).mono ?_
  rw [ex3]
  rintro e w9 ⟨rfl, hb9⟩
  go_wp2_with fail
  go_ret
  exact ⟨rfl, below_push2 hB8 hb9 (Nat.le_refl _)⟩
end Go.Proofs.Ytpempcefgfmniaa.MemP

/-
  A memory that no call made: named, Block, Hazard: contracts.
-/
namespace Go.Proofs.Ytpempcefgfmniaa.MemP
open Go.RowKit RefP CellP
set_option linter.unusedVariables false
set_option linter.unusedSimpArgs false
set_option maxHeartbeats 1600000 in
theorem named_zero (o : Nat) (x : Int) (w : World) (h : NoMem w o) (x0 : 0 ≤ x) (x1 : x ≤ 18446744073709551615) : Calls Try.prog 48 #[.pointer (some ⟨o, 0, none⟩), .int .u64 x] w fun e w' => e = .returned (.tuple #[.int .i64 0, .bool false]) ∧ Below w.heap.size w w' := by
  have hp := (open_bounds x).1
  have q1 : decide ((0 : Int) ≤ openP x) = true := by simpa using hp
  cases ho : opensB x
  · go_enter Try.func48, Try.ntmps48
    go_wp2_with fail
    refine (open_any _ _ x0 x1).mono ?_
    rw [ho]
    rintro e w1 ⟨rfl, hb1⟩
    go_wp2_with fail
    go_ret2
    exact ⟨rfl, hb1⟩
  · go_enter Try.func48, Try.ntmps48
    go_wp2_with fail
    refine (open_any _ _ x0 x1).mono ?_
    rw [ho]
    rintro e w1 ⟨rfl, hb1⟩
    go_wp2_with fail
    refine (arena_zero _ _ (h.below hb1)).mono ?_
    rintro e w2 ⟨rfl, rfl⟩
    go_wp2_with fail
    go_ret2
    exact ⟨rfl, hb1⟩
abbrev zbA : Array Value := #[.int .i64 0, .int .i64 0, .string ⟨#[]⟩, .string ⟨#[]⟩, .bool false, .int .i64 0, .slice none 0 0, .slice none 0 0, .slice none 0 0, .int .i64 0, .int .i64 0, .string ⟨#[]⟩, .int .u64 0, .slice none 0 0, .slice none 0 0, .slice none 0 0, .slice none 0 0]
theorem results_cell_tmp {P : Program} {fn : Func} {p q : Tmp} {ty : TypeId} (h : fn.results = #[.cell p ty, .tmp q]) (tmps : Array Value) (w : World) (g : Nat) (t : TypeId) (cs : Array Value) (fr : Nat × Nat) (d : TypeDesc)
    (v : Value) (hv : tmps.getD q undef = v) (hp : tmps.getD p undef = .pointer (some ⟨g, 0, none⟩)) (hg : w.heap[g]? = some (.cells cs t fr))
    (hu : P.underlying ty = some d) (hd : (match d with | .struct _ | .array _ _ => true | _ => false) = true) (hi : (P.info? ty).map (·.size) = some cs.size) :
    (results fn tmps).run P w = .ok (.tuple #[.agg cs, v]) w := by
  subst hv
  have hp' : tmps[p]?.getD undef = .pointer (some ⟨g, 0, none⟩) := by simpa using hp
  simp [results, h, hp', asAddr, run_loadVar_row w g t ty cs fr d hg hu hd hi]
set_option maxRecDepth 100000 in
set_option maxHeartbeats 1600000 in
theorem block_zero (o : Nat) (x : Int) (w : World) (h : NoMem w o) (x0 : 0 ≤ x) (x1 : x ≤ 18446744073709551615) : Calls Try.prog 13 #[.pointer (some ⟨o, 0, none⟩), .int .u64 x] w fun e w' => e = .returned (.tuple #[.agg zbA, .bool false]) ∧ Below w.heap.size w w' := by
  have hb0 : Below w.heap.size w (w.alloc (.cells zbA 35)) := by (repeat (first | exact Below.refl _ _ | assumption | refine below_alloc2 ?_ (by first | exact Nat.le_refl _ | omega) _ | refine Below.drew ?_ | refine below_drewN ?_ _ | refine below_push2 ?_ ‹_› (by first | exact Nat.le_refl _ | omega) | refine Below.setCell ?_ (by first | (simp; done) | (simp; omega) | omega) _))
  go_enter Try.func13, Try.ntmps13
  go_wp2_with fail
  refine (named_zero _ _ _ (h.below hb0) x0 x1).mono ?_
  rintro e w1 ⟨rfl, hb1⟩
  have hB1 := below_push2 hb0 hb1 (Nat.le_refl _)
  have BR := (Blk.new w zbA 35).below hb1
  go_wp2_with (refine wpList_store_row rfl 35 _ _ rfl w.heap.size _ rfl rfl 35 _ BR.h (by kernel_rfl) (by rfl) (by kernel_rfl) ?_)
  refine bodyPost_ret (v := .tuple #[.agg zbA, .bool false]) (results_cell_tmp rfl _ _ w.heap.size 35 zbA (0, 0) _ (.bool false) rfl rfl (Blk.row BR zbA).h Try.underlying35 rfl (by kernel_rfl)) rfl ⟨rfl, below_setRow hB1 (by omega) _⟩
set_option maxHeartbeats 800000 in
theorem haz_zero (o : Nat) (w : World) (h : NoMem w o) : Calls Try.prog 19 #[.pointer (some ⟨o, 0, none⟩), .int .i64 0, .int .i64 0] w fun e w' => e = .returned (.int .i64 (-1)) ∧ w = w' := by
  go_enter Try.func19, Try.ntmps19
  go_wp2_with fail
  refine (threads_zero _ _ h).mono ?_
  rintro e w2 ⟨rfl, rfl⟩
  go_wp2_with fail
  go_ret
  exact ⟨rfl, rfl⟩
end Go.Proofs.Ytpempcefgfmniaa.MemP

/-
  ref.State, the document's Open and State: contracts, each for every word.
-/
namespace Go.Proofs.Ytpempcefgfmniaa.RefP
open Go.RowKit
set_option linter.unusedVariables false

set_option maxHeartbeats 800000 in
theorem dopen_any (x : Int) (w : World) (h2 : 0 ≤ x) (h3 : x ≤ 18446744073709551615) :
    Calls Try.prog 62 #[.int .u64 x] w fun e w' => e = .returned (.tuple #[.int .i64 (openP x), .int .u64 (openG x), .bool (opensB x)]) ∧ w = w' := by
  cases ho : opensB x
  · have hn := opensB_no ho
    have hv : Hid (Ending.returned (.tuple #[.int .i64 (openP x), .int .u64 (openG x), .bool false]) = .returned (.tuple #[.int .i64 0, .int .u64 0, .bool false])) := ret_3 (openP_no ho) (openG_no ho) rfl
    clear ho
    rcases (show x % 16384 < 1 ∨ (¬ x % 16384 < 1 ∧ 8192 < x % 16384) ∨ (¬ x % 16384 < 1 ∧ ¬ 8192 < x % 16384 ∧ x / 16384 < 1) ∨ (¬ x % 16384 < 1 ∧ ¬ 8192 < x % 16384 ∧ ¬ x / 16384 < 1 ∧ 4294967295 < x / 16384) by omega) with h | ⟨h, k⟩ | ⟨h, k, l⟩ | ⟨h, k, l, m⟩
    all_goals
      clear hn
      go_enter Try.func62, Try.ntmps62
      go_wp2
      go_ret3
      exact ⟨hv.out.symm, rfl⟩
  · have hn := opensB_yes ho
    have hv : Hid (Ending.returned (.tuple #[.int .i64 (openP x), .int .u64 (openG x), .bool true]) = .returned (.tuple #[.int .i64 (x % 16384 - 1), .int .u64 (x / 16384), .bool true])) := ret_3 (openP_yes ho) (openG_yes ho) rfl
    clear ho
    obtain ⟨a, b, c, d⟩ := hn
    go_enter Try.func62, Try.ntmps62
    go_wp2
    go_ret3
    exact ⟨hv.out.symm, rfl⟩

end Go.Proofs.Ytpempcefgfmniaa.RefP

/-
  ref.Shut, ref.Gated and the document's: contracts, each for every gate and word.
-/
namespace Go.Proofs.Ytpempcefgfmniaa.RefP
open Go.RowKit
set_option linter.unusedVariables false

theorem gateB_two (t x : Int) (h0 : 0 ≤ t) (h1 : t ≤ 15) : gateB 2 t x = opensB x := by
  cases ho : opensB x
  · exact gateB_mk_no (by simp [ho])
  · exact gateB_mk ⟨h0, h1, .inr (.inr ⟨rfl, ho⟩)⟩
theorem gateB_zero (t x : Int) (h0 : 0 ≤ t) (h1 : t ≤ 15) : gateB 0 t x = (t == 0 && x == 0) := by
  by_cases a : t = 0 ∧ x = 0
  · obtain ⟨rfl, rfl⟩ := a
    exact gateB_mk (by omega)
  · rw [gateB_mk_no (by omega)]
    by_cases b : t = 0
    · have : ¬ x = 0 := fun e => a ⟨b, e⟩
      simp [this]
    · simp [b]
theorem gateB_one (t x : Int) (h0 : 0 ≤ t) (h1 : t ≤ 15) : gateB 1 t x = (x == 0) := by
  by_cases a : x = 0
  · subst a; exact gateB_mk (by omega)
  · rw [gateB_mk_no (by omega)]; simp [a]
theorem gateB_three (t x : Int) (h0 : 0 ≤ t) (h1 : t ≤ 15) : gateB 3 t x = (x == 0) := by
  by_cases a : x = 0
  · subst a; exact gateB_mk (by omega)
  · rw [gateB_mk_no (by omega)]; simp [a]
set_option maxHeartbeats 800000 in
theorem sound_any (s t x : Int) (w : World) (s0 : -9223372036854775808 ≤ s) (s1 : s ≤ 9223372036854775807) (t0 : -9223372036854775808 ≤ t) (t1 : t ≤ 9223372036854775807) (h2 : 0 ≤ x) (h3 : x ≤ 18446744073709551615) :
    Calls Try.prog 66 #[.agg #[.int .i64 s, .int .i64 t, .int .u64 x]] w fun e w' => e = .returned (.bool (gateB s t x)) ∧ Below w.heap.size w w' := by
  by_cases c : s < 0 ∨ (¬ s < 0 ∧ 3 < s) ∨ (¬ s < 0 ∧ ¬ 3 < s ∧ t < 0) ∨ (¬ s < 0 ∧ ¬ 3 < s ∧ ¬ t < 0 ∧ 16 ≤ t)
  · rw [gateB_mk_no (s := s) (t := t) (x := x) (by omega)]
    rcases c with h | ⟨h, k⟩ | ⟨h, k, l⟩ | ⟨h, k, l, m⟩
    all_goals
      go_enter Try.func66, Try.ntmps66
      go_wp2
      go_ret
      exact ⟨rfl, (Below.refl _ _).alloc (Nat.le_refl _) _⟩
  · have c1 : 0 ≤ s := by omega
    have c2 : s ≤ 3 := by omega
    have c3 : 0 ≤ t := by omega
    have c4 : t ≤ 15 := by omega
    clear c
    rcases (show s = 2 ∨ s = 0 ∨ s = 1 ∨ s = 3 by omega) with rfl | rfl | rfl | rfl
    · go_enter Try.func66, Try.ntmps66
      go_wp2_with fail
      refine (open_any _ _ (by omega) (by omega)).mono ?_
      rintro e w1 ⟨rfl, hb1⟩
      have hc := hb1.cell (p := ⟨w.heap.size, 0, none⟩) (by simp)
      go_wp2_with fail
      go_ret
      exact ⟨ret_b (gateB_two t x c3 c4).symm, below_call hb1⟩
    · go_enter Try.func66, Try.ntmps66
      go_wp2_with fail
      refine (open_any _ _ (by omega) (by omega)).mono ?_
      rintro e w1 ⟨rfl, hb1⟩
      have hc := hb1.cell (p := ⟨w.heap.size, 0, none⟩) (by simp)
      have hd := hb1.cell (p := ⟨w.heap.size, 1, none⟩) (by simp)
      have he := hb1.cell (p := ⟨w.heap.size, 2, none⟩) (by simp)
      go_wp2_with fail
      all_goals
        go_ret
        refine ⟨ret_b ?_, below_call hb1⟩
        rw [gateB_zero _ _ (by omega) (by omega)]
        simp [*]
    · go_enter Try.func66, Try.ntmps66
      go_wp2_with fail
      refine (open_any _ _ (by omega) (by omega)).mono ?_
      rintro e w1 ⟨rfl, hb1⟩
      have hc := hb1.cell (p := ⟨w.heap.size, 0, none⟩) (by simp)
      have he := hb1.cell (p := ⟨w.heap.size, 2, none⟩) (by simp)
      go_wp2_with fail
      go_ret
      exact ⟨ret_b (gateB_one t x c3 c4).symm, below_call hb1⟩
    · go_enter Try.func66, Try.ntmps66
      go_wp2_with fail
      refine (open_any _ _ (by omega) (by omega)).mono ?_
      rintro e w1 ⟨rfl, hb1⟩
      have hc := hb1.cell (p := ⟨w.heap.size, 0, none⟩) (by simp)
      have he := hb1.cell (p := ⟨w.heap.size, 2, none⟩) (by simp)
      go_wp2_with fail
      go_ret
      exact ⟨ret_b (gateB_three t x c3 c4).symm, below_call hb1⟩

set_option maxHeartbeats 800000 in
theorem may_any (s t x : Int) (w : World) (s0 : -9223372036854775808 ≤ s) (s1 : s ≤ 9223372036854775807) (t0 : -9223372036854775808 ≤ t) (t1 : t ≤ 9223372036854775807) (h2 : 0 ≤ x) (h3 : x ≤ 18446744073709551615) :
    Calls Try.prog 63 #[.agg #[.int .i64 s, .int .i64 t, .int .u64 x]] w fun e w' => e = .returned (.bool (gateB s t x)) ∧ Below w.heap.size w w' := by
  by_cases c : t < 0 ∨ (¬ t < 0 ∧ 15 < t)
  · rw [gateB_mk_no (s := s) (t := t) (x := x) (by omega)]
    rcases c with h | ⟨h, k⟩
    all_goals
      go_enter Try.func63, Try.ntmps63
      go_wp2
      go_ret
      exact ⟨rfl, (Below.refl _ _).alloc (Nat.le_refl _) _⟩
  · have c3 : 0 ≤ t := by omega
    have c4 : t ≤ 15 := by omega
    clear c
    by_cases c2 : s = 0 ∨ s = 1 ∨ s = 2 ∨ s = 3
    · rcases c2 with rfl | rfl | rfl | rfl
      · go_enter Try.func63, Try.ntmps63
        go_wp2_with fail
        refine (dopen_any _ _ (by omega) (by omega)).mono ?_
        rintro e w1 ⟨rfl, rfl⟩
        go_wp2_with fail
        all_goals
          go_ret
          refine ⟨ret_b ?_, (Below.refl _ _).alloc (Nat.le_refl _) _⟩
          rw [gateB_zero _ _ (by omega) (by omega)]
          simp [*]
      · go_enter Try.func63, Try.ntmps63
        go_wp2_with fail
        refine (dopen_any _ _ (by omega) (by omega)).mono ?_
        rintro e w1 ⟨rfl, rfl⟩
        go_wp2_with fail
        go_ret
        exact ⟨ret_b (gateB_one t x c3 c4).symm, (Below.refl _ _).alloc (Nat.le_refl _) _⟩
      · go_enter Try.func63, Try.ntmps63
        go_wp2_with fail
        refine (dopen_any _ _ (by omega) (by omega)).mono ?_
        rintro e w1 ⟨rfl, rfl⟩
        go_wp2_with fail
        go_ret
        exact ⟨ret_b (gateB_two t x c3 c4).symm, (Below.refl _ _).alloc (Nat.le_refl _) _⟩
      · go_enter Try.func63, Try.ntmps63
        go_wp2_with fail
        refine (dopen_any _ _ (by omega) (by omega)).mono ?_
        rintro e w1 ⟨rfl, rfl⟩
        go_wp2_with fail
        go_ret
        exact ⟨ret_b (gateB_three t x c3 c4).symm, (Below.refl _ _).alloc (Nat.le_refl _) _⟩
    · have q0 : (s == 0) = false := not_eq (by omega)
      have q1 : (s == 1) = false := not_eq (by omega)
      have q2 : (s == 2) = false := not_eq (by omega)
      have q3 : (s == 3) = false := not_eq (by omega)
      rw [gateB_mk_no (s := s) (t := t) (x := x) (by omega)]
      clear c2
      go_enter Try.func63, Try.ntmps63
      go_wp2_with fail
      refine (dopen_any _ _ (by omega) (by omega)).mono ?_
      rintro e w1 ⟨rfl, rfl⟩
      go_wp2_with fail
      go_ret
      exact ⟨rfl, (Below.refl _ _).alloc (Nat.le_refl _) _⟩

set_option maxHeartbeats 800000 in
theorem shut_any (s t x : Int) (w : World) (s0 : -9223372036854775808 ≤ s) (s1 : s ≤ 9223372036854775807) (t0 : -9223372036854775808 ≤ t) (t1 : t ≤ 9223372036854775807) (h2 : 0 ≤ x) (h3 : x ≤ 18446744073709551615) :
    Calls Try.prog 44 #[.agg #[.int .i64 s, .int .i64 t, .int .u64 x]] w fun e w' => e = .returned (.int .u64 (shutI s t x)) ∧ Below w.heap.size w w' := by
  cases hg : gateB s t x
  · have hv : Hid (shutI s t x = 18446744073709551615) := (shutI_no hg).trans topW_eq
    go_enter Try.func44, Try.ntmps44
    go_wp2_with fail
    refine (sound_any s t x _ s0 s1 t0 t1 h2 h3).mono ?_
    rintro e w1 ⟨rfl, hb1⟩
    go_wp2_with fail
    go_ret
    exact ⟨ret_u64 hv.out.symm, below_call hb1⟩
  · have hv : Hid (shutI s t x = s * 4611686018427387904 + t * 72057594037927936 + x) := shutI_yes hg
    obtain ⟨b1, b2, b3, b4, b5⟩ := gateB_bounds hg h2
    have hk := Lib.hid (shut_bits s t x b1 b2 b3 b4 h2 b5)
    go_enter Try.func44, Try.ntmps44
    go_wp2_with fail
    refine (sound_any s t x _ s0 s1 t0 t1 h2 h3).mono ?_
    rintro e w1 ⟨rfl, hb1⟩
    have hc := hb1.cell (p := ⟨w.heap.size, 0, none⟩) (by simp)
    have hd := hb1.cell (p := ⟨w.heap.size, 1, none⟩) (by simp)
    have he := hb1.cell (p := ⟨w.heap.size, 2, none⟩) (by simp)
    go_wp2_with fail
    go_ret
    exact ⟨ret_u64 (hk.out.trans hv.out.symm), below_call hb1⟩

end Go.Proofs.Ytpempcefgfmniaa.RefP

/-
  carry: a task that is none: contracts.
-/
namespace Go.Proofs.Ytpempcefgfmniaa.MemP
open Go.RowKit RefP CellP
set_option linter.unusedVariables false
set_option linter.unusedSimpArgs false
/-- an access without a block and an operation -/
abbrev accY (k i ver word : Int) : Array Value := #[.int .i64 k, .int .i64 i, .int .u64 ver, .int .u64 word, .int .i64 0, .int .i64 0, .string ⟨#[]⟩, .string ⟨#[]⟩, .bool false, .int .i64 0, .slice none 0 0, .slice none 0 0, .slice none 0 0, .int .i64 0, .int .i64 0, .string ⟨#[]⟩, .int .u64 0, .slice none 0 0, .slice none 0 0, .slice none 0 0, .slice none 0 0, .int .i64 0, .string ⟨#[]⟩, .string ⟨#[]⟩, .int .u64 0, .int .i64 0]
abbrev carA (m : Option Addr) (hp s t x ver at_ : Int) (st : Value) (done : Int) (tu en : Bool) : Array Value := #[.pointer m, .int .i64 hp, .int .i64 s, .int .i64 t, .int .u64 x, .int .u64 ver, .int .i64 at_, st, .int .u64 done, .bool tu, .bool en]
theorem setCell_self {w : World} {b i : Nat} {cs : Array Value} {T : TypeId} (h : Blk w b cs T) {v : Value} (hv : cs[i]? = some v) : w.setCell ⟨b, i, none⟩ v = w := by
  have e : cs.setIfInBounds i v = cs := by
    apply Array.ext_getElem?
    intro k
    rw [Array.getElem?_setIfInBounds]
    split
    · rename_i hk
      subst hk
      split
      · exact hv.symm
      · rename_i hn
        rw [Array.getElem?_eq_none (by omega)] at hv; cases hv
    · rfl
  have e2 : ∀ f : Obj → Obj, f (.cells cs T (0, 0)) = .cells cs T (0, 0) → w.heap.modify b f = w.heap := by
    intro f hf
    apply Array.ext_getElem?
    intro k
    rw [Array.getElem?_modify]
    split
    · rename_i hk
      subst hk
      rw [h.h]; simp [hf]
    · rfl
  unfold World.setCell
  rw [e2 _ (by simp [e])]
set_option maxHeartbeats 800000 in
theorem haz_nil (t : Int) (w : World) : Calls Try.prog 19 #[.pointer none, .int .i64 t, .int .i64 0] w fun e w' => e = .returned (.int .i64 (-1)) ∧ w = w' := by
  by_cases h3 : t < 0
  · have q3 : decide (t < 0) = true := by simpa using h3
    go_enter Try.func19, Try.ntmps19
    go_wp2_with fail
    go_ret
    exact ⟨rfl, rfl⟩
  · have q3 : decide (t < 0) = false := by simpa using h3
    have q4 : decide (0 ≤ t) = true := by simp; omega
    go_enter Try.func19, Try.ntmps19
    go_wp2_with fail
    refine (threads_nil _).mono ?_
    rintro e w1 ⟨rfl, rfl⟩
    go_wp2_with fail
    go_ret
    exact ⟨rfl, rfl⟩
abbrev CNew (w : World) (m : Option Addr) (hp s t x ver at_ : Int) (e : Ending) (w' : World) : Prop := e = .returned (.pointer (some ⟨w.heap.size + 1, 0, none⟩)) ∧ Blk w' (w.heap.size + 1) (carA m hp s t x ver at_ (.slice none 0 0) 0 false false) 100 ∧ Below w.heap.size w w'
set_option maxHeartbeats 1600000 in
theorem cnew_nil (hp s t x ver : Int) (w : World) (s0 : -9223372036854775808 ≤ s) (s1 : s ≤ 9223372036854775807) (t0 : -9223372036854775808 ≤ t) (t1 : t ≤ 9223372036854775807) (x0 : 0 ≤ x) (x1 : x ≤ 18446744073709551615) :
    Calls Try.prog 34 #[.pointer none, .int .i64 hp, .agg #[.int .i64 s, .int .i64 t, .int .u64 x], .int .u64 ver] w (CNew w none hp s t x ver 8) := by
  have hb2 : Below w.heap.size w ((w.alloc (.cells #[.int .i64 s, .int .i64 t, .int .u64 x] 82)).alloc (.cells (carA none hp s t x ver 0 (.slice none 0 0) 0 false false) 100)) := by (repeat (first | exact Below.refl _ _ | assumption | refine below_alloc2 ?_ (by first | exact Nat.le_refl _ | omega) _ | refine Below.drew ?_ | refine below_drewN ?_ _ | refine below_push2 ?_ ‹_› (by first | exact Nat.le_refl _ | omega) | refine Below.setCell ?_ (by first | (simp; done) | (simp; omega) | omega) _))
  have BG := (Blk.new w #[.int .i64 s, .int .i64 t, .int .u64 x] 82).alloc (.cells (carA none hp s t x ver 0 (.slice none 0 0) 0 false false) 100)
  have BT : Blk ((w.alloc (.cells #[.int .i64 s, .int .i64 t, .int .u64 x] 82)).alloc (.cells (carA none hp s t x ver 0 (.slice none 0 0) 0 false false) 100)) (w.heap.size + 1) (carA none hp s t x ver 0 (.slice none 0 0) 0 false false) 100 := by
    have := Blk.new (w.alloc (.cells #[.int .i64 s, .int .i64 t, .int .u64 x] 82)) (carA none hp s t x ver 0 (.slice none 0 0) 0 false false) 100
    simpa using this
  have hs := shut_any s t x
  cases h1 : (shutI s t x == 18446744073709551615)
  · by_cases h2 : s < 2
    · have q2 : decide (s < 2) = true := by simpa using h2
      clear h2
      go_enter Try.func34, Try.ntmps34
      go_wp2_with fail
      refine (hs _ s0 s1 t0 t1 x0 x1).mono ?_
      rintro e w1 ⟨rfl, hb1⟩
      have hB1 := below_push2 hb2 hb1 (Nat.le_refl _)
      replace BG := BG.below hb1
      replace BT := BT.below hb1
      have g0 : w1.cell? ⟨w.heap.size, 0, none⟩ = some (.int .i64 s) := BG.at 0 rfl
      have g1 : w1.cell? ⟨w.heap.size, 1, none⟩ = some (.int .i64 t) := BG.at 1 rfl
      have f6 := BT.free 6
      have c6 : w1.cell? ⟨w.heap.size + 1, 6, none⟩ = some (.int .i64 0) := BT.at 6 rfl
      go_wp2_with fail
      go_ret
      exact ⟨rfl, by simpa [carA] using BT.set 6 (.int .i64 8), hB1.setCell (by simp) _⟩
    · have q2 : decide (s < 2) = false := by simpa using h2
      clear h2
      go_enter Try.func34, Try.ntmps34
      go_wp2_with fail
      refine (hs _ s0 s1 t0 t1 x0 x1).mono ?_
      rintro e w1 ⟨rfl, hb1⟩
      have hB1 := below_push2 hb2 hb1 (Nat.le_refl _)
      replace BG := BG.below hb1
      replace BT := BT.below hb1
      have g0 : w1.cell? ⟨w.heap.size, 0, none⟩ = some (.int .i64 s) := BG.at 0 rfl
      have g1 : w1.cell? ⟨w.heap.size, 1, none⟩ = some (.int .i64 t) := BG.at 1 rfl
      have f6 := BT.free 6
      have c6 : w1.cell? ⟨w.heap.size + 1, 6, none⟩ = some (.int .i64 0) := BT.at 6 rfl
      go_wp2_with fail
      refine (haz_nil _ _).mono ?_
      rintro e w2 ⟨rfl, rfl⟩
      go_wp2_with fail
      go_ret
      exact ⟨rfl, by simpa [carA] using BT.set 6 (.int .i64 8), hB1.setCell (by simp) _⟩
  · go_enter Try.func34, Try.ntmps34
    go_wp2_with fail
    refine (hs _ s0 s1 t0 t1 x0 x1).mono ?_
    rintro e w1 ⟨rfl, hb1⟩
    have hB1 := below_push2 hb2 hb1 (Nat.le_refl _)
    replace BG := BG.below hb1
    replace BT := BT.below hb1
    have g0 : w1.cell? ⟨w.heap.size, 0, none⟩ = some (.int .i64 s) := BG.at 0 rfl
    have g1 : w1.cell? ⟨w.heap.size, 1, none⟩ = some (.int .i64 t) := BG.at 1 rfl
    have f6 := BT.free 6
    have c6 : w1.cell? ⟨w.heap.size + 1, 6, none⟩ = some (.int .i64 0) := BT.at 6 rfl
    go_wp2_with fail
    go_ret
    exact ⟨rfl, by simpa [carA] using BT.set 6 (.int .i64 8), hB1.setCell (by simp) _⟩
theorem shut_low {s t x : Int} (h : (shutI s t x == 18446744073709551615) = false) (x0 : 0 ≤ x) : 0 ≤ s ∧ s ≤ 3 := by
  cases hg : gateB s t x
  · rw [shutI_no hg, topW_eq] at h; simp at h
  · have := gateB_bounds hg x0; omega
set_option maxHeartbeats 1600000 in
theorem cnew_not (m : Option Addr) (hp s t x ver : Int) (w : World) (hs2 : ¬ s = 2) (hs3 : ¬ s = 3) (s0 : -9223372036854775808 ≤ s) (s1 : s ≤ 9223372036854775807) (t0 : -9223372036854775808 ≤ t) (t1 : t ≤ 9223372036854775807) (x0 : 0 ≤ x) (x1 : x ≤ 18446744073709551615) :
    Calls Try.prog 34 #[.pointer m, .int .i64 hp, .agg #[.int .i64 s, .int .i64 t, .int .u64 x], .int .u64 ver] w (CNew w m hp s t x ver 8) := by
  have hb2 : Below w.heap.size w ((w.alloc (.cells #[.int .i64 s, .int .i64 t, .int .u64 x] 82)).alloc (.cells (carA m hp s t x ver 0 (.slice none 0 0) 0 false false) 100)) := by (repeat (first | exact Below.refl _ _ | assumption | refine below_alloc2 ?_ (by first | exact Nat.le_refl _ | omega) _ | refine Below.drew ?_ | refine below_drewN ?_ _ | refine below_push2 ?_ ‹_› (by first | exact Nat.le_refl _ | omega) | refine Below.setCell ?_ (by first | (simp; done) | (simp; omega) | omega) _))
  have BG := (Blk.new w #[.int .i64 s, .int .i64 t, .int .u64 x] 82).alloc (.cells (carA m hp s t x ver 0 (.slice none 0 0) 0 false false) 100)
  have BT : Blk ((w.alloc (.cells #[.int .i64 s, .int .i64 t, .int .u64 x] 82)).alloc (.cells (carA m hp s t x ver 0 (.slice none 0 0) 0 false false) 100)) (w.heap.size + 1) (carA m hp s t x ver 0 (.slice none 0 0) 0 false false) 100 := by
    have := Blk.new (w.alloc (.cells #[.int .i64 s, .int .i64 t, .int .u64 x] 82)) (carA m hp s t x ver 0 (.slice none 0 0) 0 false false) 100
    simpa using this
  have hs := shut_any s t x
  cases h1 : (shutI s t x == 18446744073709551615)
  · have hl := shut_low h1 x0
    have q2 : decide (s < 2) = true := by simp; omega
    clear hl hs2 hs3
    go_enter Try.func34, Try.ntmps34
    go_wp2_with fail
    refine (hs _ s0 s1 t0 t1 x0 x1).mono ?_
    rintro e w1 ⟨rfl, hb1⟩
    have hB1 := below_push2 hb2 hb1 (Nat.le_refl _)
    replace BG := BG.below hb1
    replace BT := BT.below hb1
    have g0 : w1.cell? ⟨w.heap.size, 0, none⟩ = some (.int .i64 s) := BG.at 0 rfl
    have g1 : w1.cell? ⟨w.heap.size, 1, none⟩ = some (.int .i64 t) := BG.at 1 rfl
    have f6 := BT.free 6
    have c6 : w1.cell? ⟨w.heap.size + 1, 6, none⟩ = some (.int .i64 0) := BT.at 6 rfl
    go_wp2_with fail
    go_ret
    exact ⟨rfl, by simpa [carA] using BT.set 6 (.int .i64 8), hB1.setCell (by simp) _⟩
  · clear hs2 hs3
    go_enter Try.func34, Try.ntmps34
    go_wp2_with fail
    refine (hs _ s0 s1 t0 t1 x0 x1).mono ?_
    rintro e w1 ⟨rfl, hb1⟩
    have hB1 := below_push2 hb2 hb1 (Nat.le_refl _)
    replace BG := BG.below hb1
    replace BT := BT.below hb1
    have g0 : w1.cell? ⟨w.heap.size, 0, none⟩ = some (.int .i64 s) := BG.at 0 rfl
    have g1 : w1.cell? ⟨w.heap.size, 1, none⟩ = some (.int .i64 t) := BG.at 1 rfl
    have f6 := BT.free 6
    have c6 : w1.cell? ⟨w.heap.size + 1, 6, none⟩ = some (.int .i64 0) := BT.at 6 rfl
    go_wp2_with fail
    go_ret
    exact ⟨rfl, by simpa [carA] using BT.set 6 (.int .i64 8), hB1.setCell (by simp) _⟩
/-- a task that is none: of no memory, or over -/
def NoCar (w : World) (t : Nat) (en : Bool) : Prop := ∃ m hp s tt x ver at_ st done, Blk w t (carA m hp s tt x ver at_ st done false en) 100 ∧ (m = none ∨ at_ = 8 ∧ ∃ o oc g gb gr A T L bs rs, m = some ⟨o, 0, none⟩ ∧ MemAt w o oc g gb gr A T L bs rs)
theorem NoCar.below {w w' : World} {t : Nat} {en : Bool} (h : NoCar w t en) (hb : Below w.heap.size w w') : NoCar w' t en := by
  obtain ⟨m, hp, s, tt, x, ver, at_, st, done, B, hm⟩ := h
  refine ⟨m, hp, s, tt, x, ver, at_, st, done, B.below hb, ?_⟩
  rcases hm with hm | ⟨ha, o, oc, g, gb, gr, A, T, L, bs, rs, e, hM⟩
  · exact .inl hm
  · exact .inr ⟨ha, o, oc, g, gb, gr, A, T, L, bs, rs, e, hM.below hb⟩
set_option maxHeartbeats 800000 in
theorem cnone_nil (w : World) : Calls Try.prog 64 #[.pointer none] w fun e w' => e = .returned (.bool true) ∧ w = w' := by
  go_enter Try.func64, Try.ntmps64
  go_wp2_with fail
  go_ret
  exact ⟨rfl, rfl⟩
set_option maxHeartbeats 800000 in
theorem cnone_no (t : Nat) (en : Bool) (w : World) (h : NoCar w t en) : Calls Try.prog 64 #[.pointer (some ⟨t, 0, none⟩)] w fun e w' => e = .returned (.bool true) ∧ w = w' := by
  obtain ⟨m, hp, s, tt, x, ver, at_, st, done, B, hm⟩ := h
  have c0 := B.at 0 rfl
  have c6 := B.at 6 rfl
  rcases hm with rfl | ⟨rfl, o, oc, g, gb, gr, A, T, L, bs, rs, rfl, hM⟩
  · go_enter Try.func64, Try.ntmps64
    go_wp2_with fail
    refine (arena_nil _).mono ?_
    rintro e w1 ⟨rfl, rfl⟩
    go_wp2_with fail
    go_ret
    exact ⟨rfl, rfl⟩
  · have hA := hM.a1
    have q : ((A : Int) == 0) = false := by simp; omega
    clear hA
    go_enter Try.func64, Try.ntmps64
    go_wp2_with fail
    refine (arena_any _ hM).mono ?_
    rintro e w1 ⟨rfl, rfl⟩
    go_wp2_with fail
    go_ret
    exact ⟨rfl, rfl⟩
set_option maxRecDepth 100000 in
set_option maxHeartbeats 1600000 in
theorem cTell_nil (w : World) : Calls Try.prog 40 #[.pointer none, .agg #[.bool true, .int .u64 0, .int .u64 0, .int .i64 0, .int .i64 0, .string ⟨#[]⟩, .string ⟨#[]⟩, .bool false, .int .i64 0, .slice none 0 0, .slice none 0 0, .slice none 0 0, .int .i64 0, .int .i64 0, .string ⟨#[]⟩, .int .u64 0, .slice none 0 0, .slice none 0 0, .slice none 0 0, .slice none 0 0, .int .i64 0, .string ⟨#[]⟩, .string ⟨#[]⟩, .int .u64 0, .int .i64 0]] w fun e w' => e = .returned (.tuple #[]) ∧ Below w.heap.size w w' := by
  have hb0 : Below w.heap.size w (w.alloc (.cells #[.bool true, .int .u64 0, .int .u64 0, .int .i64 0, .int .i64 0, .string ⟨#[]⟩, .string ⟨#[]⟩, .bool false, .int .i64 0, .slice none 0 0, .slice none 0 0, .slice none 0 0, .int .i64 0, .int .i64 0, .string ⟨#[]⟩, .int .u64 0, .slice none 0 0, .slice none 0 0, .slice none 0 0, .slice none 0 0, .int .i64 0, .string ⟨#[]⟩, .string ⟨#[]⟩, .int .u64 0, .int .i64 0] 50)) := by (repeat (first | exact Below.refl _ _ | assumption | refine below_alloc2 ?_ (by first | exact Nat.le_refl _ | omega) _ | refine Below.drew ?_ | refine below_drewN ?_ _ | refine below_push2 ?_ ‹_› (by first | exact Nat.le_refl _ | omega) | refine Below.setCell ?_ (by first | (simp; done) | (simp; omega) | omega) _))
  go_enter Try.func40, Try.ntmps40
  go_wp2_with fail
  refine (cnone_nil _).mono ?_
  rintro e w1 ⟨rfl, rfl⟩
  go_wp2_with fail
  refine bodyPost_ret (results_none rfl _ _ _) rfl ?_
  exact ⟨rfl, hb0⟩
set_option maxRecDepth 100000 in
set_option maxHeartbeats 1600000 in
theorem cTell_no (t : Nat) (en : Bool) (w : World) (h : NoCar w t en) : Calls Try.prog 40 #[.pointer (some ⟨t, 0, none⟩), .agg #[.bool true, .int .u64 0, .int .u64 0, .int .i64 0, .int .i64 0, .string ⟨#[]⟩, .string ⟨#[]⟩, .bool false, .int .i64 0, .slice none 0 0, .slice none 0 0, .slice none 0 0, .int .i64 0, .int .i64 0, .string ⟨#[]⟩, .int .u64 0, .slice none 0 0, .slice none 0 0, .slice none 0 0, .slice none 0 0, .int .i64 0, .string ⟨#[]⟩, .string ⟨#[]⟩, .int .u64 0, .int .i64 0]] w fun e w' => e = .returned (.tuple #[]) ∧ Below w.heap.size w w' := by
  have hb0 : Below w.heap.size w (w.alloc (.cells #[.bool true, .int .u64 0, .int .u64 0, .int .i64 0, .int .i64 0, .string ⟨#[]⟩, .string ⟨#[]⟩, .bool false, .int .i64 0, .slice none 0 0, .slice none 0 0, .slice none 0 0, .int .i64 0, .int .i64 0, .string ⟨#[]⟩, .int .u64 0, .slice none 0 0, .slice none 0 0, .slice none 0 0, .slice none 0 0, .int .i64 0, .string ⟨#[]⟩, .string ⟨#[]⟩, .int .u64 0, .int .i64 0] 50)) := by (repeat (first | exact Below.refl _ _ | assumption | refine below_alloc2 ?_ (by first | exact Nat.le_refl _ | omega) _ | refine Below.drew ?_ | refine below_drewN ?_ _ | refine below_push2 ?_ ‹_› (by first | exact Nat.le_refl _ | omega) | refine Below.setCell ?_ (by first | (simp; done) | (simp; omega) | omega) _))
  have h1 := h.below hb0
  have hh := h1
  obtain ⟨m, hp, s, tt, x, ver, at_, st, done, B, hm⟩ := hh
  have f9 := B.free 9
  have c9 := B.at 9 rfl
  have hself := setCell_self (i := 9) (v := .bool false) B rfl
  clear hm B
  go_enter Try.func40, Try.ntmps40
  go_wp2_with fail
  try rw [hself]
  refine (cnone_no t en _ h1).mono ?_
  rintro e w1 ⟨rfl, rfl⟩
  go_wp2_with fail
  refine bodyPost_ret (results_none rfl _ _ _) rfl ?_
  exact ⟨rfl, hb0⟩
set_option maxRecDepth 100000 in
set_option maxHeartbeats 1600000 in
theorem cNext_nil (w : World) : Calls Try.prog 36 #[.pointer none] w fun e w' => e = .returned (.tuple #[.agg (accY 0 0 0 0), .bool false]) ∧ Below w.heap.size w w' := by
  have hB : Below w.heap.size w (w.alloc (.cells (accY 0 0 0 0) 39)) := by (repeat (first | exact Below.refl _ _ | assumption | refine below_alloc2 ?_ (by first | exact Nat.le_refl _ | omega) _ | refine Below.drew ?_ | refine below_drewN ?_ _ | refine below_push2 ?_ ‹_› (by first | exact Nat.le_refl _ | omega) | refine Below.setCell ?_ (by first | (simp; done) | (simp; omega) | omega) _))
  go_enter Try.func36, Try.ntmps36
  go_wp2_with fail
  refine (cnone_nil _).mono ?_
  rintro e w1 ⟨rfl, rfl⟩
  have BR := Blk.new w (accY 0 0 0 0) 39
  go_wp2_with (refine wpList_store_row rfl 39 _ _ rfl w.heap.size _ rfl rfl 39 _ BR.h (by kernel_rfl) (by rfl) (by kernel_rfl) ?_)
  refine bodyPost_ret (v := .tuple #[.agg (accY 0 0 0 0), .bool false]) (results_cell_tmp rfl _ _ w.heap.size 39 (accY 0 0 0 0) (0, 0) _ (.bool false) rfl rfl (Blk.row BR (accY 0 0 0 0)).h Try.underlying39 rfl (by kernel_rfl)) rfl ⟨rfl, below_setRow hB (by omega) _⟩
set_option maxRecDepth 100000 in
set_option maxHeartbeats 1600000 in
theorem cNext_no (t : Nat) (en : Bool) (w : World) (h : NoCar w t en) : Calls Try.prog 36 #[.pointer (some ⟨t, 0, none⟩)] w fun e w' => e = .returned (.tuple #[.agg (accY 0 0 0 0), .bool false]) ∧ Below w.heap.size w w' := by
  have hB : Below w.heap.size w (w.alloc (.cells (accY 0 0 0 0) 39)) := by (repeat (first | exact Below.refl _ _ | assumption | refine below_alloc2 ?_ (by first | exact Nat.le_refl _ | omega) _ | refine Below.drew ?_ | refine below_drewN ?_ _ | refine below_push2 ?_ ‹_› (by first | exact Nat.le_refl _ | omega) | refine Below.setCell ?_ (by first | (simp; done) | (simp; omega) | omega) _))
  go_enter Try.func36, Try.ntmps36
  go_wp2_with fail
  refine (cnone_no t en _ (h.below hB)).mono ?_
  rintro e w1 ⟨rfl, rfl⟩
  have BR := Blk.new w (accY 0 0 0 0) 39
  go_wp2_with (refine wpList_store_row rfl 39 _ _ rfl w.heap.size _ rfl rfl 39 _ BR.h (by kernel_rfl) (by rfl) (by kernel_rfl) ?_)
  refine bodyPost_ret (v := .tuple #[.agg (accY 0 0 0 0), .bool false]) (results_cell_tmp rfl _ _ w.heap.size 39 (accY 0 0 0 0) (0, 0) _ (.bool false) rfl rfl (Blk.row BR (accY 0 0 0 0)).h Try.underlying39 rfl (by kernel_rfl)) rfl ⟨rfl, below_setRow hB (by omega) _⟩
set_option maxHeartbeats 800000 in
theorem cTurned_nil (w : World) : Calls Try.prog 38 #[.pointer none] w fun e w' => e = .returned (.bool false) ∧ w = w' := by
  go_enter Try.func38, Try.ntmps38
  go_wp2_with fail
  go_ret
  exact ⟨rfl, rfl⟩
set_option maxHeartbeats 800000 in
theorem cTurned_any (t : Nat) (m : Option Addr) (hp s tt x ver at_ : Int) (st : Value) (done : Int) (tu en : Bool) (w : World) (B : Blk w t (carA m hp s tt x ver at_ st done tu en) 100) : Calls Try.prog 38 #[.pointer (some ⟨t, 0, none⟩)] w fun e w' => e = .returned (.bool tu) ∧ w = w' := by
  have c0 := B.at 9 rfl
  go_enter Try.func38, Try.ntmps38
  go_wp2_with fail
  go_ret
  exact ⟨rfl, rfl⟩
set_option maxHeartbeats 800000 in
theorem cEnded_nil (w : World) : Calls Try.prog 39 #[.pointer none] w fun e w' => e = .returned (.bool false) ∧ w = w' := by
  go_enter Try.func39, Try.ntmps39
  go_wp2_with fail
  go_ret
  exact ⟨rfl, rfl⟩
set_option maxHeartbeats 800000 in
theorem cEnded_any (t : Nat) (m : Option Addr) (hp s tt x ver at_ : Int) (st : Value) (done : Int) (tu en : Bool) (w : World) (B : Blk w t (carA m hp s tt x ver at_ st done tu en) 100) : Calls Try.prog 39 #[.pointer (some ⟨t, 0, none⟩)] w fun e w' => e = .returned (.bool en) ∧ w = w' := by
  have c0 := B.at 10 rfl
  go_enter Try.func39, Try.ntmps39
  go_wp2_with fail
  go_ret
  exact ⟨rfl, rfl⟩
end Go.Proofs.Ytpempcefgfmniaa.MemP

/-
  Reading a node: plain laws: the accesses one by one; what is got stood in its cell at the moment of which it is sure.
-/
namespace Go.Proofs.Ytpempcefgfmniaa.MemP
open Go.RowKit RefP CellP Dp
set_option linter.unusedVariables false
set_option linter.unusedSimpArgs false
/-- a task of reading -/
structure RS where
  at_ : Int
  st : Int
  su : Bool
  word : Int
  ver : Int
  node : NodeV
def rs0 : RS := ⟨0, 0, false, 0, 0, nodeZ⟩
/-- its next access -/
def rsAcc (A T : Nat) (th cell : Int) (x : RS) : AccV :=
  if x.at_ = 1 then ⟨2, hazI A T th 1, 0, x.word, blockZ, opZ⟩ else if x.at_ = 3 then ⟨4, 0, 0, x.word, blockZ, opZ⟩ else ⟨1, atI A T 0 cell, 0, 0, blockZ, opZ⟩
/-- behind a reply -/
def rsTell (x : RS) (r : ReplyV) : RS :=
  if x.at_ = 0 then ⟨1, if opensB r.word = true then 0 else 1, false, r.word, r.ver, x.node⟩
  else if x.at_ = 1 then ⟨2, 0, false, x.word, x.ver, x.node⟩
  else if x.at_ = 2 then (if r.ver = x.ver then ⟨3, 0, true, x.word, x.ver, x.node⟩ else ⟨3, 2, false, x.word, x.ver, x.node⟩)
  else ⟨4, if r.ok = true ∧ r.block.kind = 1 then 4 else 3, false, x.word, x.ver, r.block.node⟩
theorem at2_set_ne (L : List (Int × Int)) (i j : Nat) (c : Int × Int) (h : i ≠ j) : at2 (L.set i c) j = at2 L j := by
  simp [at2, List.getElem?_set_ne h]
theorem at2_set_self (L : List (Int × Int)) (i : Nat) (c : Int × Int) (h : i < L.length) : at2 (L.set i c) i = c := by
  simp [at2, h]
theorem writeL_off (L : List (Int × Int)) (i word : Int) (j : Nat) (h : i.toNat ≠ j) : at2 (writeL L i word) j = at2 L j := at2_set_ne _ _ _ _ h
theorem doV_L (M : MemV) (a : AccV) : (doV M a).L = M.L ∨ ((a.kind = 2 ∨ a.kind = 3) ∧ inB M.L.length a.at_ = true ∧ (doV M a).L = writeL M.L a.at_ a.word) := by
  unfold doV
  by_cases k2 : a.kind = 2
  · rw [if_pos k2]
    by_cases hi : inB M.L.length a.at_ = true
    · rw [if_pos hi]; exact .inr ⟨.inl k2, hi, storeL_yes _ hi⟩
    · rw [if_neg hi]; exact .inl rfl
  · rw [if_neg k2]
    by_cases k3 : a.kind = 3
    · rw [if_pos k3]
      by_cases hi : casB M.L a.at_ a.ver = true
      · rw [if_pos hi]; exact .inr ⟨.inr k3, casB_in hi, casL_yes _ hi⟩
      · rw [if_neg hi]; exact .inl rfl
    · rw [if_neg k3]
      by_cases k5 : a.kind = 5
      · rw [if_pos k5]; split <;> exact .inl rfl
      · rw [if_neg k5]
        by_cases k7 : a.kind = 7
        · rw [if_pos k7]; split <;> exact .inl rfl
        · rw [if_neg k7]; exact .inl rfl
theorem doV_A (M : MemV) (a : AccV) : (doV M a).A = M.A ∧ (doV M a).T = M.T := by
  unfold doV
  repeat' split
  all_goals exact ⟨rfl, rfl⟩
theorem doV_len (M : MemV) (a : AccV) : (doV M a).L.length = M.L.length := by
  rcases doV_L M a with h | ⟨_, _, h⟩
  · rw [h]
  · rw [h, writeL_length]
/-- versions are few -/
def VB (L : List (Int × Int)) (n : Nat) : Prop := ∀ p ∈ L, 0 ≤ p.2 ∧ p.2 ≤ (n : Int)
theorem VB.at {L : List (Int × Int)} {n : Nat} (h : VB L n) (i : Nat) : 0 ≤ (at2 L i).2 ∧ (at2 L i).2 ≤ (n : Int) := by
  by_cases hi : i < L.length
  · exact h _ (at2_mem L i hi)
  · rw [at2_out _ _ (by omega)]; simp
theorem nextV_small {v : Int} (h0 : 0 ≤ v) (h1 : v ≤ 1000000) : nextV v = v + 1 := by unfold nextV; omega
theorem VB.step {M : MemV} {n : Nat} (h : VB M.L n) (hn : n ≤ 100000) (a : AccV) : VB (doV M a).L (n + 1) := by
  rcases doV_L M a with e | ⟨_, _, e⟩
  · rw [e]; intro p hp; have := h p hp; omega
  · rw [e]
    intro p hp
    rcases List.mem_or_eq_of_mem_set hp with hp | rfl
    · have := h p hp; omega
    · have := h.at a.at_.toNat
      simp only
      rw [nextV_small (by omega) (by omega)]
      omega
/-- a cell stays, or its version is the next one -/
theorem cell_step {M : MemV} {n : Nat} (h : VB M.L n) (hn : n ≤ 100000) (a : AccV) (c : Nat) (hc : c < M.L.length) : at2 (doV M a).L c = at2 M.L c ∨ (at2 (doV M a).L c).2 = (at2 M.L c).2 + 1 := by
  rcases doV_L M a with e | ⟨_, hi, e⟩
  · rw [e]; exact .inl rfl
  · rw [e]
    by_cases hc' : a.at_.toNat = c
    · right
      have := h.at c
      rw [hc'.symm] at this ⊢
      rw [writeL, at2_set_self _ _ _ (by omega)]
      exact nextV_small (by omega) (by omega)
    · exact .inl (writeL_off _ _ _ _ hc')
theorem cell_keep {M : MemV} (a : AccV) (c : Nat) (h : (a.kind ≠ 2 ∧ a.kind ≠ 3) ∨ a.at_ ≠ (c : Int)) : at2 (doV M a).L c = at2 M.L c := by
  rcases doV_L M a with e | ⟨hk, hi, e⟩
  · rw [e]
  · rw [e]
    have := inB_yes hi
    exact writeL_off _ _ _ _ (by omega)
/-- while it is read -/
structure RI (n : Nat) (L : List (Int × Int)) (x : RS) (sure : Int) (i : Nat) : Prop where
  len : L.length = 21
  vb : VB L n
  at_ : x.st = 0 → x.at_ = (i : Int) ∧ i ≤ 3
  seen : x.st = 0 → 1 ≤ i → x.ver ≤ (at2 L 0).2 ∧ ((at2 L 0).2 = x.ver → (at2 L 0).1 = x.word)
  haz : x.st = 0 → 2 ≤ i → (at2 L 17).1 = x.word
  su3 : x.st = 0 → 3 ≤ i → sure = x.word
  got : x.st = 4 → sure = x.word
theorem RI.start {n : Nat} {L : List (Int × Int)} (hl : L.length = 21) (hv : VB L n) (sure : Int) : RI n L rs0 sure 0 :=
  ⟨hl, hv, fun _ => ⟨rfl, by omega⟩, (fun _ h => by omega), (fun _ h => by omega), (fun _ h => by omega), (fun h => by cases h)⟩
theorem RI.other {n : Nat} {M : MemV} {x : RS} {sure : Int} {i : Nat} (h : RI n M.L x sure i) (hn : n ≤ 100000) (a : AccV) (ha : (a.kind ≠ 2 ∧ a.kind ≠ 3) ∨ a.at_ ≠ 17) : RI (n + 1) (doV M a).L x sure i := by
  refine ⟨by rw [doV_len, h.len], h.vb.step hn a, h.at_, fun h0 h1 => ?_, fun h0 h2 => ?_, h.su3, h.got⟩
  · obtain ⟨s1, s2⟩ := h.seen h0 h1
    rcases cell_step h.vb hn a 0 (by rw [h.len]; omega) with e | e
    · rw [e]; exact ⟨s1, s2⟩
    · rw [e]; exact ⟨by omega, fun e' => by omega⟩
  · rw [cell_keep a 17 ha]; exact h.haz h0 h2
theorem load_at2 {L : List (Int × Int)} {i : Nat} (h : i < L.length) : loadW L (i : Int) = (at2 L i).1 ∧ loadV L (i : Int) = (at2 L i).2 := by
  have hi : inB L.length (i : Int) = true := inB_mk (by omega) (by omega)
  rw [loadW_yes hi, loadV_yes hi]
  exact ⟨rfl, rfl⟩
theorem at_node : atI 5 2 0 0 = 0 := by decide
theorem at_haz : hazI 5 2 0 1 = 17 := by decide
/-- one access of it -/
theorem RI.step {n : Nat} {M : MemV} {x : RS} {sure : Int} {i : Nat} (h : RI n M.L x sure i) (hn : n ≤ 100000) (h0 : x.st = 0) :
    ((rsTell x (repV M (rsAcc 5 2 0 0 x))).su = true → loadW (doV M (rsAcc 5 2 0 0 x)).L 0 = loadW (doV M (rsAcc 5 2 0 0 x)).L 17) ∧
    RI (n + 1) (doV M (rsAcc 5 2 0 0 x)).L (rsTell x (repV M (rsAcc 5 2 0 0 x))) (if (rsTell x (repV M (rsAcc 5 2 0 0 x))).su = true then loadW (doV M (rsAcc 5 2 0 0 x)).L 0 else sure) (i + 1) := by
  obtain ⟨hat, hi3⟩ := h.at_ h0
  have hlen := h.len
  have l0 := load_at2 (L := M.L) (i := 0) (by omega)
  have l17 := load_at2 (L := M.L) (i := 17) (by omega)
  have hi : i = 0 ∨ i = 1 ∨ i = 2 ∨ i = 3 := by omega
  rcases hi with rfl | rfl | rfl | rfl
  · have hx : x.at_ = 0 := hat
    have ea : rsAcc 5 2 0 0 x = ⟨1, 0, 0, 0, blockZ, opZ⟩ := by simp [rsAcc, hx, at_node]
    have er : repV M (rsAcc 5 2 0 0 x) = ⟨inB M.L.length 0, loadW M.L 0, loadV M.L 0, blockZ, opZ⟩ := by rw [ea]; simp [repV]
    have et : rsTell x (repV M (rsAcc 5 2 0 0 x)) = ⟨1, if opensB (loadW M.L 0) = true then 0 else 1, false, loadW M.L 0, loadV M.L 0, x.node⟩ := by rw [er]; simp [rsTell, hx]
    have eD : (doV M (rsAcc 5 2 0 0 x)).L = M.L := by rw [ea]; rfl
    rw [et, eD]
    refine ⟨(fun e => by cases e), ⟨hlen, fun p hp => ?_, (fun hs => ⟨rfl, by omega⟩), fun hs _ => ?_, (fun _ h => by omega), (fun _ h => by omega), fun hs => ?_⟩⟩
    · have := h.vb p hp; omega
    · show loadV M.L 0 ≤ (at2 M.L 0).2 ∧ ((at2 M.L 0).2 = loadV M.L 0 → (at2 M.L 0).1 = loadW M.L 0)
      have q1 : loadW M.L 0 = (at2 M.L 0).1 := l0.1
      have q2 : loadV M.L 0 = (at2 M.L 0).2 := l0.2
      rw [q1, q2]; exact ⟨Int.le_refl _, fun _ => rfl⟩
    · exfalso
      have hs' : (if opensB (loadW M.L 0) = true then (0 : Int) else 1) = 4 := hs
      split at hs' <;> omega
  · have hx : x.at_ = 1 := hat
    have ea : rsAcc 5 2 0 0 x = ⟨2, 17, 0, x.word, blockZ, opZ⟩ := by simp [rsAcc, hx, at_haz]
    have hin : inB M.L.length 17 = true := inB_mk (by omega) (by omega)
    have et : rsTell x (repV M (rsAcc 5 2 0 0 x)) = ⟨2, 0, false, x.word, x.ver, x.node⟩ := by simp [rsTell, hx]
    have eD : (doV M (rsAcc 5 2 0 0 x)).L = writeL M.L 17 x.word := by rw [ea]; simp [doV, hin, storeL_yes]
    have hv := h.vb.step hn (rsAcc 5 2 0 0 x)
    rw [eD] at hv
    rw [et, eD]
    obtain ⟨s1, s2⟩ := h.seen h0 (by omega)
    have e0 : at2 (writeL M.L 17 x.word) 0 = at2 M.L 0 := writeL_off _ _ _ _ (by decide)
    have e17 : (at2 (writeL M.L 17 x.word) 17).1 = x.word := by
      rw [writeL, show (17 : Int).toNat = 17 from rfl, at2_set_self _ _ _ (by omega)]
    refine ⟨(fun e => by cases e), ⟨by rw [writeL_length]; exact hlen, hv, fun _ => ⟨rfl, by omega⟩, fun _ _ => ?_, fun _ _ => e17, (fun _ h => by omega), (fun hs => by cases hs)⟩⟩
    rw [e0]; exact ⟨s1, s2⟩
  · have hx : x.at_ = 2 := hat
    have ea : rsAcc 5 2 0 0 x = ⟨1, 0, 0, 0, blockZ, opZ⟩ := by simp [rsAcc, hx, at_node]
    have er : repV M (rsAcc 5 2 0 0 x) = ⟨inB M.L.length 0, loadW M.L 0, loadV M.L 0, blockZ, opZ⟩ := by rw [ea]; simp [repV]
    have eD : (doV M (rsAcc 5 2 0 0 x)).L = M.L := by rw [ea]; rfl
    obtain ⟨s1, s2⟩ := h.seen h0 (by omega)
    have hh := h.haz h0 (by omega)
    have q1 : loadW M.L 0 = (at2 M.L 0).1 := l0.1
    have q2 : loadV M.L 0 = (at2 M.L 0).2 := l0.2
    have q3 : loadW M.L 17 = (at2 M.L 17).1 := l17.1
    have hv : VB M.L (n + 1) := fun p hp => by have := h.vb p hp; omega
    by_cases hve : loadV M.L 0 = x.ver
    · have et : rsTell x (repV M (rsAcc 5 2 0 0 x)) = ⟨3, 0, true, x.word, x.ver, x.node⟩ := by rw [er]; simp [rsTell, hx, hve]
      have hw := s2 (by rw [← q2]; exact hve)
      rw [et, eD]
      refine ⟨(fun _ => by rw [q1, q3, hw, hh]), ⟨hlen, hv, fun _ => ⟨rfl, by omega⟩, fun _ _ => ⟨s1, s2⟩, fun _ _ => hh, fun _ _ => ?_, (fun hs => by cases hs)⟩⟩
      simp only [if_true]
      rw [q1, hw]
    · have et : rsTell x (repV M (rsAcc 5 2 0 0 x)) = ⟨3, 2, false, x.word, x.ver, x.node⟩ := by rw [er]; simp [rsTell, hx, hve]
      rw [et, eD]
      exact ⟨(fun e => by cases e), ⟨hlen, hv, (fun e => by cases e), (fun e => by cases e), (fun e => by cases e), (fun e => by cases e), (fun e => by cases e)⟩⟩
  · have hx : x.at_ = 3 := hat
    have ea : rsAcc 5 2 0 0 x = ⟨4, 0, 0, x.word, blockZ, opZ⟩ := by simp [rsAcc, hx]
    have eD : (doV M (rsAcc 5 2 0 0 x)).L = M.L := by rw [ea]; rfl
    have hs := h.su3 h0 (by omega)
    have hv : VB M.L (n + 1) := fun p hp => by have := h.vb p hp; omega
    have et : rsTell x (repV M (rsAcc 5 2 0 0 x)) = ⟨4, if (repV M (rsAcc 5 2 0 0 x)).ok = true ∧ (repV M (rsAcc 5 2 0 0 x)).block.kind = 1 then 4 else 3, false, x.word, x.ver, (repV M (rsAcc 5 2 0 0 x)).block.node⟩ := by simp [rsTell, hx]
    rw [et, eD]
    have hne : ∀ (c : Prop) [Decidable c], (if c then (4 : Int) else 3) ≠ 0 := fun c _ => by split <;> decide
    refine ⟨(fun e => by cases e), ⟨hlen, hv, fun e => absurd e (hne _), fun e => absurd e (hne _), fun e => absurd e (hne _), fun e => absurd e (hne _), fun _ => ?_⟩⟩
    show (if false = true then _ else sure) = x.word
    rw [if_neg (by decide)]; exact hs
end Go.Proofs.Ytpempcefgfmniaa.MemP

/-
  carry: a task in general, what it does, in plain terms.
-/
namespace Go.Proofs.Ytpempcefgfmniaa.MemP
open Go.RowKit RefP CellP Dp
set_option linter.unusedVariables false
set_option linter.unusedSimpArgs false
def stepZ : StepV := ⟨0, 0, 0, 0, false⟩
/-- what a task of carrying out was made of: helper, the gate's state, thread and word, version -/
structure KP where
  hp : Int
  s : Int
  th : Int
  x : Int
  ver : Int
structure KPok (p : KP) : Prop where
  hp : I64 p.hp
  s : I64 p.s
  th : I64 p.th
  x : U64 p.x
  ver : U64 p.ver
/-- where it is -/
structure KS where
  at_ : Int
  steps : List StepV
  done : Int
  tu : Bool
  en : Bool
def KS.hd (k : KS) : StepV := k.steps.headD stepZ
/-- its cells -/
abbrev carX (o : Nat) (p : KP) (k : KS) (q : Hd) : Array Value := carA (some ⟨o, 0, none⟩) p.hp p.s p.th p.x p.ver k.at_ (.slice q.a k.steps.length q.c) k.done k.tu k.en
def maxW (x : Int) : Int := if x < 1 then 1 else x
/-- its next access -/
def kAcc (A T : Nat) (p : KP) (k : KS) : AccV :=
  if k.at_ = 0 then ⟨2, hazI A T p.hp 0, 0, p.x, blockZ, opZ⟩
  else if k.at_ = 2 then ⟨4, 0, 0, p.x, blockZ, opZ⟩
  else if k.at_ = 3 then ⟨3, atI A T 0 k.hd.cell, k.hd.ver, k.hd.new, blockZ, opZ⟩
  else if k.at_ = 4 then ⟨1, atI A T 3 p.th, 0, 0, blockZ, opZ⟩
  else if k.at_ = 6 then ⟨3, atI A T 3 p.th, k.done, maxW p.x, blockZ, opZ⟩
  else if k.at_ = 7 then ⟨3, gateI A T, p.ver, 0, blockZ, opZ⟩
  else ⟨1, gateI A T, 0, 0, blockZ, opZ⟩
/-- behind a reply -/
def kTell (p : KP) (k : KS) (r : ReplyV) : KS :=
  if k.at_ = 0 then ⟨1, k.steps, k.done, false, k.en⟩
  else if k.at_ = 1 then ⟨if r.ver = p.ver then 2 else 8, k.steps, k.done, false, k.en⟩
  else if k.at_ = 2 then ⟨if r.ok = true ∧ r.block.kind = 2 then (if r.block.plan.steps.length = 0 then 4 else 3) else 8, r.block.plan.steps, k.done, false, k.en⟩
  else if k.at_ = 3 then ⟨if k.steps.length ≤ 1 then 4 else 3, k.steps.tail, k.done, k.hd.lin && r.ok, k.en⟩
  else if k.at_ = 4 then ⟨if r.word = 0 then 5 else 7, k.steps, r.ver, false, k.en⟩
  else if k.at_ = 5 then ⟨if r.ver = p.ver then 6 else 8, k.steps, k.done, false, k.en⟩
  else if k.at_ = 6 then ⟨7, k.steps, k.done, false, k.en⟩
  else ⟨8, k.steps, k.done, false, r.ok⟩
theorem rangeAt_below {w w' : World} {b off : Nat} {cs : List Value} (hb : b < w.heap.size) (h : w.rangeAt b off cs) (k : Below w.heap.size w w') : w'.rangeAt b off cs := fun j v hj => (k.cell (p := ⟨b, off + j, none⟩) hb).trans (h j v hj)
/-- the first of a row of steps -/
theorem step_cell {w : World} {S : List Nat} {q : Hd} {l : List StepV} (h : HRow Dp.stepT w S q l) (h0 : 0 < l.length) : ∃ b off, q.a = some ⟨b, off, none⟩ ∧ b < w.heap.size ∧ b ∉ S ∧ StepOk (l.headD stepZ) ∧ w.rangeAt b off (stepL (l.headD stepZ)) := by
  obtain ⟨b, off, ha, hb, hn, hc⟩ := h.row h0
  obtain ⟨cs, hr, hv⟩ := hc 0 _ (List.getElem?_eq_getElem h0)
  obtain ⟨rfl, ho⟩ := stepT_of hr
  have e : l.headD stepZ = l[0] := by
    cases l with
    | nil => simp at h0
    | cons x l => rfl
  rw [e]
  refine ⟨b, off, ha, hb, hn, ho, fun j v hj => ?_⟩
  have := hv j v hj
  rw [Nat.zero_mul, Nat.add_zero] at this
  exact this
/-- the others -/
theorem step_tail {w : World} {S : List Nat} {b off c : Nat} {l : List StepV} (h : HRow Dp.stepT w S ⟨some ⟨b, off, none⟩, c⟩ l) (h0 : 0 < l.length) (h1 : 1 < c) : HRow Dp.stepT w S ⟨some ⟨b, off + 5, none⟩, c - 1⟩ l.tail := by
  have hle := h.le
  have hcap := h.cap
  simp only at hle hcap
  refine ⟨by simp only [List.length_tail]; omega, by show c - 1 ≤ maxLen; omega, fun ht => ?_⟩
  obtain ⟨b', off', ha, hb, hn, hc⟩ := h.row h0
  simp only [Option.some.injEq, Addr.mk.injEq, and_true] at ha
  obtain ⟨rfl, rfl⟩ := ha
  refine ⟨b, off + 5, rfl, hb, hn, fun i x hx => ?_⟩
  rw [List.getElem?_tail] at hx
  obtain ⟨cs, hr, hv⟩ := hc (i + 1) x hx
  refine ⟨cs, hr, fun j v hj => ?_⟩
  have := hv j v hj
  rw [show off + 5 + i * Dp.stepT.k + j = off + (i + 1) * Dp.stepT.k + j by rw [Nat.succ_mul]; show off + 5 + i * 5 + j = off + (i * 5 + 5) + j; omega]
  exact this
theorem step_one {w : World} {S : List Nat} {q : Hd} {l : List StepV} (h : HRow Dp.stepT w S q l) (h1 : q.c ≤ 1) (a : Option Addr) (c : Nat) (hc : c ≤ maxLen) : HRow Dp.stepT w S ⟨a, c⟩ l.tail := by
  have hle := h.le
  have e : l.tail = [] := by
    apply List.eq_nil_of_length_eq_zero
    rw [List.length_tail]; omega
  rw [e]
  exact ⟨Nat.zero_le _, hc, RowRep.nil _ _ _ _⟩
end Go.Proofs.Ytpempcefgfmniaa.MemP

/-
  memory: where cells lie: contracts that tell the world that is left (so many draws behind).
-/
namespace Go.Proofs.Ytpempcefgfmniaa.MemP
open Go.RowKit RefP CellP
set_option linter.unusedVariables false
set_option linter.unusedSimpArgs false
set_option maxRecDepth 100000 in
set_option maxHeartbeats 3200000 in
theorem atx_0 {o oc g gb gr A T : Nat} {L : List (Int × Int)} {bs rs : List (List Value)} (i : Int) (w : World) (h : MemAt w o oc g gb gr A T L bs rs) (i0 : -9223372036854775808 ≤ i) (i1 : i ≤ 9223372036854775807) :
    Calls Try.prog 52 #[.pointer (some ⟨o, 0, none⟩), .int .i64 0, .int .i64 i] w fun e w' => e = .returned (.int .i64 (atI A T 0 i)) ∧ ∃ n, w' = w.drewN n := by
  have c1 : w.cell? ⟨o, 1, none⟩ = some (.int .i64 (fromI A T 0)) := h.head.at 1 rfl
  have c2 : w.cell? ⟨o, 2, none⟩ = some (.int .i64 (fromI A T 1)) := h.head.at 2 rfl
  have e1 := from_succ A T 0 (by omega)
  have e2 := from_rng A T 0 h.a1.2 h.t1.2
  have e3 := size_rng A T 0 h.a1.2 h.t1.2
  simp only [Nat.reduceAdd] at e1
  have hw : IntKind.i64.wrap (fromI A T 1 - fromI A T 0) = sizeI A T 0 := by rw [IntKind.wrap_i64]; omega
  have hk : IntKind.i64.wrap 1 = 1 := by rw [IntKind.wrap_i64]; rfl
  clear e1
  by_cases hn : i < 0
  · have q1 : decide (i < 0) = true := by simpa using hn
    have hR : Hid (atI A T 0 i = -1) := atI_no (by omega)
    clear hn
    go_enter Try.func52, Try.ntmps52
    go_wp2_with fail
    go_quiet (exact Calls.quiet_of_same ((none_any _ (h.drewN _)).flip))
    go_wp2_with fail
    go_ret
    exact ⟨ret_int hR.out.symm, _, rfl⟩
  · have q1 : decide (i < 0) = false := by simpa using hn
    by_cases hm : sizeI A T 0 ≤ i
    · have q2 : decide (sizeI A T 0 ≤ i) = true := by simpa using hm
      have hR : Hid (atI A T 0 i = -1) := atI_no (by omega)
      clear hn hm
      go_enter Try.func52, Try.ntmps52
      go_wp2_with fail
      go_quiet (exact Calls.quiet_of_same ((none_any _ (h.drewN _)).flip))
      go_wp2_with fail
      go_ret
      exact ⟨ret_int hR.out.symm, _, rfl⟩
    · have q2 : decide (sizeI A T 0 ≤ i) = false := by simpa using hm
      have hR : Hid (atI A T 0 i = fromI A T 0 + i) := atI_yes (by omega) (by omega)
      have hw3 : IntKind.i64.wrap (fromI A T 0 + i) = fromI A T 0 + i := by rw [IntKind.wrap_i64]; omega
      clear hn hm
      go_enter Try.func52, Try.ntmps52
      go_wp2_with fail
      go_quiet (exact Calls.quiet_of_same ((none_any _ (h.drewN _)).flip))
      go_wp2_with fail
      go_ret
      exact ⟨ret_int hR.out.symm, _, rfl⟩
set_option maxRecDepth 100000 in
set_option maxHeartbeats 3200000 in
theorem atx_1 {o oc g gb gr A T : Nat} {L : List (Int × Int)} {bs rs : List (List Value)} (i : Int) (w : World) (h : MemAt w o oc g gb gr A T L bs rs) (i0 : -9223372036854775808 ≤ i) (i1 : i ≤ 9223372036854775807) :
    Calls Try.prog 52 #[.pointer (some ⟨o, 0, none⟩), .int .i64 1, .int .i64 i] w fun e w' => e = .returned (.int .i64 (atI A T 1 i)) ∧ ∃ n, w' = w.drewN n := by
  have c1 : w.cell? ⟨o, 2, none⟩ = some (.int .i64 (fromI A T 1)) := h.head.at 2 rfl
  have c2 : w.cell? ⟨o, 3, none⟩ = some (.int .i64 (fromI A T 2)) := h.head.at 3 rfl
  have e1 := from_succ A T 1 (by omega)
  have e2 := from_rng A T 1 h.a1.2 h.t1.2
  have e3 := size_rng A T 1 h.a1.2 h.t1.2
  simp only [Nat.reduceAdd] at e1
  have hw : IntKind.i64.wrap (fromI A T 2 - fromI A T 1) = sizeI A T 1 := by rw [IntKind.wrap_i64]; omega
  have hk : IntKind.i64.wrap 2 = 2 := by rw [IntKind.wrap_i64]; rfl
  clear e1
  by_cases hn : i < 0
  · have q1 : decide (i < 0) = true := by simpa using hn
    have hR : Hid (atI A T 1 i = -1) := atI_no (by omega)
    clear hn
    go_enter Try.func52, Try.ntmps52
    go_wp2_with fail
    go_quiet (exact Calls.quiet_of_same ((none_any _ (h.drewN _)).flip))
    go_wp2_with fail
    go_ret
    exact ⟨ret_int hR.out.symm, _, rfl⟩
  · have q1 : decide (i < 0) = false := by simpa using hn
    by_cases hm : sizeI A T 1 ≤ i
    · have q2 : decide (sizeI A T 1 ≤ i) = true := by simpa using hm
      have hR : Hid (atI A T 1 i = -1) := atI_no (by omega)
      clear hn hm
      go_enter Try.func52, Try.ntmps52
      go_wp2_with fail
      go_quiet (exact Calls.quiet_of_same ((none_any _ (h.drewN _)).flip))
      go_wp2_with fail
      go_ret
      exact ⟨ret_int hR.out.symm, _, rfl⟩
    · have q2 : decide (sizeI A T 1 ≤ i) = false := by simpa using hm
      have hR : Hid (atI A T 1 i = fromI A T 1 + i) := atI_yes (by omega) (by omega)
      have hw3 : IntKind.i64.wrap (fromI A T 1 + i) = fromI A T 1 + i := by rw [IntKind.wrap_i64]; omega
      clear hn hm
      go_enter Try.func52, Try.ntmps52
      go_wp2_with fail
      go_quiet (exact Calls.quiet_of_same ((none_any _ (h.drewN _)).flip))
      go_wp2_with fail
      go_ret
      exact ⟨ret_int hR.out.symm, _, rfl⟩
set_option maxRecDepth 100000 in
set_option maxHeartbeats 3200000 in
theorem atx_3 {o oc g gb gr A T : Nat} {L : List (Int × Int)} {bs rs : List (List Value)} (i : Int) (w : World) (h : MemAt w o oc g gb gr A T L bs rs) (i0 : -9223372036854775808 ≤ i) (i1 : i ≤ 9223372036854775807) :
    Calls Try.prog 52 #[.pointer (some ⟨o, 0, none⟩), .int .i64 3, .int .i64 i] w fun e w' => e = .returned (.int .i64 (atI A T 3 i)) ∧ ∃ n, w' = w.drewN n := by
  have c1 : w.cell? ⟨o, 4, none⟩ = some (.int .i64 (fromI A T 3)) := h.head.at 4 rfl
  have c2 : w.cell? ⟨o, 5, none⟩ = some (.int .i64 (fromI A T 4)) := h.head.at 5 rfl
  have e1 := from_succ A T 3 (by omega)
  have e2 := from_rng A T 3 h.a1.2 h.t1.2
  have e3 := size_rng A T 3 h.a1.2 h.t1.2
  simp only [Nat.reduceAdd] at e1
  have hw : IntKind.i64.wrap (fromI A T 4 - fromI A T 3) = sizeI A T 3 := by rw [IntKind.wrap_i64]; omega
  have hk : IntKind.i64.wrap 4 = 4 := by rw [IntKind.wrap_i64]; rfl
  clear e1
  by_cases hn : i < 0
  · have q1 : decide (i < 0) = true := by simpa using hn
    have hR : Hid (atI A T 3 i = -1) := atI_no (by omega)
    clear hn
    go_enter Try.func52, Try.ntmps52
    go_wp2_with fail
    go_quiet (exact Calls.quiet_of_same ((none_any _ (h.drewN _)).flip))
    go_wp2_with fail
    go_ret
    exact ⟨ret_int hR.out.symm, _, rfl⟩
  · have q1 : decide (i < 0) = false := by simpa using hn
    by_cases hm : sizeI A T 3 ≤ i
    · have q2 : decide (sizeI A T 3 ≤ i) = true := by simpa using hm
      have hR : Hid (atI A T 3 i = -1) := atI_no (by omega)
      clear hn hm
      go_enter Try.func52, Try.ntmps52
      go_wp2_with fail
      go_quiet (exact Calls.quiet_of_same ((none_any _ (h.drewN _)).flip))
      go_wp2_with fail
      go_ret
      exact ⟨ret_int hR.out.symm, _, rfl⟩
    · have q2 : decide (sizeI A T 3 ≤ i) = false := by simpa using hm
      have hR : Hid (atI A T 3 i = fromI A T 3 + i) := atI_yes (by omega) (by omega)
      have hw3 : IntKind.i64.wrap (fromI A T 3 + i) = fromI A T 3 + i := by rw [IntKind.wrap_i64]; omega
      clear hn hm
      go_enter Try.func52, Try.ntmps52
      go_wp2_with fail
      go_quiet (exact Calls.quiet_of_same ((none_any _ (h.drewN _)).flip))
      go_wp2_with fail
      go_ret
      exact ⟨ret_int hR.out.symm, _, rfl⟩
set_option maxRecDepth 100000 in
set_option maxHeartbeats 3200000 in
theorem atx_5 {o oc g gb gr A T : Nat} {L : List (Int × Int)} {bs rs : List (List Value)} (i : Int) (w : World) (h : MemAt w o oc g gb gr A T L bs rs) (i0 : -9223372036854775808 ≤ i) (i1 : i ≤ 9223372036854775807) :
    Calls Try.prog 52 #[.pointer (some ⟨o, 0, none⟩), .int .i64 5, .int .i64 i] w fun e w' => e = .returned (.int .i64 (atI A T 5 i)) ∧ ∃ n, w' = w.drewN n := by
  have c1 : w.cell? ⟨o, 6, none⟩ = some (.int .i64 (fromI A T 5)) := h.head.at 6 rfl
  have c2 : w.cell? ⟨o, 7, none⟩ = some (.int .i64 (fromI A T 6)) := h.head.at 7 rfl
  have e1 := from_succ A T 5 (by omega)
  have e2 := from_rng A T 5 h.a1.2 h.t1.2
  have e3 := size_rng A T 5 h.a1.2 h.t1.2
  simp only [Nat.reduceAdd] at e1
  have hw : IntKind.i64.wrap (fromI A T 6 - fromI A T 5) = sizeI A T 5 := by rw [IntKind.wrap_i64]; omega
  have hk : IntKind.i64.wrap 6 = 6 := by rw [IntKind.wrap_i64]; rfl
  clear e1
  by_cases hn : i < 0
  · have q1 : decide (i < 0) = true := by simpa using hn
    have hR : Hid (atI A T 5 i = -1) := atI_no (by omega)
    clear hn
    go_enter Try.func52, Try.ntmps52
    go_wp2_with fail
    go_quiet (exact Calls.quiet_of_same ((none_any _ (h.drewN _)).flip))
    go_wp2_with fail
    go_ret
    exact ⟨ret_int hR.out.symm, _, rfl⟩
  · have q1 : decide (i < 0) = false := by simpa using hn
    by_cases hm : sizeI A T 5 ≤ i
    · have q2 : decide (sizeI A T 5 ≤ i) = true := by simpa using hm
      have hR : Hid (atI A T 5 i = -1) := atI_no (by omega)
      clear hn hm
      go_enter Try.func52, Try.ntmps52
      go_wp2_with fail
      go_quiet (exact Calls.quiet_of_same ((none_any _ (h.drewN _)).flip))
      go_wp2_with fail
      go_ret
      exact ⟨ret_int hR.out.symm, _, rfl⟩
    · have q2 : decide (sizeI A T 5 ≤ i) = false := by simpa using hm
      have hR : Hid (atI A T 5 i = fromI A T 5 + i) := atI_yes (by omega) (by omega)
      have hw3 : IntKind.i64.wrap (fromI A T 5 + i) = fromI A T 5 + i := by rw [IntKind.wrap_i64]; omega
      clear hn hm
      go_enter Try.func52, Try.ntmps52
      go_wp2_with fail
      go_quiet (exact Calls.quiet_of_same ((none_any _ (h.drewN _)).flip))
      go_wp2_with fail
      go_ret
      exact ⟨ret_int hR.out.symm, _, rfl⟩
set_option maxRecDepth 100000 in
set_option maxHeartbeats 3200000 in
theorem atx_6 {o oc g gb gr A T : Nat} {L : List (Int × Int)} {bs rs : List (List Value)} (i : Int) (w : World) (h : MemAt w o oc g gb gr A T L bs rs) (i0 : -9223372036854775808 ≤ i) (i1 : i ≤ 9223372036854775807) :
    Calls Try.prog 52 #[.pointer (some ⟨o, 0, none⟩), .int .i64 6, .int .i64 i] w fun e w' => e = .returned (.int .i64 (atI A T 6 i)) ∧ ∃ n, w' = w.drewN n := by
  have c1 : w.cell? ⟨o, 7, none⟩ = some (.int .i64 (fromI A T 6)) := h.head.at 7 rfl
  have c2 : w.cell? ⟨o, 8, none⟩ = some (.int .i64 (fromI A T 7)) := h.head.at 8 rfl
  have e1 := from_succ A T 6 (by omega)
  have e2 := from_rng A T 6 h.a1.2 h.t1.2
  have e3 := size_rng A T 6 h.a1.2 h.t1.2
  simp only [Nat.reduceAdd] at e1
  have hw : IntKind.i64.wrap (fromI A T 7 - fromI A T 6) = sizeI A T 6 := by rw [IntKind.wrap_i64]; omega
  have hk : IntKind.i64.wrap 7 = 7 := by rw [IntKind.wrap_i64]; rfl
  clear e1
  by_cases hn : i < 0
  · have q1 : decide (i < 0) = true := by simpa using hn
    have hR : Hid (atI A T 6 i = -1) := atI_no (by omega)
    clear hn
    go_enter Try.func52, Try.ntmps52
    go_wp2_with fail
    go_quiet (exact Calls.quiet_of_same ((none_any _ (h.drewN _)).flip))
    go_wp2_with fail
    go_ret
    exact ⟨ret_int hR.out.symm, _, rfl⟩
  · have q1 : decide (i < 0) = false := by simpa using hn
    by_cases hm : sizeI A T 6 ≤ i
    · have q2 : decide (sizeI A T 6 ≤ i) = true := by simpa using hm
      have hR : Hid (atI A T 6 i = -1) := atI_no (by omega)
      clear hn hm
      go_enter Try.func52, Try.ntmps52
      go_wp2_with fail
      go_quiet (exact Calls.quiet_of_same ((none_any _ (h.drewN _)).flip))
      go_wp2_with fail
      go_ret
      exact ⟨ret_int hR.out.symm, _, rfl⟩
    · have q2 : decide (sizeI A T 6 ≤ i) = false := by simpa using hm
      have hR : Hid (atI A T 6 i = fromI A T 6 + i) := atI_yes (by omega) (by omega)
      have hw3 : IntKind.i64.wrap (fromI A T 6 + i) = fromI A T 6 + i := by rw [IntKind.wrap_i64]; omega
      clear hn hm
      go_enter Try.func52, Try.ntmps52
      go_wp2_with fail
      go_quiet (exact Calls.quiet_of_same ((none_any _ (h.drewN _)).flip))
      go_wp2_with fail
      go_ret
      exact ⟨ret_int hR.out.symm, _, rfl⟩
set_option maxHeartbeats 800000 in
theorem node_x {o oc g gb gr A T : Nat} {L : List (Int × Int)} {bs rs : List (List Value)} (i : Int) (w : World) (h : MemAt w o oc g gb gr A T L bs rs) (i0 : -9223372036854775808 ≤ i) (i1 : i ≤ 9223372036854775807) :
    Calls Try.prog 22 #[.pointer (some ⟨o, 0, none⟩), .int .i64 i] w fun e w' => e = .returned (.int .i64 (atI A T 0 i)) ∧ ∃ n, w' = w.drewN n := by
  go_enter Try.func22, Try.ntmps22
  go_wp2_with fail
  refine (atx_0 i _ h i0 i1).mono ?_
  rintro e w1 ⟨rfl, n, rfl⟩
  go_wp2_with fail
  go_ret
  exact ⟨rfl, _, rfl⟩
set_option maxHeartbeats 800000 in
theorem muse_x {o oc g gb gr A T : Nat} {L : List (Int × Int)} {bs rs : List (List Value)} (i : Int) (w : World) (h : MemAt w o oc g gb gr A T L bs rs) (i0 : -9223372036854775808 ≤ i) (i1 : i ≤ 9223372036854775807) :
    Calls Try.prog 20 #[.pointer (some ⟨o, 0, none⟩), .int .i64 i] w fun e w' => e = .returned (.int .i64 (atI A T 1 i)) ∧ ∃ n, w' = w.drewN n := by
  go_enter Try.func20, Try.ntmps20
  go_wp2_with fail
  refine (atx_1 i _ h i0 i1).mono ?_
  rintro e w1 ⟨rfl, n, rfl⟩
  go_wp2_with fail
  go_ret
  exact ⟨rfl, _, rfl⟩
set_option maxHeartbeats 800000 in
theorem done_x {o oc g gb gr A T : Nat} {L : List (Int × Int)} {bs rs : List (List Value)} (i : Int) (w : World) (h : MemAt w o oc g gb gr A T L bs rs) (i0 : -9223372036854775808 ≤ i) (i1 : i ≤ 9223372036854775807) :
    Calls Try.prog 24 #[.pointer (some ⟨o, 0, none⟩), .int .i64 i] w fun e w' => e = .returned (.int .i64 (atI A T 3 i)) ∧ ∃ n, w' = w.drewN n := by
  go_enter Try.func24, Try.ntmps24
  go_wp2_with fail
  refine (atx_3 i _ h i0 i1).mono ?_
  rintro e w1 ⟨rfl, n, rfl⟩
  go_wp2_with fail
  go_ret
  exact ⟨rfl, _, rfl⟩
set_option maxHeartbeats 800000 in
theorem gate_x {o oc g gb gr A T : Nat} {L : List (Int × Int)} {bs rs : List (List Value)} (w : World) (h : MemAt w o oc g gb gr A T L bs rs) :
    Calls Try.prog 18 #[.pointer (some ⟨o, 0, none⟩)] w fun e w' => e = .returned (.int .i64 (gateI A T)) ∧ ∃ n, w' = w.drewN n := by
  go_enter Try.func18, Try.ntmps18
  go_wp2_with fail
  refine (atx_6 0 _ h (by omega) (by omega)).mono ?_
  rw [gate_at]
  rintro e w1 ⟨rfl, n, rfl⟩
  go_wp2_with fail
  go_ret
  exact ⟨rfl, _, rfl⟩
end Go.Proofs.Ytpempcefgfmniaa.MemP
