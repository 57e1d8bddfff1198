/-
  retire: Cost; tasks that are none; the example of chapter 28 is true.
-/
import Derived.Test.YtchkiacmiljopaaRetV
namespace Go.Proofs.Ytchkiacmiljopaa.MemP
open Go.RowKit RefP CellP HazP
set_option linter.unusedVariables false
set_option linter.unusedSimpArgs false
def rcostI (t n : Int) : Int := if (1 ≤ t ∧ t ≤ 16) ∧ 1 ≤ n then (if n ≤ 4611686018427387904 / (4 * t + 1024) then n * (4 * t + 1024) else 4611686018427387904) else 0
/-- what the divisions tell -/
structure CostQ (E n Q : Int) : Prop where
  e : 1028 ≤ E ∧ E ≤ 1088
  q : 0 ≤ Q ∧ Q ≤ 4611686018427387904
  t : (4611686018427387904 : Int).tdiv E = Q
  m : n ≤ Q → n * E ≤ 4611686018427387904
theorem costQ (E n : Int) (h : 1028 ≤ E ∧ E ≤ 1088) : CostQ E n (4611686018427387904 / E) := by
  refine ⟨h, ⟨Int.ediv_nonneg (by omega) (by omega), Int.ediv_le_self _ (by omega)⟩, Int.tdiv_eq_ediv_of_nonneg (by omega), fun k => ?_⟩
  exact (Int.le_ediv_iff_mul_le (by omega)).1 k
set_option maxHeartbeats 1600000 in
theorem rtCost_any (t n : Int) (w : World) : Calls Try.prog 22 #[.int .i64 t, .int .i64 n] w fun e w' => e = .returned (.int .i64 (rcostI t n)) ∧ w = w' := by
  by_cases h1 : t < 1
  · have q1 : decide (t < 1) = true := by simpa using h1
    have hR : Hid (rcostI t n = 0) := if_neg (by omega)
    clear h1
    go_enter Try.func22, Try.ntmps22
    go_wp2_with fail
    go_ret
    exact ⟨ret_int hR.out.symm, rfl⟩
  have q1 : decide (t < 1) = false := by simpa using h1
  by_cases h2 : 16 < t
  · have q2 : decide (16 < t) = true := by simpa using h2
    have hR : Hid (rcostI t n = 0) := if_neg (by omega)
    clear h1 h2
    go_enter Try.func22, Try.ntmps22
    go_wp2_with fail
    go_ret
    exact ⟨ret_int hR.out.symm, rfl⟩
  have q2 : decide (16 < t) = false := by simpa using h2
  by_cases h3 : n < 1
  · have q3 : decide (n < 1) = true := by simpa using h3
    have hR : Hid (rcostI t n = 0) := if_neg (by omega)
    clear h1 h2 h3
    go_enter Try.func22, Try.ntmps22
    go_wp2_with fail
    go_ret
    exact ⟨ret_int hR.out.symm, rfl⟩
  have q3 : decide (n < 1) = false := by simpa using h3
  have hR0 : rcostI t n = if n ≤ 4611686018427387904 / (4 * t + 1024) then n * (4 * t + 1024) else 4611686018427387904 := if_pos (by omega)
  obtain ⟨E, hE⟩ : ∃ E, E = 4 * t + 1024 := ⟨_, rfl⟩
  rw [← hE] at hR0
  have C := costQ E n (by omega)
  generalize 4611686018427387904 / E = Q at C hR0
  have hw1 : IntKind.i64.wrap (2 * t) = 2 * t := by rw [IntKind.wrap_i64]; omega
  have hw2 : IntKind.i64.wrap (2 * t * 2) = 2 * t * 2 := by rw [IntKind.wrap_i64]; omega
  have hw3 : IntKind.i64.wrap (2 * t * 2 + 1024) = E := by rw [IntKind.wrap_i64]; omega
  have hE0 : ¬ (E = 0) := by have := C.e; omega
  have hq := C.t
  have hwq : IntKind.i64.wrap Q = Q := by have := C.q; rw [IntKind.wrap_i64]; omega
  by_cases h4 : n ≤ Q
  · have q4 : decide (Q < n) = false := by simpa using h4
    have hR : Hid (rcostI t n = n * E) := Lib.hid (by rw [hR0, if_pos h4])
    have hwm : IntKind.i64.wrap (n * E) = n * E := by
      have k1 := C.m h4
      have k0 : 0 ≤ n * E := Int.mul_nonneg (by omega) (by have := C.e; omega)
      generalize n * E = z at k1 k0
      rw [IntKind.wrap_i64]; omega
    clear h1 h2 h3 h4 hR0 C hE
    go_enter Try.func22, Try.ntmps22
    go_wp2_with fail
    go_ret
    exact ⟨ret_int hR.out.symm, rfl⟩
  · have q4 : decide (Q < n) = true := by simp; omega
    have hR : Hid (rcostI t n = 4611686018427387904) := Lib.hid (by rw [hR0, if_neg h4])
    clear h1 h2 h3 h4 hR0 C hE
    go_enter Try.func22, Try.ntmps22
    go_wp2_with fail
    go_ret
    exact ⟨ret_int hR.out.symm, rfl⟩
/-- a task of retiring that is none: nil, or of no memory -/
def NoRt (w : World) (p : Option Addr) : Prop := p = none ∨ ∃ t lp ws st i nm fr, p = some ⟨t, 0, none⟩ ∧ Blk w t (rtZ none lp ws st i nm fr) 77
theorem NoRt.below {w w' : World} {p : Option Addr} (h : NoRt w p) (hb : Below w.heap.size w w') : NoRt w' p := by
  rcases h with h | ⟨t, lp, ws, st, i, nm, fr, e, B⟩
  · exact .inl h
  · exact .inr ⟨t, lp, ws, st, i, nm, fr, e, B.below hb⟩
set_option maxRecDepth 100000 in
set_option maxHeartbeats 1600000 in
theorem rtNext_none (p : Option Addr) (w : World) (h : NoRt w p) : Calls Try.prog 9 #[.pointer p] w fun e w' => e = .returned (.tuple #[.agg (accY 0 0 0 0), .bool false]) ∧ Below w.heap.size w w' := by
  have hb0 : Below w.heap.size w (w.alloc (.cells (accY 0 0 0 0) 50)) := by (repeat (first | exact Below.refl _ _ | assumption | refine below_alloc2 ?_ (by first | exact Nat.le_refl _ | omega) _ | refine Below.drew ?_ | refine below_drewN ?_ _ | refine below_push2 ?_ ‹_› (by first | exact Nat.le_refl _ | omega) | refine Below.setCell ?_ (by first | (simp; done) | (simp; omega) | omega) _))
  rcases h with rfl | ⟨t, lp, ws, st, i, nm, fr, rfl, B⟩
  · go_enter Try.func9, Try.ntmps9
    have BR := Blk.new w (accY 0 0 0 0) 50
    go_wp2_with (refine wpList_store_row rfl 50 _ _ rfl w.heap.size _ rfl rfl 50 _ BR.h (by kernel_rfl) (by rfl) (by kernel_rfl) ?_)
    refine bodyPost_ret (v := .tuple #[.agg (accY 0 0 0 0), .bool false]) (results_cell_tmp rfl _ _ w.heap.size 50 (accY 0 0 0 0) (0, 0) _ (.bool false) rfl rfl (Blk.row BR (accY 0 0 0 0)).h Try.underlying50 rfl (by kernel_rfl)) rfl ⟨rfl, below_setRow hb0 (by omega) _⟩
  · have c0 : (w.alloc (.cells (accY 0 0 0 0) 50)).cell? ⟨t, 0, none⟩ = some (.pointer none) := (B.below hb0).at 0 rfl
    go_enter Try.func9, Try.ntmps9
    go_wp2_with fail
    refine (threads_nil _).mono ?_
    rintro e w1 ⟨rfl, rfl⟩
    have BR := Blk.new w (accY 0 0 0 0) 50
    go_wp2_with (refine wpList_store_row rfl 50 _ _ rfl w.heap.size _ rfl rfl 50 _ BR.h (by kernel_rfl) (by rfl) (by kernel_rfl) ?_)
    refine bodyPost_ret (v := .tuple #[.agg (accY 0 0 0 0), .bool false]) (results_cell_tmp rfl _ _ w.heap.size 50 (accY 0 0 0 0) (0, 0) _ (.bool false) rfl rfl (Blk.row BR (accY 0 0 0 0)).h Try.underlying50 rfl (by kernel_rfl)) rfl ⟨rfl, below_setRow hb0 (by omega) _⟩
set_option maxRecDepth 100000 in
set_option maxHeartbeats 1600000 in
theorem rtTell_none (p : Option Addr) (w : World) (h : NoRt w p) : Calls Try.prog 10 #[.pointer p, .agg #[.bool false, .int .u64 0, .int .u64 0, .int .i64 0, .int .i64 0, .string ⟨#[]⟩, .string ⟨#[]⟩, .bool false, .int .i64 0, .slice none 0 0, .slice none 0 0, .slice none 0 0, .int .i64 0, .int .i64 0, .string ⟨#[]⟩, .int .u64 0, .slice none 0 0, .slice none 0 0, .slice none 0 0, .slice none 0 0, .int .i64 0, .string ⟨#[]⟩, .string ⟨#[]⟩, .int .u64 0, .int .i64 0]] w fun e w' => e = .returned (.tuple #[]) ∧ Below w.heap.size w w' := by
  have hb0 : Below w.heap.size w (w.alloc (.cells #[.bool false, .int .u64 0, .int .u64 0, .int .i64 0, .int .i64 0, .string ⟨#[]⟩, .string ⟨#[]⟩, .bool false, .int .i64 0, .slice none 0 0, .slice none 0 0, .slice none 0 0, .int .i64 0, .int .i64 0, .string ⟨#[]⟩, .int .u64 0, .slice none 0 0, .slice none 0 0, .slice none 0 0, .slice none 0 0, .int .i64 0, .string ⟨#[]⟩, .string ⟨#[]⟩, .int .u64 0, .int .i64 0] 55)) := by (repeat (first | exact Below.refl _ _ | assumption | refine below_alloc2 ?_ (by first | exact Nat.le_refl _ | omega) _ | refine Below.drew ?_ | refine below_drewN ?_ _ | refine below_push2 ?_ ‹_› (by first | exact Nat.le_refl _ | omega) | refine Below.setCell ?_ (by first | (simp; done) | (simp; omega) | omega) _))
  go_enter Try.func10, Try.ntmps10
  go_wp2_with fail
  refine (rtNext_none _ _ (h.below hb0)).mono ?_
  rintro e w1 ⟨rfl, hb1⟩
  have hB2 := below_alloc2 (below_push2 hb0 hb1 (Nat.le_refl _)) (Nat.le_refl _) (.cells (accY 0 0 0 0) 50)
  generalize hW : w1.alloc (.cells (accY 0 0 0 0) 50) = w2 at hB2
  replace hW := Lib.hid hW
  go_wp2_with (refine wpList_store_row rfl 50 _ _ rfl _ _ rfl rfl 50 _ (Blk.new w1 _ _).h (by kernel_rfl) (by rfl) (by kernel_rfl) ?_; rw [World.setRow_alloc_new, hW.out])
  clear hW
  try go_end0
  try refine bodyPost_ret (results_none rfl _ _ _) rfl ?_
  exact ⟨rfl, hB2⟩
end Go.Proofs.Ytchkiacmiljopaa.MemP
