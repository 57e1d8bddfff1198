/-
  claim: Cost; tasks that are none: contracts.
-/
import Derived.Test.YtppclnnkleebkaaMemZero
import Derived.Test.YtppclnnkleebkaaCarryN
import Derived.Test.YtppclnnkleebkaaRefOpen
import Derived.Test.YtppclnnkleebkaaWords
namespace Go.Proofs.Ytppclnnkleebkaa.MemP
open Go.RowKit RefP CellP
set_option linter.unusedVariables false
set_option linter.unusedSimpArgs false
abbrev clA (m : Option Addr) (ws : Value) (many place seen : Int) (ld : Bool) (word ver : Int) : Array Value := #[.pointer m, ws, .int .i64 many, .int .i64 place, .int .i64 seen, .bool ld, .int .u64 word, .int .u64 ver]
def costI (a m : Int) : Int := if (1 ≤ a ∧ a ≤ 8192) ∧ 1 ≤ m ∧ m ≤ 8192 then 2 * a * m else 0
set_option maxHeartbeats 1600000 in
theorem clCost_any (a m : Int) (w : World) : Calls Try.prog 12 #[.int .i64 a, .int .i64 m] w fun e w' => e = .returned (.int .i64 (costI a m)) ∧ w = w' := by
  by_cases h1 : a < 1
  · have q1 : decide (a < 1) = true := by simpa using h1
    have hR : Hid (costI a m = 0) := if_neg (by omega)
    clear h1
    go_enter Try.func12, Try.ntmps12
    go_wp2_with fail
    go_ret
    exact ⟨ret_int hR.out.symm, rfl⟩
  have q1 : decide (a < 1) = false := by simpa using h1
  by_cases h2 : 8192 < a
  · have q2 : decide (8192 < a) = true := by simpa using h2
    have hR : Hid (costI a m = 0) := if_neg (by omega)
    clear h1 h2
    go_enter Try.func12, Try.ntmps12
    go_wp2_with fail
    go_ret
    exact ⟨ret_int hR.out.symm, rfl⟩
  have q2 : decide (8192 < a) = false := by simpa using h2
  by_cases h3 : m < 1
  · have q3 : decide (m < 1) = true := by simpa using h3
    have hR : Hid (costI a m = 0) := if_neg (by omega)
    clear h1 h2 h3
    go_enter Try.func12, Try.ntmps12
    go_wp2_with fail
    go_ret
    exact ⟨ret_int hR.out.symm, rfl⟩
  have q3 : decide (m < 1) = false := by simpa using h3
  by_cases h4 : 8192 < m
  · have q4 : decide (8192 < m) = true := by simpa using h4
    have hR : Hid (costI a m = 0) := if_neg (by omega)
    clear h1 h2 h3 h4
    go_enter Try.func12, Try.ntmps12
    go_wp2_with fail
    go_ret
    exact ⟨ret_int hR.out.symm, rfl⟩
  have q4 : decide (8192 < m) = false := by simpa using h4
  have hR : Hid (costI a m = 2 * a * m) := if_pos (by omega)
  have hb : 2 * a * m ≤ 2 * 8192 * 8192 := Int.mul_le_mul (by omega) (by omega) (by omega) (by omega)
  have hb0 : 0 ≤ 2 * a * m := Int.mul_nonneg (by omega) (by omega)
  have hw1 : IntKind.i64.wrap (2 * a) = 2 * a := by rw [IntKind.wrap_i64]; omega
  have hw2 : IntKind.i64.wrap (2 * a * m) = 2 * a * m := by
    generalize 2 * a * m = z at hb hb0
    rw [IntKind.wrap_i64]; omega
  clear h1 h2 h3 h4 hb hb0
  go_enter Try.func12, Try.ntmps12
  go_wp2_with fail
  go_ret
  exact ⟨ret_int hR.out.symm, rfl⟩
set_option maxHeartbeats 800000 in
theorem carena_nil (t : Nat) (w : World) (c0 : w.cell? ⟨t, 0, none⟩ = some (.pointer none)) : Calls Try.prog 25 #[.pointer (some ⟨t, 0, none⟩)] w fun e w' => e = .returned (.int .i64 0) ∧ w = w' := by
  go_enter Try.func25, Try.ntmps25
  go_wp2_with fail
  refine (arena_nil _).mono ?_
  rintro e w1 ⟨rfl, rfl⟩
  go_wp2_with fail
  go_ret
  exact ⟨rfl, rfl⟩
set_option maxHeartbeats 800000 in
theorem carena_any {o oc g gb gr A T : Nat} {L : List (Int × Int)} {bs rs : List (List Value)} (t : Nat) (w : World) (h : MemAt w o oc g gb gr A T L bs rs) (c0 : w.cell? ⟨t, 0, none⟩ = some (.pointer (some ⟨o, 0, none⟩))) : Calls Try.prog 25 #[.pointer (some ⟨t, 0, none⟩)] w fun e w' => e = .returned (.int .i64 A) ∧ w = w' := by
  go_enter Try.func25, Try.ntmps25
  go_wp2_with fail
  refine (arena_any _ h).mono ?_
  rintro e w1 ⟨rfl, rfl⟩
  go_wp2_with fail
  go_ret
  exact ⟨rfl, rfl⟩
/-- a task of claiming that is none: nil, or of no memory -/
def NoCl (w : World) (p : Option Addr) : Prop := p = none ∨ ∃ t ws many place seen ld word ver, p = some ⟨t, 0, none⟩ ∧ Blk w t (clA none ws many place seen ld word ver) 67
theorem NoCl.below {w w' : World} {p : Option Addr} (h : NoCl w p) (hb : Below w.heap.size w w') : NoCl w' p := by
  rcases h with h | ⟨t, ws, many, place, seen, ld, word, ver, e, B⟩
  · exact .inl h
  · exact .inr ⟨t, ws, many, place, seen, ld, word, ver, e, B.below hb⟩
theorem NoCl.drewN {w : World} {p : Option Addr} (h : NoCl w p) (n : Nat) : NoCl (w.drewN n) p := h.below (below_drewN (Below.refl _ _) n)
set_option maxHeartbeats 800000 in
theorem clnone (p : Option Addr) (w : World) (h : NoCl w p) : Calls Try.prog 24 #[.pointer p] w fun e w' => e = .returned (.bool true) ∧ w = w' := by
  rcases h with rfl | ⟨t, ws, many, place, seen, ld, word, ver, rfl, B⟩
  · go_enter Try.func24, Try.ntmps24
    go_wp2_with fail
    go_ret
    exact ⟨rfl, rfl⟩
  · go_enter Try.func24, Try.ntmps24
    go_wp2_with fail
    refine (carena_nil t _ (B.at 0 rfl)).mono ?_
    rintro e w1 ⟨rfl, rfl⟩
    go_wp2_with fail
    go_ret
    exact ⟨rfl, rfl⟩
set_option maxRecDepth 100000 in
set_option maxHeartbeats 1600000 in
theorem clNext_none (p : Option Addr) (w : World) (h : NoCl w p) : Calls Try.prog 8 #[.pointer p] w fun e w' => e = .returned (.tuple #[.agg (accY 0 0 0 0), .bool false]) ∧ Below w.heap.size w w' := by
  have hb0 : Below w.heap.size w (w.alloc (.cells (accY 0 0 0 0) 48)) := by (repeat (first | exact Below.refl _ _ | assumption | refine below_alloc2 ?_ (by first | exact Nat.le_refl _ | omega) _ | refine Below.drew ?_ | refine below_drewN ?_ _ | refine below_push2 ?_ ‹_› (by first | exact Nat.le_refl _ | omega) | refine Below.setCell ?_ (by first | (simp; done) | (simp; omega) | omega) _))
  have h1 := h.below hb0
  go_enter Try.func8, Try.ntmps8
  go_wp2_with fail
  go_quiet (exact Calls.quiet_of_same ((clnone _ _ (h1.drewN _)).flip))
  have BR := (Blk.new w (accY 0 0 0 0) 48).drewN nq
  have hB := below_drewN hb0 nq
  go_wp2_with (refine wpList_store_row rfl 48 _ _ rfl w.heap.size _ rfl rfl 48 _ BR.h (by kernel_rfl) (by rfl) (by kernel_rfl) ?_)
  refine bodyPost_ret (v := .tuple #[.agg (accY 0 0 0 0), .bool false]) (results_cell_tmp rfl _ _ w.heap.size 48 (accY 0 0 0 0) (0, 0) _ (.bool false) rfl rfl (Blk.row BR (accY 0 0 0 0)).h Try.underlying48 rfl (by kernel_rfl)) rfl ⟨rfl, below_setRow hB (by omega) _⟩
set_option maxRecDepth 100000 in
set_option maxHeartbeats 1600000 in
theorem clTell_none (p : Option Addr) (w : World) (h : NoCl w p) : Calls Try.prog 9 #[.pointer p, .agg #[.bool false, .int .u64 0, .int .u64 0, .int .i64 0, .int .i64 0, .string ⟨#[]⟩, .string ⟨#[]⟩, .bool false, .int .i64 0, .slice none 0 0, .slice none 0 0, .slice none 0 0, .int .i64 0, .int .i64 0, .string ⟨#[]⟩, .int .u64 0, .slice none 0 0, .slice none 0 0, .slice none 0 0, .slice none 0 0, .int .i64 0, .string ⟨#[]⟩, .string ⟨#[]⟩, .int .u64 0, .int .i64 0]] w fun e w' => e = .returned (.tuple #[]) ∧ Below w.heap.size w w' := by
  have hb0 : Below w.heap.size w (w.alloc (.cells #[.bool false, .int .u64 0, .int .u64 0, .int .i64 0, .int .i64 0, .string ⟨#[]⟩, .string ⟨#[]⟩, .bool false, .int .i64 0, .slice none 0 0, .slice none 0 0, .slice none 0 0, .int .i64 0, .int .i64 0, .string ⟨#[]⟩, .int .u64 0, .slice none 0 0, .slice none 0 0, .slice none 0 0, .slice none 0 0, .int .i64 0, .string ⟨#[]⟩, .string ⟨#[]⟩, .int .u64 0, .int .i64 0] 53)) := by (repeat (first | exact Below.refl _ _ | assumption | refine below_alloc2 ?_ (by first | exact Nat.le_refl _ | omega) _ | refine Below.drew ?_ | refine below_drewN ?_ _ | refine below_push2 ?_ ‹_› (by first | exact Nat.le_refl _ | omega) | refine Below.setCell ?_ (by first | (simp; done) | (simp; omega) | omega) _))
  go_enter Try.func9, Try.ntmps9
  go_wp2_with fail
  refine (clNext_none _ _ (h.below hb0)).mono ?_
  rintro e w1 ⟨rfl, hb1⟩
  have hB2 := below_alloc2 (below_push2 hb0 hb1 (Nat.le_refl _)) (Nat.le_refl _) (.cells (accY 0 0 0 0) 48)
  generalize hW : w1.alloc (.cells (accY 0 0 0 0) 48) = w2 at hB2
  replace hW := Lib.hid hW
  go_wp2_with (refine wpList_store_row rfl 48 _ _ rfl _ _ rfl rfl 48 _ (Blk.new w1 _ _).h (by kernel_rfl) (by rfl) (by kernel_rfl) ?_; rw [World.setRow_alloc_new, hW.out])
  clear hW
  refine bodyPost_ret (results_none rfl _ _ _) rfl ?_
  exact ⟨rfl, hB2⟩
set_option maxHeartbeats 800000 in
theorem clOk_none (p : Option Addr) (w : World) (h : NoCl w p) : Calls Try.prog 15 #[.pointer p] w fun e w' => e = .returned (.bool false) ∧ Below w.heap.size w w' := by
  go_enter Try.func15, Try.ntmps15
  go_wp2_with fail
  go_quiet (exact Calls.quiet_of_same ((clnone _ _ (h.drewN _)).flip))
  go_wp2_with fail
  go_ret
  exact ⟨rfl, below_drewN (Below.refl _ _) _⟩
set_option maxHeartbeats 800000 in
theorem clWords_none (p : Option Addr) (w : World) (h : NoCl w p) : Calls Try.prog 13 #[.pointer p] w fun e w' => e = .returned (.slice none 0 0) ∧ w = w' := by
  go_enter Try.func13, Try.ntmps13
  go_wp2_with fail
  refine (clnone _ _ h).mono ?_
  rintro e w1 ⟨rfl, rfl⟩
  go_wp2_with fail
  go_ret
  exact ⟨rfl, rfl⟩
set_option maxHeartbeats 800000 in
theorem clPlace_none (p : Option Addr) (w : World) (h : NoCl w p) : Calls Try.prog 19 #[.pointer p] w fun e w' => e = .returned (.int .i64 0) ∧ w = w' := by
  go_enter Try.func19, Try.ntmps19
  go_wp2_with fail
  refine (clnone _ _ h).mono ?_
  rintro e w1 ⟨rfl, rfl⟩
  go_wp2_with fail
  go_ret
  exact ⟨rfl, rfl⟩
set_option maxHeartbeats 800000 in
theorem clNew_nil (w : World) : Calls Try.prog 7 #[.pointer none, .int .i64 1, .int .i64 0] w fun e w' => e = .returned (.pointer (some ⟨w.heap.size, 0, none⟩)) ∧ w' = w.alloc (.cells (clA none (.slice none 0 0) 1 0 0 true 0 0) 67) := by
  go_enter Try.func7, Try.ntmps7
  go_wp2_with fail
  refine (arena_nil _).mono ?_
  rintro e w1 ⟨rfl, rfl⟩
  go_wp2_with fail
  go_ret
  exact ⟨rfl, rfl⟩
/-- giving back: a task that is nil, or has no words -/
def NoBk (w : World) (p : Option Addr) : Prop := p = none ∨ ∃ t m, p = some ⟨t, 0, none⟩ ∧ Blk w t #[.pointer m, .slice none 0 0] 92
theorem NoBk.below {w w' : World} {p : Option Addr} (h : NoBk w p) (hb : Below w.heap.size w w') : NoBk w' p := by
  rcases h with h | ⟨t, m, e, B⟩
  · exact .inl h
  · exact .inr ⟨t, m, e, B.below hb⟩
set_option maxRecDepth 100000 in
set_option maxHeartbeats 1600000 in
theorem bkNext_none (p : Option Addr) (w : World) (h : NoBk w p) : Calls Try.prog 17 #[.pointer p] w fun e w' => e = .returned (.tuple #[.agg (accY 0 0 0 0), .bool false]) ∧ Below w.heap.size w w' := by
  have hb0 : Below w.heap.size w (w.alloc (.cells (accY 0 0 0 0) 48)) := by (repeat (first | exact Below.refl _ _ | assumption | refine below_alloc2 ?_ (by first | exact Nat.le_refl _ | omega) _ | refine Below.drew ?_ | refine below_drewN ?_ _ | refine below_push2 ?_ ‹_› (by first | exact Nat.le_refl _ | omega) | refine Below.setCell ?_ (by first | (simp; done) | (simp; omega) | omega) _))
  rcases h with rfl | ⟨t, m, rfl, B⟩
  · go_enter Try.func17, Try.ntmps17
    have BR := Blk.new w (accY 0 0 0 0) 48
    go_wp2_with (refine wpList_store_row rfl 48 _ _ rfl w.heap.size _ rfl rfl 48 _ BR.h (by kernel_rfl) (by rfl) (by kernel_rfl) ?_)
    refine bodyPost_ret (v := .tuple #[.agg (accY 0 0 0 0), .bool false]) (results_cell_tmp rfl _ _ w.heap.size 48 (accY 0 0 0 0) (0, 0) _ (.bool false) rfl rfl (Blk.row BR (accY 0 0 0 0)).h Try.underlying48 rfl (by kernel_rfl)) rfl ⟨rfl, below_setRow hb0 (by omega) _⟩
  · have c1 := (B.below hb0).at 1 rfl
    go_enter Try.func17, Try.ntmps17
    have BR := Blk.new w (accY 0 0 0 0) 48
    go_wp2_with (refine wpList_store_row rfl 48 _ _ rfl w.heap.size _ rfl rfl 48 _ BR.h (by kernel_rfl) (by rfl) (by kernel_rfl) ?_)
    refine bodyPost_ret (v := .tuple #[.agg (accY 0 0 0 0), .bool false]) (results_cell_tmp rfl _ _ w.heap.size 48 (accY 0 0 0 0) (0, 0) _ (.bool false) rfl rfl (Blk.row BR (accY 0 0 0 0)).h Try.underlying48 rfl (by kernel_rfl)) rfl ⟨rfl, below_setRow hb0 (by omega) _⟩
set_option maxRecDepth 100000 in
set_option maxHeartbeats 1600000 in
theorem bkTell_none (p : Option Addr) (w : World) (h : NoBk w p) : Calls Try.prog 18 #[.pointer p, .agg #[.bool false, .int .u64 0, .int .u64 0, .int .i64 0, .int .i64 0, .string ⟨#[]⟩, .string ⟨#[]⟩, .bool false, .int .i64 0, .slice none 0 0, .slice none 0 0, .slice none 0 0, .int .i64 0, .int .i64 0, .string ⟨#[]⟩, .int .u64 0, .slice none 0 0, .slice none 0 0, .slice none 0 0, .slice none 0 0, .int .i64 0, .string ⟨#[]⟩, .string ⟨#[]⟩, .int .u64 0, .int .i64 0]] w fun e w' => e = .returned (.tuple #[]) ∧ Below w.heap.size w w' := by
  have hb0 : Below w.heap.size w (w.alloc (.cells #[.bool false, .int .u64 0, .int .u64 0, .int .i64 0, .int .i64 0, .string ⟨#[]⟩, .string ⟨#[]⟩, .bool false, .int .i64 0, .slice none 0 0, .slice none 0 0, .slice none 0 0, .int .i64 0, .int .i64 0, .string ⟨#[]⟩, .int .u64 0, .slice none 0 0, .slice none 0 0, .slice none 0 0, .slice none 0 0, .int .i64 0, .string ⟨#[]⟩, .string ⟨#[]⟩, .int .u64 0, .int .i64 0] 53)) := by (repeat (first | exact Below.refl _ _ | assumption | refine below_alloc2 ?_ (by first | exact Nat.le_refl _ | omega) _ | refine Below.drew ?_ | refine below_drewN ?_ _ | refine below_push2 ?_ ‹_› (by first | exact Nat.le_refl _ | omega) | refine Below.setCell ?_ (by first | (simp; done) | (simp; omega) | omega) _))
  go_enter Try.func18, Try.ntmps18
  go_wp2_with fail
  refine (bkNext_none _ _ (h.below hb0)).mono ?_
  rintro e w1 ⟨rfl, hb1⟩
  have hB2 := below_alloc2 (below_push2 hb0 hb1 (Nat.le_refl _)) (Nat.le_refl _) (.cells (accY 0 0 0 0) 48)
  generalize hW : w1.alloc (.cells (accY 0 0 0 0) 48) = w2 at hB2
  replace hW := Lib.hid hW
  go_wp2_with (refine wpList_store_row rfl 48 _ _ rfl _ _ rfl rfl 48 _ (Blk.new w1 _ _).h (by kernel_rfl) (by rfl) (by kernel_rfl) ?_; rw [World.setRow_alloc_new, hW.out])
  clear hW
  try go_end0
  try refine bodyPost_ret (results_none rfl _ _ _) rfl ?_
  exact ⟨rfl, hB2⟩
theorem exOpenP : openP 16385 = 0 := by decide +kernel
theorem exOpens : opensB 16385 = true := by decide +kernel
set_option maxHeartbeats 1600000 in
theorem return_nil (b : Nat) (w : World) (B : Blk w b #[.int .u64 16385] 27) : Calls Try.prog 16 #[.pointer none, .slice (some ⟨b, 0, none⟩) 1 1] w fun e w' => e = .returned (.pointer (some ⟨w.heap.size, 0, none⟩)) ∧ Blk w' w.heap.size #[.pointer none, .slice none 0 0] 92 ∧ Below w.heap.size w w' := by
  have hb0 : Below w.heap.size w (w.alloc (.cells #[.pointer none, .slice none 0 0] 92)) := by (repeat (first | exact Below.refl _ _ | assumption | refine below_alloc2 ?_ (by first | exact Nat.le_refl _ | omega) _ | refine Below.drew ?_ | refine below_drewN ?_ _ | refine below_push2 ?_ ‹_› (by first | exact Nat.le_refl _ | omega) | refine Below.setCell ?_ (by first | (simp; done) | (simp; omega) | omega) _))
  have BK := Blk.new w #[.pointer none, .slice none 0 0] 92
  have B1 := B.below hb0
  go_enter Try.func16, Try.ntmps16
  go_wp2_with fail
  generalize w.alloc (.cells #[.pointer none, .slice none 0 0] 92) = w1 at hb0 BK B1 ⊢
  go_loopw [17] (fun i wr => ∃ k : Nat, k ≤ 1 ∧ i = .int .i64 k ∧ Below w.heap.size w wr ∧ Blk wr w.heap.size #[.pointer none, .slice none 0 0] 92 ∧ Blk wr b #[.int .u64 16385] 27) (fun i _ => 1 - (intOf i).toNat)
  case atStart => exact ⟨0, Nat.zero_le _, rfl, hb0, BK, B1⟩
  case round =>
    clear hb0 BK B1
    obtain ⟨k, hk, rfl, hB, BK, B1⟩ := hrel
    by_cases hlt : k < 1
    · obtain rfl : k = 0 := by omega
      have c0 := B1.at 0 rfl
      have d0 := BK.at 0 rfl
      go_wp2_with fail
      refine (open_any 16385 _ (by omega) (by omega)).mono ?_
      rw [exOpenP, exOpens]
      rintro e w2 ⟨rfl, hb2⟩
      have BK2 := BK.below hb2
      have B2 := B1.below hb2
      go_wp2_with fail
      refine (carena_nil _ _ (BK2.at 0 rfl)).mono ?_
      rintro e w3 ⟨rfl, rfl⟩
      go_wp2_with fail
      go_roundw
      case rel => exact ⟨1, Nat.le_refl _, rfl, below_push2 hB hb2 (Nat.le_refl _), BK2, B2⟩
      case measure => simp [intOf]
    · obtain rfl : k = 1 := by omega
      go_wp2_with fail
      go_ret
      exact ⟨rfl, BK, hB⟩
end Go.Proofs.Ytppclnnkleebkaa.MemP
