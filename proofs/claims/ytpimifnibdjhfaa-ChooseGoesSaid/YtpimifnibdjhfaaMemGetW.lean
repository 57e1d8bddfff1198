/-
  The first block is got: copied, named, Block, Do.
-/
import Derived.Test.YtpimifnibdjhfaaMemGet
import Derived.Test.YtpimifnibdjhfaaClaimN
namespace Go.Proofs.Ytpimifnibdjhfaa.MemP
open Go.RowKit RefP CellP
set_option linter.unusedVariables false
set_option linter.unusedSimpArgs false
/-- cells of a block behind a store of some -/
def setsA (cs : Array Value) : Nat → List Value → Array Value
  | _, [] => cs
  | o, v :: r => setsA (cs.setIfInBounds o v) (o + 1) r
theorem blk_sets {b : Nat} {T : TypeId} : ∀ (vs : List Value) (o : Nat) (w : World) (cs : Array Value), Blk w b cs T → Blk (w.setCells b o vs) b (setsA cs o vs) T
  | [], _, _, _, h => h
  | v :: r, o, w, cs, h => blk_sets r (o + 1) _ _ (h.set o v)
theorem fr_sets {S : List Nat} {b : Nat} (hb : b ∈ S) : ∀ (vs : List Value) (o : Nat) (w : World), Fr S w (w.setCells b o vs)
  | [], _, _ => Fr.refl _ _
  | v :: r, o, w => ((Fr.refl _ _).set _ _ (.inl hb)).trans (fr_sets hb r (o + 1) _)
theorem below_sets {B b : Nat} {w0 : World} (hb : B ≤ b) : ∀ (vs : List Value) (o : Nat) (w : World), Below B w0 w → Below B w0 (w.setCells b o vs)
  | [], _, _, h => h
  | v :: r, o, w, h => below_sets hb r (o + 1) _ (h.setCell (p := ⟨b, o, none⟩) hb v)
theorem there_blk {w : World} {b o n : Nat} {cs : Array Value} {T : TypeId} (h : Blk w b cs T) (hn : o + n ≤ cs.size) : w.there b o n := fun j hj => by
  refine ⟨?_, h.free _⟩
  rw [h.at (o + j) (Array.getElem?_eq_getElem (show o + j < cs.size by omega))]; rfl
/-- the first block, with rows -/
abbrev bkA (k v d : Value) : Array Value := #[.int .i64 1, .int .i64 0, .string ⟨#[]⟩, .string ⟨#[]⟩, .bool true, .int .i64 (-1), k, v, d, .int .i64 0, .int .i64 0, .string ⟨#[]⟩, .int .u64 0, nlV, nlV, nlV, nlV]
theorem setsA_bk (k v d : Value) : setsA (bkA nlV nlV nlV) 1 (ndA k v d).toList = bkA k v d := by
  simp [setsA, bkA, ndA]
set_option maxRecDepth 100000 in
set_option maxHeartbeats 800000 in
theorem stepc_nil (w : World) : Calls Try.prog 50 #[.slice none 0 0] w fun e w' => e = .returned (.slice none 0 0) ∧ w = w' := by
  have hnil : ∀ w, (binOp .eql 50 (.slice none 0 0) (.slice none 0 0)).run Try.prog w = .ok (.bool true) w := fun w => Lib.run_eql_slice_nil w _ _ none 0 0 0 0 Try.underlying50
  go_enter Try.func50, Try.ntmps50
  go_wp2_with fail
  go_ret
  exact ⟨rfl, rfl⟩
set_option maxRecDepth 100000 in
set_option maxHeartbeats 800000 in
theorem wordc_nil (w : World) : Calls Try.prog 51 #[.slice none 0 0] w fun e w' => e = .returned (.slice none 0 0) ∧ w = w' := by
  have hnil : ∀ w, (binOp .eql 43 (.slice none 0 0) (.slice none 0 0)).run Try.prog w = .ok (.bool true) w := fun w => Lib.run_eql_slice_nil w _ _ none 0 0 0 0 Try.underlying43
  go_enter Try.func51, Try.ntmps51
  go_wp2_with fail
  go_ret
  exact ⟨rfl, rfl⟩
set_option maxRecDepth 100000 in
set_option maxHeartbeats 800000 in
theorem pairc_nil (w : World) : Calls Try.prog 52 #[.slice none 0 0] w fun e w' => e = .returned (.slice none 0 0) ∧ w = w' := by
  have hnil : ∀ w, (binOp .eql 47 (.slice none 0 0) (.slice none 0 0)).run Try.prog w = .ok (.bool true) w := fun w => Lib.run_eql_slice_nil w _ _ none 0 0 0 0 Try.underlying47
  go_enter Try.func52, Try.ntmps52
  go_wp2_with fail
  go_ret
  exact ⟨rfl, rfl⟩
set_option maxRecDepth 100000 in
set_option maxHeartbeats 3200000 in
theorem copied_first (w : World) : Calls Try.prog 34 #[.agg (bkA nlV nlV nlV)] w fun e w' => (∃ b1 b2 b3, e = .returned (.agg (bkA (e0V b1) (e0V b2) (e0V b3)))) ∧ Below w.heap.size w w' := by
  have hb0 : Below w.heap.size w ((w.alloc (.cells (bkA nlV nlV nlV) 54)).alloc (.cells #[.int .i64 0, .int .i64 0, .string ⟨#[]⟩, .string ⟨#[]⟩, .bool false, .int .i64 0, nlV, nlV, nlV, .int .i64 0, .int .i64 0, .string ⟨#[]⟩, .int .u64 0, nlV, nlV, nlV, nlV] 54)) := by (repeat (first | exact Below.refl _ _ | assumption | refine below_alloc2 ?_ (by first | exact Nat.le_refl _ | omega) _ | refine Below.drew ?_ | refine below_drewN ?_ _ | refine below_push2 ?_ ‹_› (by first | exact Nat.le_refl _ | omega) | refine Below.setCell ?_ (by first | (simp; done) | (simp; omega) | omega) _))
  have BB := (Blk.new w (bkA nlV nlV nlV) 54).alloc (.cells #[.int .i64 0, .int .i64 0, .string ⟨#[]⟩, .string ⟨#[]⟩, .bool false, .int .i64 0, nlV, nlV, nlV, .int .i64 0, .int .i64 0, .string ⟨#[]⟩, .int .u64 0, nlV, nlV, nlV, nlV] 54)
  have BR : Blk ((w.alloc (.cells (bkA nlV nlV nlV) 54)).alloc (.cells #[.int .i64 0, .int .i64 0, .string ⟨#[]⟩, .string ⟨#[]⟩, .bool false, .int .i64 0, nlV, nlV, nlV, .int .i64 0, .int .i64 0, .string ⟨#[]⟩, .int .u64 0, nlV, nlV, nlV, nlV] 54)) (w.heap.size + 1) #[.int .i64 0, .int .i64 0, .string ⟨#[]⟩, .string ⟨#[]⟩, .bool false, .int .i64 0, nlV, nlV, nlV, .int .i64 0, .int .i64 0, .string ⟨#[]⟩, .int .u64 0, nlV, nlV, nlV, nlV] 54 := by
    have := Blk.new (w.alloc (.cells (bkA nlV nlV nlV) 54)) #[.int .i64 0, .int .i64 0, .string ⟨#[]⟩, .string ⟨#[]⟩, .bool false, .int .i64 0, nlV, nlV, nlV, .int .i64 0, .int .i64 0, .string ⟨#[]⟩, .int .u64 0, nlV, nlV, nlV, nlV] 54
    simpa using this
  go_enter Try.func34, Try.ntmps34
  go_wp2_with fail
  generalize ((w.alloc (.cells (bkA nlV nlV nlV) 54)).alloc (.cells #[.int .i64 0, .int .i64 0, .string ⟨#[]⟩, .string ⟨#[]⟩, .bool false, .int .i64 0, nlV, nlV, nlV, .int .i64 0, .int .i64 0, .string ⟨#[]⟩, .int .u64 0, nlV, nlV, nlV, nlV] 54)) = w1 at hb0 BB BR ⊢
  refine (nclone_first _).mono ?_
  rintro e w2 ⟨⟨b1, b2, b3, rfl⟩, hb2⟩
  have BB2 := BB.below hb2
  have BR2 := BR.below hb2
  have hB2 := below_push2 hb0 hb2 (Nat.le_refl _)
  have hth := there_blk (o := 1) (n := 8) BB2 (by decide)
  clear hb0 BB BR hb2
  go_upto_region 2 with (refine wpList_store_mid rfl 46 _ _ rfl w.heap.size 1 (ndA (e0V b1) (e0V b2) (e0V b3)) rfl rfl hth (by kernel_rfl) (by kernel_rfl) ?_)
  have BB3 := blk_sets (ndA (e0V b1) (e0V b2) (e0V b3)).toList 1 _ _ BB2
  rw [setsA_bk] at BB3
  have BR3 := (fr_sets (S := [w.heap.size]) (b := w.heap.size) (by simp) (ndA (e0V b1) (e0V b2) (e0V b3)).toList 1 w2).blk BR2 (by simp)
  have hB3 := below_sets (b := w.heap.size) (Nat.le_refl _) (ndA (e0V b1) (e0V b2) (e0V b3)).toList 1 _ hB2
  generalize w2.setCells w.heap.size 1 (ndA (e0V b1) (e0V b2) (e0V b3)).toList = w3 at BB3 BR3 hB3 ⊢
  clear hth BB2 BR2 hB2
  have c13 := BB3.at 13 rfl
  have c14 := BB3.at 14 rfl
  have c15 := BB3.at 15 rfl
  have c16 := BB3.at 16 rfl
  have f13 := BB3.free 13
  have f14 := BB3.free 14
  have f15 := BB3.free 15
  have f16 := BB3.free 16
  have s13 := setCell_self (i := 13) (v := .slice none 0 0) BB3 rfl
  have s14 := setCell_self (i := 14) (v := .slice none 0 0) BB3 rfl
  have s15 := setCell_self (i := 15) (v := .slice none 0 0) BB3 rfl
  have s16 := setCell_self (i := 16) (v := .slice none 0 0) BB3 rfl
  go_wp2_with fail
  refine (stepc_nil _).mono ?_
  rintro e w4 ⟨rfl, rfl⟩
  go_wp2_with fail
  try rw [s14]
  refine (wordc_nil _).mono ?_
  rintro e w4 ⟨rfl, rfl⟩
  go_wp2_with fail
  try rw [s15]
  refine (pairc_nil _).mono ?_
  rintro e w4 ⟨rfl, rfl⟩
  go_wp2_with fail
  try rw [s13]
  refine (pairc_nil _).mono ?_
  rintro e w4 ⟨rfl, rfl⟩
  go_wp2_with (first
    | (refine wpList_load_row rfl 54 _ rfl w.heap.size rfl 54 _ (0, 0) _ BB3.h Try.underlying54 rfl (by kernel_rfl) ?_)
    | (refine wpList_store_row rfl 54 _ _ rfl (w.heap.size + 1) _ rfl rfl 54 _ BR3.h (by kernel_rfl) (by rfl) (by kernel_rfl) ?_))
  refine bodyPost_ret (results_cell_row rfl _ _ (w.heap.size + 1) 54 (bkA (e0V b1) (e0V b2) (e0V b3)) (0, 0) _ rfl (Blk.row BR3 (bkA (e0V b1) (e0V b2) (e0V b3))).h Try.underlying54 rfl (by kernel_rfl)) rfl ⟨⟨b1, b2, b3, rfl⟩, below_setRow hB3 (by omega) _⟩
theorem g1 : openG 16385 = 1 := by decide +kernel
set_option maxHeartbeats 1600000 in
theorem named_first {o oc g gb gr A T : Nat} {L : List (Int × Int)} {bs rs : List (List Value)} (w : World) (h : MemAt w o oc g gb gr A T L bs rs) (hu : loadW L (atI A T 1 0) = useI 1 1) : Calls Try.prog 33 #[.pointer (some ⟨o, 0, none⟩), .int .u64 16385] w fun e w' => e = .returned (.tuple #[.int .i64 0, .bool true]) ∧ Below w.heap.size w w' := by
  have hA := h.a1
  have q1 : decide ((A : Int) ≤ 0) = false := by simp; omega
  have hA1 : (1 : Int) ≤ (A : Int) := by omega
  go_enter Try.func33, Try.ntmps33
  go_wp2_with fail
  refine (open_any 16385 _ (by omega) (by omega)).mono ?_
  rw [exOpenP, exOpens, g1]
  rintro e w1 ⟨rfl, hb1⟩
  replace h := h.below hb1
  go_wp2_with fail
  refine (arena_any _ h).mono ?_
  rintro e w2 ⟨rfl, rfl⟩
  go_wp2_with fail
  refine (muse_any 0 _ h (by omega) (by omega)).mono ?_
  rintro e w2 ⟨rfl, hb2⟩
  replace h := h.below hb2
  have hB2 := below_push2 hb1 hb2 (Nat.le_refl _)
  go_wp2_with fail
  refine (mload_any _ _ h).mono ?_
  rw [hu]
  rintro e w3 ⟨rfl, hb3⟩
  have hB3 := below_push2 hB2 hb3 (Nat.le_refl _)
  go_wp2_with fail
  refine (use_any 1 1 _ (by omega) (by omega) (by omega) (by omega)).mono ?_
  rintro e w4 ⟨rfl, rfl⟩
  go_wp2_with fail
  go_ret2
  exact ⟨rfl, hB3⟩
set_option maxRecDepth 100000 in
set_option maxHeartbeats 3200000 in
theorem block_first {o oc g gb gr A T : Nat} {L : List (Int × Int)} {bs rs : List (List Value)} (w : World) (h : MemAt w o oc g gb gr A T L bs rs) (hu : loadW L (atI A T 1 0) = useI 1 1) (h0 : bs.getD 0 [] = eb) : Calls Try.prog 32 #[.pointer (some ⟨o, 0, none⟩), .int .u64 16385] w fun e w' => (∃ b1 b2 b3, e = .returned (.tuple #[.agg (bkA (e0V b1) (e0V b2) (e0V b3)), .bool true])) ∧ Below w.heap.size w w' := by
  have hb0 : Below w.heap.size w (w.alloc (.cells #[.int .i64 0, .int .i64 0, .string ⟨#[]⟩, .string ⟨#[]⟩, .bool false, .int .i64 0, nlV, nlV, nlV, .int .i64 0, .int .i64 0, .string ⟨#[]⟩, .int .u64 0, nlV, nlV, nlV, nlV] 54)) := by (repeat (first | exact Below.refl _ _ | assumption | refine below_alloc2 ?_ (by first | exact Nat.le_refl _ | omega) _ | refine Below.drew ?_ | refine below_drewN ?_ _ | refine below_push2 ?_ ‹_› (by first | exact Nat.le_refl _ | omega) | refine Below.setCell ?_ (by first | (simp; done) | (simp; omega) | omega) _))
  have hA := h.a1
  have hA1 : (0 : Int) < (A : Int) := by omega
  go_enter Try.func32, Try.ntmps32
  go_wp2_with fail
  refine (named_first _ (h.below hb0) hu).mono ?_
  rintro e w1 ⟨rfl, hb1⟩
  have hB1 := below_push2 hb0 hb1 (Nat.le_refl _)
  have BR := (Blk.new w #[.int .i64 0, .int .i64 0, .string ⟨#[]⟩, .string ⟨#[]⟩, .bool false, .int .i64 0, nlV, nlV, nlV, .int .i64 0, .int .i64 0, .string ⟨#[]⟩, .int .u64 0, nlV, nlV, nlV, nlV] 54).below hb1
  have h1 := (h.below hb0).below hb1
  have d9 : w1.cell? ⟨o, 9, none⟩ = some (.slice (some ⟨gb, 0, none⟩) A A) := h1.head.at 9 rfl
  have hr : w1.rangeAt gb 0 (bkA nlV nlV nlV).toList := by
    intro j v hj
    have hj17 : j < 17 := by
      by_cases e : j < 17
      · exact e
      · rw [List.getElem?_eq_none (by simp; omega)] at hj; cases hj
    rw [Nat.zero_add, h1.blocks.at j (raw_at0 bs (by rw [h1.lb]; omega) j hj17), h0]
    rcases lt17 hj17 with e | e | e | e | e | e | e | e | e | e | e | e | e | e | e | e | e <;> subst e <;> simpa [rawF, eb] using hj
  clear hb0 hb1 h1
  go_wp2_with (refine wpList_load_mid rfl 54 _ rfl gb 0 rfl (bkA nlV nlV nlV).toList _ hr Try.underlying54 rfl (by kernel_rfl) ?_)
  refine (copied_first _).mono ?_
  rintro e w2 ⟨⟨b1, b2, b3, rfl⟩, hb2⟩
  have hB2 := below_push2 hB1 hb2 (Nat.le_refl _)
  replace BR := BR.below hb2
  go_wp2_with (refine wpList_store_row rfl 54 _ _ rfl w.heap.size _ rfl rfl 54 _ BR.h (by kernel_rfl) (by rfl) (by kernel_rfl) ?_)
  refine bodyPost_ret (v := .tuple #[.agg (bkA (e0V b1) (e0V b2) (e0V b3)), .bool true]) (results_cell_tmp rfl _ _ w.heap.size 54 (bkA (e0V b1) (e0V b2) (e0V b3)) (0, 0) _ (.bool true) rfl rfl (Blk.row BR (bkA (e0V b1) (e0V b2) (e0V b3))).h Try.underlying54 rfl (by kernel_rfl)) rfl ⟨⟨b1, b2, b3, rfl⟩, below_setRow hB2 (by omega) _⟩
end Go.Proofs.Ytpimifnibdjhfaa.MemP
