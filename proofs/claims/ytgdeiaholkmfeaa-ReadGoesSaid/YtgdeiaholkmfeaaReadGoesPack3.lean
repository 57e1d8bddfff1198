/-
  claim: Cost; tasks that are none: contracts.
-/
import Derived.Test.YtgdeiaholkmfeaaRows
import Derived.WalkLawsBesides
import Derived.WalkSpells
import Derived.Outline
import Derived.BigQuiet
import Derived.LoopTactic
import Derived.Lib.MinMax
import Derived.Lib.QuietBelow
import Derived.Deep.RegionLaw
import Derived.Deep.WholeRow
import Derived.Laws.NewDeep
import Derived.Deep.MidRow
import Derived.Lib.SlicesS
import Derived.Deep.DeepCutAuto
import Derived.Laws.CopyOwn
import Derived.Laws.MakeOwn
import Derived.Deep.RegionHeld
import Derived.Test.YtgdeiaholkmfeaaReadGoesPack2

namespace Go.Proofs.Ytgdeiaholkmfeaa.MemP
open Go.RowKit RefP CellP
set_option linter.unusedVariables false
set_option linter.unusedSimpArgs false
abbrev clA (m : Option Addr) (ws : Value) (many place seen : Int) (ld : Bool) (word ver : Int) : Array Value := #[.pointer m, ws, .int .i64 many, .int .i64 place, .int .i64 seen, .bool ld, .int .u64 word, .int .u64 ver]
def costI (a m : Int) : Int := if (1 ≤ a ∧ a ≤ 8192) ∧ 1 ≤ m ∧ m ≤ 8192 then 2 * a * m else 0
theorem exOpenP : openP 16385 = 0 := by decide +kernel
theorem exOpens : opensB 16385 = true := by decide +kernel
end Go.Proofs.Ytgdeiaholkmfeaa.MemP

/-
  The first block is got: copied, named, Block, Do.
-/
namespace Go.Proofs.Ytgdeiaholkmfeaa.MemP
open Go.RowKit RefP CellP
set_option linter.unusedVariables false
set_option linter.unusedSimpArgs false
/-- cells of a block behind a store of some -/
def setsA (cs : Array Value) : Nat → List Value → Array Value
  | _, [] => cs
  | o, v :: r => setsA (cs.setIfInBounds o v) (o + 1) r
theorem blk_sets {b : Nat} {T : TypeId} : ∀ (vs : List Value) (o : Nat) (w : World) (cs : Array Value), Blk w b cs T → Blk (w.setCells b o vs) b (setsA cs o vs) T
  | [], _, _, _, h => h
  | v :: r, o, w, cs, h => blk_sets r (o + 1) _ _ (h.set o v)
theorem fr_sets {S : List Nat} {b : Nat} (hb : b ∈ S) : ∀ (vs : List Value) (o : Nat) (w : World), Fr S w (w.setCells b o vs)
  | [], _, _ => Fr.refl _ _
  | v :: r, o, w => ((Fr.refl _ _).set _ _ (.inl hb)).trans (fr_sets hb r (o + 1) _)
theorem below_sets {B b : Nat} {w0 : World} (hb : B ≤ b) : ∀ (vs : List Value) (o : Nat) (w : World), Below B w0 w → Below B w0 (w.setCells b o vs)
  | [], _, _, h => h
  | v :: r, o, w, h => below_sets hb r (o + 1) _ (h.setCell (p := ⟨b, o, none⟩) hb v)
theorem there_blk {w : World} {b o n : Nat} {cs : Array Value} {T : TypeId} (h : Blk w b cs T) (hn : o + n ≤ cs.size) : w.there b o n := fun j hj => by
  refine ⟨?_, h.free _⟩
  rw [h.at (o + j) (Array.getElem?_eq_getElem (show o + j < cs.size by omega))]; rfl
/-- the first block, with rows -/
abbrev bkA (k v d : Value) : Array Value := #[.int .i64 1, .int .i64 0, .string ⟨#[]⟩, .string ⟨#[]⟩, .bool true, .int .i64 (-1), k, v, d, .int .i64 0, .int .i64 0, .string ⟨#[]⟩, .int .u64 0, nlV, nlV, nlV, nlV]
theorem setsA_bk (k v d : Value) : setsA (bkA nlV nlV nlV) 1 (ndA k v d).toList = bkA k v d := by
  simp [setsA, bkA, ndA]
set_option maxRecDepth 100000 in
set_option maxHeartbeats 800000 in
theorem stepc_nil (w : World) : Calls Try.prog 47 #[.slice none 0 0] w fun e w' => e = .returned (.slice none 0 0) ∧ w = w' := by
  have hnil : ∀ w, (binOp .eql 36 (.slice none 0 0) (.slice none 0 0)).run Try.prog w = .ok (.bool true) w := fun w => Lib.run_eql_slice_nil w _ _ none 0 0 0 0 Try.underlying36
  go_enter Try.func47, Try.ntmps47
  go_wp2_with fail
  go_ret
  exact ⟨rfl, rfl⟩
set_option maxRecDepth 100000 in
set_option maxHeartbeats 800000 in
theorem wordc_nil (w : World) : Calls Try.prog 48 #[.slice none 0 0] w fun e w' => e = .returned (.slice none 0 0) ∧ w = w' := by
  have hnil : ∀ w, (binOp .eql 29 (.slice none 0 0) (.slice none 0 0)).run Try.prog w = .ok (.bool true) w := fun w => Lib.run_eql_slice_nil w _ _ none 0 0 0 0 Try.underlying29
  go_enter Try.func48, Try.ntmps48
  go_wp2_with fail
  go_ret
  exact ⟨rfl, rfl⟩
set_option maxRecDepth 100000 in
set_option maxHeartbeats 800000 in
theorem pairc_nil (w : World) : Calls Try.prog 49 #[.slice none 0 0] w fun e w' => e = .returned (.slice none 0 0) ∧ w = w' := by
  have hnil : ∀ w, (binOp .eql 33 (.slice none 0 0) (.slice none 0 0)).run Try.prog w = .ok (.bool true) w := fun w => Lib.run_eql_slice_nil w _ _ none 0 0 0 0 Try.underlying33
  go_enter Try.func49, Try.ntmps49
  go_wp2_with fail
  go_ret
  exact ⟨rfl, rfl⟩
set_option maxRecDepth 100000 in
set_option maxHeartbeats 3200000 in
theorem copied_first (w : World) : Calls Try.prog 28 #[.agg (bkA nlV nlV nlV)] w fun e w' => (∃ b1 b2 b3, e = .returned (.agg (bkA (e0V b1) (e0V b2) (e0V b3)))) ∧ Below w.heap.size w w' := by
  have hb0 : Below w.heap.size w ((w.alloc (.cells (bkA nlV nlV nlV) 40)).alloc (.cells #[.int .i64 0, .int .i64 0, .string ⟨#[]⟩, .string ⟨#[]⟩, .bool false, .int .i64 0, nlV, nlV, nlV, .int .i64 0, .int .i64 0, .string ⟨#[]⟩, .int .u64 0, nlV, nlV, nlV, nlV] 40)) := by (repeat (first | exact Below.refl _ _ | assumption | refine below_alloc2 ?_ (by first | exact Nat.le_refl _ | omega) _ | refine Below.drew ?_ | refine below_drewN ?_ _ | refine below_push2 ?_ ‹_› (by first | exact Nat.le_refl _ | omega) | refine Below.setCell ?_ (by first | (simp; done) | (simp; omega) | omega) _))
  have BB := (Blk.new w (bkA nlV nlV nlV) 40).alloc (.cells #[.int .i64 0, .int .i64 0, .string ⟨#[]⟩, .string ⟨#[]⟩, .bool false, .int .i64 0, nlV, nlV, nlV, .int .i64 0, .int .i64 0, .string ⟨#[]⟩, .int .u64 0, nlV, nlV, nlV, nlV] 40)
  have BR : Blk ((w.alloc (.cells (bkA nlV nlV nlV) 40)).alloc (.cells #[.int .i64 0, .int .i64 0, .string ⟨#[]⟩, .string ⟨#[]⟩, .bool false, .int .i64 0, nlV, nlV, nlV, .int .i64 0, .int .i64 0, .string ⟨#[]⟩, .int .u64 0, nlV, nlV, nlV, nlV] 40)) (w.heap.size + 1) #[.int .i64 0, .int .i64 0, .string ⟨#[]⟩, .string ⟨#[]⟩, .bool false, .int .i64 0, nlV, nlV, nlV, .int .i64 0, .int .i64 0, .string ⟨#[]⟩, .int .u64 0, nlV, nlV, nlV, nlV] 40 := by
    have := Blk.new (w.alloc (.cells (bkA nlV nlV nlV) 40)) #[.int .i64 0, .int .i64 0, .string ⟨#[]⟩, .string ⟨#[]⟩, .bool false, .int .i64 0, nlV, nlV, nlV, .int .i64 0, .int .i64 0, .string ⟨#[]⟩, .int .u64 0, nlV, nlV, nlV, nlV] 40
    simpa using this
  go_enter Try.func28, Try.ntmps28
  go_wp2_with fail
  generalize ((w.alloc (.cells (bkA nlV nlV nlV) 40)).alloc (.cells #[.int .i64 0, .int .i64 0, .string ⟨#[]⟩, .string ⟨#[]⟩, .bool false, .int .i64 0, nlV, nlV, nlV, .int .i64 0, .int .i64 0, .string ⟨#[]⟩, .int .u64 0, nlV, nlV, nlV, nlV] 40)) = w1 at hb0 BB BR ⊢
  refine (nclone_first _).mono ?_
  rintro e w2 ⟨⟨b1, b2, b3, rfl⟩, hb2⟩
  have BB2 := BB.below hb2
  have BR2 := BR.below hb2
  have hB2 := below_push2 hb0 hb2 (Nat.le_refl _)
  have hth := there_blk (o := 1) (n := 8) BB2 (by decide)
  clear hb0 BB BR hb2
  go_upto_region 2 with (refine wpList_store_mid rfl 32 _ _ rfl w.heap.size 1 (ndA (e0V b1) (e0V b2) (e0V b3)) rfl rfl hth (by kernel_rfl) (by kernel_rfl) ?_)
  have BB3 := blk_sets (ndA (e0V b1) (e0V b2) (e0V b3)).toList 1 _ _ BB2
  rw [setsA_bk] at BB3
  have BR3 := (fr_sets (S := [w.heap.size]) (b := w.heap.size) (by simp) (ndA (e0V b1) (e0V b2) (e0V b3)).toList 1 w2).blk BR2 (by simp)
  have hB3 := below_sets (b := w.heap.size) (Nat.le_refl _) (ndA (e0V b1) (e0V b2) (e0V b3)).toList 1 _ hB2
  generalize w2.setCells w.heap.size 1 (ndA (e0V b1) (e0V b2) (e0V b3)).toList = w3 at BB3 BR3 hB3 ⊢
  clear hth BB2 BR2 hB2
  have c13 := BB3.at 13 rfl
  have c14 := BB3.at 14 rfl
  have c15 := BB3.at 15 rfl
  have c16 := BB3.at 16 rfl
  have f13 := BB3.free 13
  have f14 := BB3.free 14
  have f15 := BB3.free 15
  have f16 := BB3.free 16
  have s13 := setCell_self (i := 13) (v := .slice none 0 0) BB3 rfl
  have s14 := setCell_self (i := 14) (v := .slice none 0 0) BB3 rfl
  have s15 := setCell_self (i := 15) (v := .slice none 0 0) BB3 rfl
  have s16 := setCell_self (i := 16) (v := .slice none 0 0) BB3 rfl
  go_wp2_with fail
  refine (stepc_nil _).mono ?_
  rintro e w4 ⟨rfl, rfl⟩
  go_wp2_with fail
  try rw [s14]
  refine (wordc_nil _).mono ?_
  rintro e w4 ⟨rfl, rfl⟩
  go_wp2_with fail
  try rw [s15]
  refine (pairc_nil _).mono ?_
  rintro e w4 ⟨rfl, rfl⟩
  go_wp2_with fail
  try rw [s13]
  refine (pairc_nil _).mono ?_
  rintro e w4 ⟨rfl, rfl⟩
  go_wp2_with (first
    | (refine wpList_load_row rfl 40 _ rfl w.heap.size rfl 40 _ (0, 0) _ BB3.h Try.underlying40 rfl (by kernel_rfl) ?_)
    | (refine wpList_store_row rfl 40 _ _ rfl (w.heap.size + 1) _ rfl rfl 40 _ BR3.h (by kernel_rfl) (by rfl) (by kernel_rfl) ?_))
  refine bodyPost_ret (results_cell_row rfl _ _ (w.heap.size + 1) 40 (bkA (e0V b1) (e0V b2) (e0V b3)) (0, 0) _ rfl (Blk.row BR3 (bkA (e0V b1) (e0V b2) (e0V b3))).h Try.underlying40 rfl (by kernel_rfl)) rfl ⟨⟨b1, b2, b3, rfl⟩, below_setRow hB3 (by omega) _⟩
theorem g1 : openG 16385 = 1 := by decide +kernel
set_option maxHeartbeats 1600000 in
theorem named_first {o oc g gb gr A T : Nat} {L : List (Int × Int)} {bs rs : List (List Value)} (w : World) (h : MemAt w o oc g gb gr A T L bs rs) (hu : loadW L (atI A T 1 0) = useI 1 1) : Calls Try.prog 27 #[.pointer (some ⟨o, 0, none⟩), .int .u64 16385] w fun e w' => e = .returned (.tuple #[.int .i64 0, .bool true]) ∧ Below w.heap.size w w' := by
  have hA := h.a1
  have q1 : decide ((A : Int) ≤ 0) = false := by simp; omega
  have hA1 : (1 : Int) ≤ (A : Int) := by omega
  go_enter Try.func27, Try.ntmps27
  go_wp2_with fail
  refine (open_any 16385 _ (by omega) (by omega)).mono ?_
  rw [exOpenP, exOpens, g1]
  rintro e w1 ⟨rfl, hb1⟩
  replace h := h.below hb1
  go_wp2_with fail
  refine (arena_any _ h).mono ?_
  rintro e w2 ⟨rfl, rfl⟩
  go_wp2_with fail
  refine (muse_any 0 _ h (by omega) (by omega)).mono ?_
  rintro e w2 ⟨rfl, hb2⟩
  replace h := h.below hb2
  have hB2 := below_push2 hb1 hb2 (Nat.le_refl _)
  go_wp2_with fail
  refine (mload_any _ _ h).mono ?_
  rw [hu]
  rintro e w3 ⟨rfl, hb3⟩
  have hB3 := below_push2 hB2 hb3 (Nat.le_refl _)
  go_wp2_with fail
  refine (use_any 1 1 _ (by omega) (by omega) (by omega) (by omega)).mono ?_
  rintro e w4 ⟨rfl, rfl⟩
  go_wp2_with fail
  go_ret2
  exact ⟨rfl, hB3⟩
set_option maxRecDepth 100000 in
set_option maxHeartbeats 3200000 in
theorem block_first {o oc g gb gr A T : Nat} {L : List (Int × Int)} {bs rs : List (List Value)} (w : World) (h : MemAt w o oc g gb gr A T L bs rs) (hu : loadW L (atI A T 1 0) = useI 1 1) (h0 : bs.getD 0 [] = eb) : Calls Try.prog 26 #[.pointer (some ⟨o, 0, none⟩), .int .u64 16385] w fun e w' => (∃ b1 b2 b3, e = .returned (.tuple #[.agg (bkA (e0V b1) (e0V b2) (e0V b3)), .bool true])) ∧ Below w.heap.size w w' := by
  have hb0 : Below w.heap.size w (w.alloc (.cells #[.int .i64 0, .int .i64 0, .string ⟨#[]⟩, .string ⟨#[]⟩, .bool false, .int .i64 0, nlV, nlV, nlV, .int .i64 0, .int .i64 0, .string ⟨#[]⟩, .int .u64 0, nlV, nlV, nlV, nlV] 40)) := by (repeat (first | exact Below.refl _ _ | assumption | refine below_alloc2 ?_ (by first | exact Nat.le_refl _ | omega) _ | refine Below.drew ?_ | refine below_drewN ?_ _ | refine below_push2 ?_ ‹_› (by first | exact Nat.le_refl _ | omega) | refine Below.setCell ?_ (by first | (simp; done) | (simp; omega) | omega) _))
  have hA := h.a1
  have hA1 : (0 : Int) < (A : Int) := by omega
  go_enter Try.func26, Try.ntmps26
  go_wp2_with fail
  refine (named_first _ (h.below hb0) hu).mono ?_
  rintro e w1 ⟨rfl, hb1⟩
  have hB1 := below_push2 hb0 hb1 (Nat.le_refl _)
  have BR := (Blk.new w #[.int .i64 0, .int .i64 0, .string ⟨#[]⟩, .string ⟨#[]⟩, .bool false, .int .i64 0, nlV, nlV, nlV, .int .i64 0, .int .i64 0, .string ⟨#[]⟩, .int .u64 0, nlV, nlV, nlV, nlV] 40).below hb1
  have h1 := (h.below hb0).below hb1
  have d9 : w1.cell? ⟨o, 9, none⟩ = some (.slice (some ⟨gb, 0, none⟩) A A) := h1.head.at 9 rfl
  have hr : w1.rangeAt gb 0 (bkA nlV nlV nlV).toList := by
    intro j v hj
    have hj17 : j < 17 := by
      by_cases e : j < 17
      · exact e
      · rw [List.getElem?_eq_none (by simp; omega)] at hj; cases hj
    rw [Nat.zero_add, h1.blocks.at j (raw_at0 bs (by rw [h1.lb]; omega) j hj17), h0]
    rcases lt17 hj17 with e | e | e | e | e | e | e | e | e | e | e | e | e | e | e | e | e <;> subst e <;> simpa [rawF, eb] using hj
  clear hb0 hb1 h1
  go_wp2_with (refine wpList_load_mid rfl 40 _ rfl gb 0 rfl (bkA nlV nlV nlV).toList _ hr Try.underlying40 rfl (by kernel_rfl) ?_)
  refine (copied_first _).mono ?_
  rintro e w2 ⟨⟨b1, b2, b3, rfl⟩, hb2⟩
  have hB2 := below_push2 hB1 hb2 (Nat.le_refl _)
  replace BR := BR.below hb2
  go_wp2_with (refine wpList_store_row rfl 40 _ _ rfl w.heap.size _ rfl rfl 40 _ BR.h (by kernel_rfl) (by rfl) (by kernel_rfl) ?_)
  refine bodyPost_ret (v := .tuple #[.agg (bkA (e0V b1) (e0V b2) (e0V b3)), .bool true]) (results_cell_tmp rfl _ _ w.heap.size 40 (bkA (e0V b1) (e0V b2) (e0V b3)) (0, 0) _ (.bool true) rfl rfl (Blk.row BR (bkA (e0V b1) (e0V b2) (e0V b3))).h Try.underlying40 rfl (by kernel_rfl)) rfl ⟨⟨b1, b2, b3, rfl⟩, below_setRow hB2 (by omega) _⟩
end Go.Proofs.Ytgdeiaholkmfeaa.MemP

/-
  The first block is got by an access: contract.
-/
namespace Go.Proofs.Ytgdeiaholkmfeaa.MemP
open Go.RowKit RefP CellP
set_option linter.unusedVariables false
set_option linter.unusedSimpArgs false
abbrev repB (k v d : Value) : Array Value := #[.bool true, .int .u64 0, .int .u64 0, .int .i64 1, .int .i64 0, .string ⟨#[]⟩, .string ⟨#[]⟩, .bool true, .int .i64 (-1), k, v, d, .int .i64 0, .int .i64 0, .string ⟨#[]⟩, .int .u64 0, nlV, nlV, nlV, nlV, .int .i64 0, .string ⟨#[]⟩, .string ⟨#[]⟩, .int .u64 0, .int .i64 0]
abbrev repF (k v d : Value) : Array Value := #[.bool false, .int .u64 0, .int .u64 0, .int .i64 1, .int .i64 0, .string ⟨#[]⟩, .string ⟨#[]⟩, .bool true, .int .i64 (-1), k, v, d, .int .i64 0, .int .i64 0, .string ⟨#[]⟩, .int .u64 0, nlV, nlV, nlV, nlV, .int .i64 0, .string ⟨#[]⟩, .string ⟨#[]⟩, .int .u64 0, .int .i64 0]
theorem setsA_rep (k v d : Value) : setsA #[.bool false, .int .u64 0, .int .u64 0, .int .i64 0, .int .i64 0, .string ⟨#[]⟩, .string ⟨#[]⟩, .bool false, .int .i64 0, .slice none 0 0, .slice none 0 0, .slice none 0 0, .int .i64 0, .int .i64 0, .string ⟨#[]⟩, .int .u64 0, .slice none 0 0, .slice none 0 0, .slice none 0 0, .slice none 0 0, .int .i64 0, .string ⟨#[]⟩, .string ⟨#[]⟩, .int .u64 0, .int .i64 0] 3 (bkA k v d).toList = repF k v d := by
  simp [setsA, bkA, repF]
set_option maxRecDepth 100000 in
set_option maxHeartbeats 3200000 in
theorem do_get_first {o oc g gb gr A T : Nat} {L : List (Int × Int)} {bs rs : List (List Value)} (w : World) (h : MemAt w o oc g gb gr A T L bs rs) (hu : loadW L (atI A T 1 0) = useI 1 1) (h0 : bs.getD 0 [] = eb) :
    Calls Try.prog 9 #[.pointer (some ⟨o, 0, none⟩), .agg (accY 4 0 0 16385)] w fun e w' => (∃ b1 b2 b3, e = .returned (.agg (repB (e0V b1) (e0V b2) (e0V b3)))) ∧ Below w.heap.size w w' := by
  have hb2 : Below w.heap.size w ((w.alloc (.cells (accY 4 0 0 16385) 44)).alloc (.cells #[.bool false, .int .u64 0, .int .u64 0, .int .i64 0, .int .i64 0, .string ⟨#[]⟩, .string ⟨#[]⟩, .bool false, .int .i64 0, .slice none 0 0, .slice none 0 0, .slice none 0 0, .int .i64 0, .int .i64 0, .string ⟨#[]⟩, .int .u64 0, .slice none 0 0, .slice none 0 0, .slice none 0 0, .slice none 0 0, .int .i64 0, .string ⟨#[]⟩, .string ⟨#[]⟩, .int .u64 0, .int .i64 0] 46)) := by (repeat (first | exact Below.refl _ _ | assumption | refine below_alloc2 ?_ (by first | exact Nat.le_refl _ | omega) _ | refine Below.drew ?_ | refine below_drewN ?_ _ | refine below_push2 ?_ ‹_› (by first | exact Nat.le_refl _ | omega) | refine Below.setCell ?_ (by first | (simp; done) | (simp; omega) | omega) _))
  have BX := (Blk.new w (accY 4 0 0 16385) 44).alloc (.cells #[.bool false, .int .u64 0, .int .u64 0, .int .i64 0, .int .i64 0, .string ⟨#[]⟩, .string ⟨#[]⟩, .bool false, .int .i64 0, .slice none 0 0, .slice none 0 0, .slice none 0 0, .int .i64 0, .int .i64 0, .string ⟨#[]⟩, .int .u64 0, .slice none 0 0, .slice none 0 0, .slice none 0 0, .slice none 0 0, .int .i64 0, .string ⟨#[]⟩, .string ⟨#[]⟩, .int .u64 0, .int .i64 0] 46)
  have BR : Blk ((w.alloc (.cells (accY 4 0 0 16385) 44)).alloc (.cells #[.bool false, .int .u64 0, .int .u64 0, .int .i64 0, .int .i64 0, .string ⟨#[]⟩, .string ⟨#[]⟩, .bool false, .int .i64 0, .slice none 0 0, .slice none 0 0, .slice none 0 0, .int .i64 0, .int .i64 0, .string ⟨#[]⟩, .int .u64 0, .slice none 0 0, .slice none 0 0, .slice none 0 0, .slice none 0 0, .int .i64 0, .string ⟨#[]⟩, .string ⟨#[]⟩, .int .u64 0, .int .i64 0] 46)) (w.heap.size + 1) #[.bool false, .int .u64 0, .int .u64 0, .int .i64 0, .int .i64 0, .string ⟨#[]⟩, .string ⟨#[]⟩, .bool false, .int .i64 0, .slice none 0 0, .slice none 0 0, .slice none 0 0, .int .i64 0, .int .i64 0, .string ⟨#[]⟩, .int .u64 0, .slice none 0 0, .slice none 0 0, .slice none 0 0, .slice none 0 0, .int .i64 0, .string ⟨#[]⟩, .string ⟨#[]⟩, .int .u64 0, .int .i64 0] 46 := by
    have := Blk.new (w.alloc (.cells (accY 4 0 0 16385) 44)) #[.bool false, .int .u64 0, .int .u64 0, .int .i64 0, .int .i64 0, .string ⟨#[]⟩, .string ⟨#[]⟩, .bool false, .int .i64 0, .slice none 0 0, .slice none 0 0, .slice none 0 0, .int .i64 0, .int .i64 0, .string ⟨#[]⟩, .int .u64 0, .slice none 0 0, .slice none 0 0, .slice none 0 0, .slice none 0 0, .int .i64 0, .string ⟨#[]⟩, .string ⟨#[]⟩, .int .u64 0, .int .i64 0] 46
    simpa using this
  have h2 := h.below hb2
  go_enter Try.func9, Try.ntmps9
  go_wp2_with fail
  generalize ((w.alloc (.cells (accY 4 0 0 16385) 44)).alloc (.cells #[.bool false, .int .u64 0, .int .u64 0, .int .i64 0, .int .i64 0, .string ⟨#[]⟩, .string ⟨#[]⟩, .bool false, .int .i64 0, .slice none 0 0, .slice none 0 0, .slice none 0 0, .int .i64 0, .int .i64 0, .string ⟨#[]⟩, .int .u64 0, .slice none 0 0, .slice none 0 0, .slice none 0 0, .slice none 0 0, .int .i64 0, .string ⟨#[]⟩, .string ⟨#[]⟩, .int .u64 0, .int .i64 0] 46)) = wq at hb2 h2 BX BR ⊢
  refine (none_any _ h2).mono ?_
  rintro e w1 ⟨rfl, rfl⟩
  have b0 := BX.at 0 rfl
  have b3 := BX.at 3 rfl
  go_wp2_with fail
  refine (block_first _ h2 hu h0).mono ?_
  rintro e w3 ⟨⟨b1, b2, b3, rfl⟩, hb3⟩
  have hB3 := below_push2 hb2 hb3 (Nat.le_refl _)
  have BR3 := BR.below hb3
  clear h2 BX BR b0 hb2 hb3
  have hth := there_blk (o := 3) (n := 17) BR3 (by decide)
  have BF := blk_sets (bkA (e0V b1) (e0V b2) (e0V b3)).toList 3 _ _ BR3
  rw [setsA_rep] at BF
  have hBF := below_sets (b := w.heap.size + 1) (by omega) (bkA (e0V b1) (e0V b2) (e0V b3)).toList 3 _ hB3
  generalize hX : w3.setCells (w.heap.size + 1) 3 (bkA (e0V b1) (e0V b2) (e0V b3)).toList = wx at BF hBF
  replace hX := Lib.hid hX
  have f0 := BF.free 0
  have c0 := BF.at 0 rfl
  have BG := BF.set 0 (.bool true)
  simp only [List.setIfInBounds_toArray, List.set_cons_zero] at BG
  go_wp2_with (first
    | (refine wpList_store_mid rfl 40 _ _ rfl (w.heap.size + 1) 3 (bkA (e0V b1) (e0V b2) (e0V b3)) rfl rfl hth (by kernel_rfl) (by kernel_rfl) ?_; rw [hX.out])
    | (refine wpList_load_row rfl 46 _ rfl (w.heap.size + 1) rfl 46 _ (0, 0) _ BG.h Try.underlying46 rfl (by kernel_rfl) ?_)
    | (refine wpList_store_row rfl 46 _ _ rfl (w.heap.size + 1) _ rfl rfl 46 _ BG.h (by kernel_rfl) (by rfl) (by kernel_rfl) ?_))
  refine bodyPost_ret (results_cell_row rfl _ _ (w.heap.size + 1) 46 (repB (e0V b1) (e0V b2) (e0V b3)) (0, 0) _ rfl (Blk.row BG (repB (e0V b1) (e0V b2) (e0V b3))).h Try.underlying46 rfl (by kernel_rfl)) rfl ⟨⟨b1, b2, b3, rfl⟩, below_setRow (hBF.setCell (by show w.heap.size ≤ w.heap.size + 1; omega) _) (by omega) _⟩
end Go.Proofs.Ytgdeiaholkmfeaa.MemP

/-
  read: Tell in each state; the first block is got: contracts.
-/
namespace Go.Proofs.Ytgdeiaholkmfeaa.MemP
open Go.RowKit RefP CellP
set_option linter.unusedVariables false
set_option linter.unusedSimpArgs false
set_option maxRecDepth 100000 in
set_option maxHeartbeats 3200000 in
theorem rdTell_1 {o oc g gb gr A T : Nat} {L : List (Int × Int)} {bs rs : List (List Value)} (t : Nat) (th : Int) (su : Bool) (cell word ver : Int) (n0 n1 n2 n3 n4 n5 n6 n7 : Value) (w : World) (h : MemAt w o oc g gb gr A T L bs rs) (t0 : 0 ≤ th) (t1 : th < T) (l0 : 0 ≤ cell) (l1 : cell < A) (hdis : ¬ o = t ∧ ¬ oc = t ∧ ¬ g = t ∧ ¬ gb = t ∧ ¬ gr = t) (B : Blk w t (rdA (some ⟨o, 0, none⟩) th 1 0 su cell word ver n0 n1 n2 n3 n4 n5 n6 n7) 70) (ok : Bool) (x v : Int) :
    Calls Try.prog 17 #[.pointer (some ⟨t, 0, none⟩), .agg #[.bool ok, .int .u64 x, .int .u64 v, .int .i64 0, .int .i64 0, .string ⟨#[]⟩, .string ⟨#[]⟩, .bool false, .int .i64 0, .slice none 0 0, .slice none 0 0, .slice none 0 0, .int .i64 0, .int .i64 0, .string ⟨#[]⟩, .int .u64 0, .slice none 0 0, .slice none 0 0, .slice none 0 0, .slice none 0 0, .int .i64 0, .string ⟨#[]⟩, .string ⟨#[]⟩, .int .u64 0, .int .i64 0]] w fun e w' => e = .returned (.tuple #[]) ∧ Blk w' t (rdA (some ⟨o, 0, none⟩) th 2 0 false cell word ver n0 n1 n2 n3 n4 n5 n6 n7) 70 ∧ Fr [t] w w' := by
  have hb0 : Below w.heap.size w ((w.alloc (.cells #[.pointer (some ⟨t, 0, none⟩)] 48)).alloc (.cells (#[.bool ok, .int .u64 x, .int .u64 v, .int .i64 0, .int .i64 0, .string ⟨#[]⟩, .string ⟨#[]⟩, .bool false, .int .i64 0, .slice none 0 0, .slice none 0 0, .slice none 0 0, .int .i64 0, .int .i64 0, .string ⟨#[]⟩, .int .u64 0, .slice none 0 0, .slice none 0 0, .slice none 0 0, .slice none 0 0, .int .i64 0, .string ⟨#[]⟩, .string ⟨#[]⟩, .int .u64 0, .int .i64 0]) 46)) := by (repeat (first | exact Below.refl _ _ | assumption | refine below_alloc2 ?_ (by first | exact Nat.le_refl _ | omega) _ | refine Below.drew ?_ | refine below_drewN ?_ _ | refine below_push2 ?_ ‹_› (by first | exact Nat.le_refl _ | omega) | refine Below.setCell ?_ (by first | (simp; done) | (simp; omega) | omega) _))
  have BP := (Blk.new w #[.pointer (some ⟨t, 0, none⟩)] 48).alloc (.cells (#[.bool ok, .int .u64 x, .int .u64 v, .int .i64 0, .int .i64 0, .string ⟨#[]⟩, .string ⟨#[]⟩, .bool false, .int .i64 0, .slice none 0 0, .slice none 0 0, .slice none 0 0, .int .i64 0, .int .i64 0, .string ⟨#[]⟩, .int .u64 0, .slice none 0 0, .slice none 0 0, .slice none 0 0, .slice none 0 0, .int .i64 0, .string ⟨#[]⟩, .string ⟨#[]⟩, .int .u64 0, .int .i64 0]) 46)
  have BQ : Blk ((w.alloc (.cells #[.pointer (some ⟨t, 0, none⟩)] 48)).alloc (.cells (#[.bool ok, .int .u64 x, .int .u64 v, .int .i64 0, .int .i64 0, .string ⟨#[]⟩, .string ⟨#[]⟩, .bool false, .int .i64 0, .slice none 0 0, .slice none 0 0, .slice none 0 0, .int .i64 0, .int .i64 0, .string ⟨#[]⟩, .int .u64 0, .slice none 0 0, .slice none 0 0, .slice none 0 0, .slice none 0 0, .int .i64 0, .string ⟨#[]⟩, .string ⟨#[]⟩, .int .u64 0, .int .i64 0]) 46)) (w.heap.size + 1) (#[.bool ok, .int .u64 x, .int .u64 v, .int .i64 0, .int .i64 0, .string ⟨#[]⟩, .string ⟨#[]⟩, .bool false, .int .i64 0, .slice none 0 0, .slice none 0 0, .slice none 0 0, .int .i64 0, .int .i64 0, .string ⟨#[]⟩, .int .u64 0, .slice none 0 0, .slice none 0 0, .slice none 0 0, .slice none 0 0, .int .i64 0, .string ⟨#[]⟩, .string ⟨#[]⟩, .int .u64 0, .int .i64 0]) 46 := by
    have := Blk.new (w.alloc (.cells #[.pointer (some ⟨t, 0, none⟩)] 48)) (#[.bool ok, .int .u64 x, .int .u64 v, .int .i64 0, .int .i64 0, .string ⟨#[]⟩, .string ⟨#[]⟩, .bool false, .int .i64 0, .slice none 0 0, .slice none 0 0, .slice none 0 0, .int .i64 0, .int .i64 0, .string ⟨#[]⟩, .int .u64 0, .slice none 0 0, .slice none 0 0, .slice none 0 0, .slice none 0 0, .int .i64 0, .string ⟨#[]⟩, .string ⟨#[]⟩, .int .u64 0, .int .i64 0]) 46
    simpa using this
  have hlt := B.lt
  have h1 := h.below hb0
  have B1 := B.below hb0
  go_enter Try.func17, Try.ntmps17
  go_upto_region 1 with (fail)
  generalize ((w.alloc (.cells #[.pointer (some ⟨t, 0, none⟩)] 48)).alloc (.cells (#[.bool ok, .int .u64 x, .int .u64 v, .int .i64 0, .int .i64 0, .string ⟨#[]⟩, .string ⟨#[]⟩, .bool false, .int .i64 0, .slice none 0 0, .slice none 0 0, .slice none 0 0, .int .i64 0, .int .i64 0, .string ⟨#[]⟩, .int .u64 0, .slice none 0 0, .slice none 0 0, .slice none 0 0, .slice none 0 0, .int .i64 0, .string ⟨#[]⟩, .string ⟨#[]⟩, .int .u64 0, .int .i64 0]) 46)) = w1 at hb0 BP BQ h1 B1 ⊢
  have p0 := BP.at 0 rfl
  have c4 := B1.at 4 rfl
  have f4 := B1.free 4
  have hmo := h.head.lt
  have F2 : Fr [t] w1 (w1.setCell ⟨t, 4, none⟩ (.bool false)) := (Fr.refl _ _).set _ _ (.inl (by simp))
  have B2 := B1.set 4 (.bool false)
  have BP2 := F2.blk BP (by simp; omega)
  have BQ2 := F2.blk BQ (by simp; omega)
  have h2 := h1.off F2 (by simp; exact hdis)
  have p2 := BP2.at 0 rfl
  go_wp2_with fail
  generalize w1.setCell ⟨t, 4, none⟩ (.bool false) = w2 at F2 B2 BP2 BQ2 h2 p2 ⊢
  have B2' : Blk w2 t (rdA (some ⟨o, 0, none⟩) th 1 0 false cell word ver n0 n1 n2 n3 n4 n5 n6 n7) 70 := by simpa [rdA] using B2
  refine (rdNext_1 t th false cell word ver n0 n1 n2 n3 n4 n5 n6 n7 _ h2 B2' t0 t1 l0 l1).mono ?_
  rintro e w3 ⟨rfl, hb3⟩
  have hb4 := (below_push2 (Below.refl _ w2) hb3 (Nat.le_refl _)).alloc hb3.size (.cells (accY 2 (hazI A T th 1) 0 word) 44)
  have B3 := B2'.below hb4
  have BP3 := BP2.below hb4
  have BQ3 := BQ2.below hb4
  have F3 : Fr [t] w (w3.alloc (.cells (accY 2 (hazI A T th 1) 0 word) 44)) := ((Fr.of_below hb0).trans F2).trans (Fr.of_below hb4)
  clear p0 c4 f4 F2 B2 B2' BP2 BQ2 p2 h1 B1 BP BQ hb3 hb4 hb0
  generalize hW : w3.alloc (.cells (accY 2 (hazI A T th 1) 0 word) 44) = w4 at B3 BP3 BQ3 F3
  replace hW := Lib.hid hW
  have p0 := BP3.at 0 rfl
  have c2 := B3.at 2 rfl
  have c3 := B3.at 3 rfl
  have c4 := B3.at 4 rfl
  have c6 := B3.at 6 rfl
  have c7 := B3.at 7 rfl
  have f2 := B3.free 2
  have f3 := B3.free 3
  have f4 := B3.free 4
  have f6 := B3.free 6
  have f7 := B3.free 7
  have r0 := BQ3.at 0 rfl
  have r1 := BQ3.at 1 rfl
  have r2 := BQ3.at 2 rfl
  go_wp2_with (refine wpList_store_row rfl 44 _ _ rfl _ _ rfl rfl 44 _ (Blk.new w3 _ _).h (by kernel_rfl) (by rfl) (by kernel_rfl) ?_; rw [World.setRow_alloc_new, hW.out])
  go_end0
  have FF : Fr [t] w4 (w4.setCell ⟨t, 2, none⟩ (.int .i64 2)) := (Fr.refl _ _).set _ _ (.inl (by simp))
  exact ⟨rfl, by simpa [rdA] using B3.set 2 (.int .i64 2), F3.trans FF⟩
set_option maxRecDepth 100000 in
set_option maxHeartbeats 3200000 in
theorem rdTell_0 {o oc g gb gr A T : Nat} {L : List (Int × Int)} {bs rs : List (List Value)} (t : Nat) (th : Int) (su : Bool) (cell word ver : Int) (n0 n1 n2 n3 n4 n5 n6 n7 : Value) (w : World) (h : MemAt w o oc g gb gr A T L bs rs) (t0 : 0 ≤ th) (t1 : th < T) (l0 : 0 ≤ cell) (l1 : cell < A) (hdis : ¬ o = t ∧ ¬ oc = t ∧ ¬ g = t ∧ ¬ gb = t ∧ ¬ gr = t) (B : Blk w t (rdA (some ⟨o, 0, none⟩) th 0 0 su cell word ver n0 n1 n2 n3 n4 n5 n6 n7) 70) (ok : Bool) (x v : Int) (x0 : 0 ≤ x) (x1 : x ≤ 18446744073709551615) (ho : opensB x = true) :
    Calls Try.prog 17 #[.pointer (some ⟨t, 0, none⟩), .agg #[.bool ok, .int .u64 x, .int .u64 v, .int .i64 0, .int .i64 0, .string ⟨#[]⟩, .string ⟨#[]⟩, .bool false, .int .i64 0, .slice none 0 0, .slice none 0 0, .slice none 0 0, .int .i64 0, .int .i64 0, .string ⟨#[]⟩, .int .u64 0, .slice none 0 0, .slice none 0 0, .slice none 0 0, .slice none 0 0, .int .i64 0, .string ⟨#[]⟩, .string ⟨#[]⟩, .int .u64 0, .int .i64 0]] w fun e w' => e = .returned (.tuple #[]) ∧ Blk w' t (rdA (some ⟨o, 0, none⟩) th 1 0 false cell x v n0 n1 n2 n3 n4 n5 n6 n7) 70 ∧ Fr [t] w w' := by
  have hb0 : Below w.heap.size w ((w.alloc (.cells #[.pointer (some ⟨t, 0, none⟩)] 48)).alloc (.cells (#[.bool ok, .int .u64 x, .int .u64 v, .int .i64 0, .int .i64 0, .string ⟨#[]⟩, .string ⟨#[]⟩, .bool false, .int .i64 0, .slice none 0 0, .slice none 0 0, .slice none 0 0, .int .i64 0, .int .i64 0, .string ⟨#[]⟩, .int .u64 0, .slice none 0 0, .slice none 0 0, .slice none 0 0, .slice none 0 0, .int .i64 0, .string ⟨#[]⟩, .string ⟨#[]⟩, .int .u64 0, .int .i64 0]) 46)) := by (repeat (first | exact Below.refl _ _ | assumption | refine below_alloc2 ?_ (by first | exact Nat.le_refl _ | omega) _ | refine Below.drew ?_ | refine below_drewN ?_ _ | refine below_push2 ?_ ‹_› (by first | exact Nat.le_refl _ | omega) | refine Below.setCell ?_ (by first | (simp; done) | (simp; omega) | omega) _))
  have BP := (Blk.new w #[.pointer (some ⟨t, 0, none⟩)] 48).alloc (.cells (#[.bool ok, .int .u64 x, .int .u64 v, .int .i64 0, .int .i64 0, .string ⟨#[]⟩, .string ⟨#[]⟩, .bool false, .int .i64 0, .slice none 0 0, .slice none 0 0, .slice none 0 0, .int .i64 0, .int .i64 0, .string ⟨#[]⟩, .int .u64 0, .slice none 0 0, .slice none 0 0, .slice none 0 0, .slice none 0 0, .int .i64 0, .string ⟨#[]⟩, .string ⟨#[]⟩, .int .u64 0, .int .i64 0]) 46)
  have BQ : Blk ((w.alloc (.cells #[.pointer (some ⟨t, 0, none⟩)] 48)).alloc (.cells (#[.bool ok, .int .u64 x, .int .u64 v, .int .i64 0, .int .i64 0, .string ⟨#[]⟩, .string ⟨#[]⟩, .bool false, .int .i64 0, .slice none 0 0, .slice none 0 0, .slice none 0 0, .int .i64 0, .int .i64 0, .string ⟨#[]⟩, .int .u64 0, .slice none 0 0, .slice none 0 0, .slice none 0 0, .slice none 0 0, .int .i64 0, .string ⟨#[]⟩, .string ⟨#[]⟩, .int .u64 0, .int .i64 0]) 46)) (w.heap.size + 1) (#[.bool ok, .int .u64 x, .int .u64 v, .int .i64 0, .int .i64 0, .string ⟨#[]⟩, .string ⟨#[]⟩, .bool false, .int .i64 0, .slice none 0 0, .slice none 0 0, .slice none 0 0, .int .i64 0, .int .i64 0, .string ⟨#[]⟩, .int .u64 0, .slice none 0 0, .slice none 0 0, .slice none 0 0, .slice none 0 0, .int .i64 0, .string ⟨#[]⟩, .string ⟨#[]⟩, .int .u64 0, .int .i64 0]) 46 := by
    have := Blk.new (w.alloc (.cells #[.pointer (some ⟨t, 0, none⟩)] 48)) (#[.bool ok, .int .u64 x, .int .u64 v, .int .i64 0, .int .i64 0, .string ⟨#[]⟩, .string ⟨#[]⟩, .bool false, .int .i64 0, .slice none 0 0, .slice none 0 0, .slice none 0 0, .int .i64 0, .int .i64 0, .string ⟨#[]⟩, .int .u64 0, .slice none 0 0, .slice none 0 0, .slice none 0 0, .slice none 0 0, .int .i64 0, .string ⟨#[]⟩, .string ⟨#[]⟩, .int .u64 0, .int .i64 0]) 46
    simpa using this
  have hlt := B.lt
  have h1 := h.below hb0
  have B1 := B.below hb0
  go_enter Try.func17, Try.ntmps17
  go_upto_region 1 with (fail)
  generalize ((w.alloc (.cells #[.pointer (some ⟨t, 0, none⟩)] 48)).alloc (.cells (#[.bool ok, .int .u64 x, .int .u64 v, .int .i64 0, .int .i64 0, .string ⟨#[]⟩, .string ⟨#[]⟩, .bool false, .int .i64 0, .slice none 0 0, .slice none 0 0, .slice none 0 0, .int .i64 0, .int .i64 0, .string ⟨#[]⟩, .int .u64 0, .slice none 0 0, .slice none 0 0, .slice none 0 0, .slice none 0 0, .int .i64 0, .string ⟨#[]⟩, .string ⟨#[]⟩, .int .u64 0, .int .i64 0]) 46)) = w1 at hb0 BP BQ h1 B1 ⊢
  have p0 := BP.at 0 rfl
  have c4 := B1.at 4 rfl
  have f4 := B1.free 4
  have hmo := h.head.lt
  have F2 : Fr [t] w1 (w1.setCell ⟨t, 4, none⟩ (.bool false)) := (Fr.refl _ _).set _ _ (.inl (by simp))
  have B2 := B1.set 4 (.bool false)
  have BP2 := F2.blk BP (by simp; omega)
  have BQ2 := F2.blk BQ (by simp; omega)
  have h2 := h1.off F2 (by simp; exact hdis)
  have p2 := BP2.at 0 rfl
  go_wp2_with fail
  generalize w1.setCell ⟨t, 4, none⟩ (.bool false) = w2 at F2 B2 BP2 BQ2 h2 p2 ⊢
  have B2' : Blk w2 t (rdA (some ⟨o, 0, none⟩) th 0 0 false cell word ver n0 n1 n2 n3 n4 n5 n6 n7) 70 := by simpa [rdA] using B2
  refine (rdNext_0 t th false cell word ver n0 n1 n2 n3 n4 n5 n6 n7 _ h2 B2' t0 t1 l0 l1).mono ?_
  rintro e w3 ⟨rfl, hb3⟩
  have hb4 := (below_push2 (Below.refl _ w2) hb3 (Nat.le_refl _)).alloc hb3.size (.cells (accY 1 (atI A T 0 cell) 0 0) 44)
  have B3 := B2'.below hb4
  have BP3 := BP2.below hb4
  have BQ3 := BQ2.below hb4
  have F3 : Fr [t] w (w3.alloc (.cells (accY 1 (atI A T 0 cell) 0 0) 44)) := ((Fr.of_below hb0).trans F2).trans (Fr.of_below hb4)
  clear p0 c4 f4 F2 B2 B2' BP2 BQ2 p2 h1 B1 BP BQ hb3 hb4 hb0
  generalize hW : w3.alloc (.cells (accY 1 (atI A T 0 cell) 0 0) 44) = w4 at B3 BP3 BQ3 F3
  replace hW := Lib.hid hW
  have p0 := BP3.at 0 rfl
  have c2 := B3.at 2 rfl
  have c3 := B3.at 3 rfl
  have c4 := B3.at 4 rfl
  have c6 := B3.at 6 rfl
  have c7 := B3.at 7 rfl
  have f2 := B3.free 2
  have f3 := B3.free 3
  have f4 := B3.free 4
  have f6 := B3.free 6
  have f7 := B3.free 7
  have r0 := BQ3.at 0 rfl
  have r1 := BQ3.at 1 rfl
  have r2 := BQ3.at 2 rfl
  go_wp2_with (refine wpList_store_row rfl 44 _ _ rfl _ _ rfl rfl 44 _ (Blk.new w3 _ _).h (by kernel_rfl) (by rfl) (by kernel_rfl) ?_; rw [World.setRow_alloc_new, hW.out])
  refine (open_any x _ x0 x1).mono ?_
  rw [ho]
  rintro e w5 ⟨rfl, hb5⟩
  replace B3 := B3.below hb5
  replace BP3 := BP3.below hb5
  replace BQ3 := BQ3.below hb5
  replace F3 := F3.trans (Fr.of_below hb5)
  clear p0 c2 c3 c4 c6 c7 f2 f3 f4 f6 f7 r0 r1 r2 hW hb5
  have p0 := BP3.at 0 rfl
  have c2 := B3.at 2 rfl
  have c6 := B3.at 6 rfl
  have c7 := B3.at 7 rfl
  have f2 := B3.free 2
  have f6 := B3.free 6
  have f7 := B3.free 7
  have r1 := BQ3.at 1 rfl
  have r2 := BQ3.at 2 rfl
  have hn1 : ¬ t = w.heap.size := by omega
  have hn2 : ¬ t = w.heap.size + 1 := by omega
  have hn3 : ¬ w.heap.size = t := by omega
  have hn4 : ¬ w.heap.size + 1 = t := by omega
  go_wp2_with fail
  refine (rdEnd_no _ _ _).mono ?_
  rintro e w6 ⟨rfl, rfl⟩
  go_upto_region 10 with (fail)
  go_region
  all_goals
    go_wp2_with fail
    go_end0
    have FF : Fr [t] w5 (((w5.setCell ⟨t, 6, none⟩ (.int .u64 x)).setCell ⟨t, 7, none⟩ (.int .u64 v)).setCell ⟨t, 2, none⟩ (.int .i64 1)) := (((Fr.refl _ _).set _ _ (.inl (by simp))).set _ _ (.inl (by simp))).set _ _ (.inl (by simp))
    have BF : Blk (((w5.setCell ⟨t, 6, none⟩ (.int .u64 x)).setCell ⟨t, 7, none⟩ (.int .u64 v)).setCell ⟨t, 2, none⟩ (.int .i64 1)) t (rdA (some ⟨o, 0, none⟩) th 1 0 false cell x v n0 n1 n2 n3 n4 n5 n6 n7) 70 := by
      simpa [rdA] using ((B3.set 6 (.int .u64 x)).set 7 (.int .u64 v)).set 2 (.int .i64 1)
    exact ⟨rfl, BF.drew, (F3.trans FF).trans (Fr.of_below (Below.refl _ _).drew)⟩
set_option maxRecDepth 100000 in
set_option maxHeartbeats 3200000 in
theorem rdTell_2 {o oc g gb gr A T : Nat} {L : List (Int × Int)} {bs rs : List (List Value)} (t : Nat) (th : Int) (su : Bool) (cell word ver : Int) (n0 n1 n2 n3 n4 n5 n6 n7 : Value) (w : World) (h : MemAt w o oc g gb gr A T L bs rs) (t0 : 0 ≤ th) (t1 : th < T) (l0 : 0 ≤ cell) (l1 : cell < A) (hdis : ¬ o = t ∧ ¬ oc = t ∧ ¬ g = t ∧ ¬ gb = t ∧ ¬ gr = t) (B : Blk w t (rdA (some ⟨o, 0, none⟩) th 2 0 su cell word ver n0 n1 n2 n3 n4 n5 n6 n7) 70) (ok : Bool) (x : Int) :
    Calls Try.prog 17 #[.pointer (some ⟨t, 0, none⟩), .agg #[.bool ok, .int .u64 x, .int .u64 ver, .int .i64 0, .int .i64 0, .string ⟨#[]⟩, .string ⟨#[]⟩, .bool false, .int .i64 0, .slice none 0 0, .slice none 0 0, .slice none 0 0, .int .i64 0, .int .i64 0, .string ⟨#[]⟩, .int .u64 0, .slice none 0 0, .slice none 0 0, .slice none 0 0, .slice none 0 0, .int .i64 0, .string ⟨#[]⟩, .string ⟨#[]⟩, .int .u64 0, .int .i64 0]] w fun e w' => e = .returned (.tuple #[]) ∧ Blk w' t (rdA (some ⟨o, 0, none⟩) th 3 0 true cell word ver n0 n1 n2 n3 n4 n5 n6 n7) 70 ∧ Fr [t] w w' := by
  have hn1 : ¬ t = w.heap.size := by have := B.lt; omega
  have hn2 : ¬ t = w.heap.size + 1 := by have := B.lt; omega
  have hn3 : ¬ w.heap.size = t := by have := B.lt; omega
  have hn4 : ¬ w.heap.size + 1 = t := by have := B.lt; omega
  have hb0 : Below w.heap.size w ((w.alloc (.cells #[.pointer (some ⟨t, 0, none⟩)] 48)).alloc (.cells (#[.bool ok, .int .u64 x, .int .u64 ver, .int .i64 0, .int .i64 0, .string ⟨#[]⟩, .string ⟨#[]⟩, .bool false, .int .i64 0, .slice none 0 0, .slice none 0 0, .slice none 0 0, .int .i64 0, .int .i64 0, .string ⟨#[]⟩, .int .u64 0, .slice none 0 0, .slice none 0 0, .slice none 0 0, .slice none 0 0, .int .i64 0, .string ⟨#[]⟩, .string ⟨#[]⟩, .int .u64 0, .int .i64 0]) 46)) := by (repeat (first | exact Below.refl _ _ | assumption | refine below_alloc2 ?_ (by first | exact Nat.le_refl _ | omega) _ | refine Below.drew ?_ | refine below_drewN ?_ _ | refine below_push2 ?_ ‹_› (by first | exact Nat.le_refl _ | omega) | refine Below.setCell ?_ (by first | (simp; done) | (simp; omega) | omega) _))
  have BP := (Blk.new w #[.pointer (some ⟨t, 0, none⟩)] 48).alloc (.cells (#[.bool ok, .int .u64 x, .int .u64 ver, .int .i64 0, .int .i64 0, .string ⟨#[]⟩, .string ⟨#[]⟩, .bool false, .int .i64 0, .slice none 0 0, .slice none 0 0, .slice none 0 0, .int .i64 0, .int .i64 0, .string ⟨#[]⟩, .int .u64 0, .slice none 0 0, .slice none 0 0, .slice none 0 0, .slice none 0 0, .int .i64 0, .string ⟨#[]⟩, .string ⟨#[]⟩, .int .u64 0, .int .i64 0]) 46)
  have BQ : Blk ((w.alloc (.cells #[.pointer (some ⟨t, 0, none⟩)] 48)).alloc (.cells (#[.bool ok, .int .u64 x, .int .u64 ver, .int .i64 0, .int .i64 0, .string ⟨#[]⟩, .string ⟨#[]⟩, .bool false, .int .i64 0, .slice none 0 0, .slice none 0 0, .slice none 0 0, .int .i64 0, .int .i64 0, .string ⟨#[]⟩, .int .u64 0, .slice none 0 0, .slice none 0 0, .slice none 0 0, .slice none 0 0, .int .i64 0, .string ⟨#[]⟩, .string ⟨#[]⟩, .int .u64 0, .int .i64 0]) 46)) (w.heap.size + 1) (#[.bool ok, .int .u64 x, .int .u64 ver, .int .i64 0, .int .i64 0, .string ⟨#[]⟩, .string ⟨#[]⟩, .bool false, .int .i64 0, .slice none 0 0, .slice none 0 0, .slice none 0 0, .int .i64 0, .int .i64 0, .string ⟨#[]⟩, .int .u64 0, .slice none 0 0, .slice none 0 0, .slice none 0 0, .slice none 0 0, .int .i64 0, .string ⟨#[]⟩, .string ⟨#[]⟩, .int .u64 0, .int .i64 0]) 46 := by
    have := Blk.new (w.alloc (.cells #[.pointer (some ⟨t, 0, none⟩)] 48)) (#[.bool ok, .int .u64 x, .int .u64 ver, .int .i64 0, .int .i64 0, .string ⟨#[]⟩, .string ⟨#[]⟩, .bool false, .int .i64 0, .slice none 0 0, .slice none 0 0, .slice none 0 0, .int .i64 0, .int .i64 0, .string ⟨#[]⟩, .int .u64 0, .slice none 0 0, .slice none 0 0, .slice none 0 0, .slice none 0 0, .int .i64 0, .string ⟨#[]⟩, .string ⟨#[]⟩, .int .u64 0, .int .i64 0]) 46
    simpa using this
  have hlt := B.lt
  have h1 := h.below hb0
  have B1 := B.below hb0
  go_enter Try.func17, Try.ntmps17
  go_upto_region 1 with (fail)
  generalize ((w.alloc (.cells #[.pointer (some ⟨t, 0, none⟩)] 48)).alloc (.cells (#[.bool ok, .int .u64 x, .int .u64 ver, .int .i64 0, .int .i64 0, .string ⟨#[]⟩, .string ⟨#[]⟩, .bool false, .int .i64 0, .slice none 0 0, .slice none 0 0, .slice none 0 0, .int .i64 0, .int .i64 0, .string ⟨#[]⟩, .int .u64 0, .slice none 0 0, .slice none 0 0, .slice none 0 0, .slice none 0 0, .int .i64 0, .string ⟨#[]⟩, .string ⟨#[]⟩, .int .u64 0, .int .i64 0]) 46)) = w1 at hb0 BP BQ h1 B1 ⊢
  have p0 := BP.at 0 rfl
  have c4 := B1.at 4 rfl
  have f4 := B1.free 4
  have hmo := h.head.lt
  have F2 : Fr [t] w1 (w1.setCell ⟨t, 4, none⟩ (.bool false)) := (Fr.refl _ _).set _ _ (.inl (by simp))
  have B2 := B1.set 4 (.bool false)
  have BP2 := F2.blk BP (by simp; omega)
  have BQ2 := F2.blk BQ (by simp; omega)
  have h2 := h1.off F2 (by simp; exact hdis)
  have p2 := BP2.at 0 rfl
  go_wp2_with fail
  generalize w1.setCell ⟨t, 4, none⟩ (.bool false) = w2 at F2 B2 BP2 BQ2 h2 p2 ⊢
  have B2' : Blk w2 t (rdA (some ⟨o, 0, none⟩) th 2 0 false cell word ver n0 n1 n2 n3 n4 n5 n6 n7) 70 := by simpa [rdA] using B2
  refine (rdNext_2 t th false cell word ver n0 n1 n2 n3 n4 n5 n6 n7 _ h2 B2' t0 t1 l0 l1).mono ?_
  rintro e w3 ⟨rfl, hb3⟩
  have hb4 := (below_push2 (Below.refl _ w2) hb3 (Nat.le_refl _)).alloc hb3.size (.cells (accY 1 (atI A T 0 cell) 0 0) 44)
  have B3 := B2'.below hb4
  have BP3 := BP2.below hb4
  have BQ3 := BQ2.below hb4
  have F3 : Fr [t] w (w3.alloc (.cells (accY 1 (atI A T 0 cell) 0 0) 44)) := ((Fr.of_below hb0).trans F2).trans (Fr.of_below hb4)
  clear p0 c4 f4 F2 B2 B2' BP2 BQ2 p2 h1 B1 BP BQ hb3 hb4 hb0
  generalize hW : w3.alloc (.cells (accY 1 (atI A T 0 cell) 0 0) 44) = w4 at B3 BP3 BQ3 F3
  replace hW := Lib.hid hW
  have p0 := BP3.at 0 rfl
  have c2 := B3.at 2 rfl
  have c3 := B3.at 3 rfl
  have c4 := B3.at 4 rfl
  have c6 := B3.at 6 rfl
  have c7 := B3.at 7 rfl
  have f2 := B3.free 2
  have f3 := B3.free 3
  have f4 := B3.free 4
  have f6 := B3.free 6
  have f7 := B3.free 7
  have r0 := BQ3.at 0 rfl
  have r1 := BQ3.at 1 rfl
  have r2 := BQ3.at 2 rfl
  go_upto_region 12 with (refine wpList_store_row rfl 44 _ _ rfl _ _ rfl rfl 44 _ (Blk.new w3 _ _).h (by kernel_rfl) (by rfl) (by kernel_rfl) ?_; rw [World.setRow_alloc_new, hW.out])
  go_region
  all_goals
    go_wp2_with fail
    refine (rdEnd_no _ _ _).mono ?_
    rintro e w6 ⟨rfl, rfl⟩
    go_wp2_with fail
    go_end0
    have FF : Fr [t] w4 ((w4.setCell ⟨t, 4, none⟩ (.bool true)).setCell ⟨t, 2, none⟩ (.int .i64 3)) := ((Fr.refl _ _).set _ _ (.inl (by simp))).set _ _ (.inl (by simp))
    have BF : Blk ((w4.setCell ⟨t, 4, none⟩ (.bool true)).setCell ⟨t, 2, none⟩ (.int .i64 3)) t (rdA (some ⟨o, 0, none⟩) th 3 0 true cell word ver n0 n1 n2 n3 n4 n5 n6 n7) 70 := by
      simpa [rdA] using (B3.set 4 (.bool true)).set 2 (.int .i64 3)
    exact ⟨rfl, BF.drew, (F3.trans FF).trans (Fr.of_below (Below.refl _ _).drew)⟩
set_option maxRecDepth 100000 in
set_option maxHeartbeats 3200000 in
theorem rdTell_3 {o oc g gb gr A T : Nat} {L : List (Int × Int)} {bs rs : List (List Value)} (t : Nat) (th : Int) (su : Bool) (cell word ver : Int) (n0 n1 n2 n3 n4 n5 n6 n7 : Value) (w : World) (h : MemAt w o oc g gb gr A T L bs rs) (t0 : 0 ≤ th) (t1 : th < T) (l0 : 0 ≤ cell) (l1 : cell < A) (hdis : ¬ o = t ∧ ¬ oc = t ∧ ¬ g = t ∧ ¬ gb = t ∧ ¬ gr = t) (B : Blk w t (rdA (some ⟨o, 0, none⟩) th 3 0 su cell word ver n0 n1 n2 n3 n4 n5 n6 n7) 70) (b1 b2 b3 : Nat) :
    Calls Try.prog 17 #[.pointer (some ⟨t, 0, none⟩), .agg (repB (e0V b1) (e0V b2) (e0V b3))] w fun e w' => e = .returned (.tuple #[]) ∧ Blk w' t (rdA (some ⟨o, 0, none⟩) th 4 4 false cell word ver (.int .i64 0) (.string ⟨#[]⟩) (.string ⟨#[]⟩) (.bool true) (.int .i64 (-1)) (e0V b1) (e0V b2) (e0V b3)) 70 ∧ Fr [t] w w' := by
  have hn1 : ¬ t = w.heap.size := by have := B.lt; omega
  have hn2 : ¬ t = w.heap.size + 1 := by have := B.lt; omega
  have hn3 : ¬ w.heap.size = t := by have := B.lt; omega
  have hn4 : ¬ w.heap.size + 1 = t := by have := B.lt; omega
  have hb0 : Below w.heap.size w ((w.alloc (.cells #[.pointer (some ⟨t, 0, none⟩)] 48)).alloc (.cells (repB (e0V b1) (e0V b2) (e0V b3)) 46)) := by (repeat (first | exact Below.refl _ _ | assumption | refine below_alloc2 ?_ (by first | exact Nat.le_refl _ | omega) _ | refine Below.drew ?_ | refine below_drewN ?_ _ | refine below_push2 ?_ ‹_› (by first | exact Nat.le_refl _ | omega) | refine Below.setCell ?_ (by first | (simp; done) | (simp; omega) | omega) _))
  have BP := (Blk.new w #[.pointer (some ⟨t, 0, none⟩)] 48).alloc (.cells (repB (e0V b1) (e0V b2) (e0V b3)) 46)
  have BQ : Blk ((w.alloc (.cells #[.pointer (some ⟨t, 0, none⟩)] 48)).alloc (.cells (repB (e0V b1) (e0V b2) (e0V b3)) 46)) (w.heap.size + 1) (repB (e0V b1) (e0V b2) (e0V b3)) 46 := by
    have := Blk.new (w.alloc (.cells #[.pointer (some ⟨t, 0, none⟩)] 48)) (repB (e0V b1) (e0V b2) (e0V b3)) 46
    simpa using this
  have hlt := B.lt
  have h1 := h.below hb0
  have B1 := B.below hb0
  go_enter Try.func17, Try.ntmps17
  go_upto_region 1 with (fail)
  generalize ((w.alloc (.cells #[.pointer (some ⟨t, 0, none⟩)] 48)).alloc (.cells (repB (e0V b1) (e0V b2) (e0V b3)) 46)) = w1 at hb0 BP BQ h1 B1 ⊢
  have p0 := BP.at 0 rfl
  have c4 := B1.at 4 rfl
  have f4 := B1.free 4
  have hmo := h.head.lt
  have F2 : Fr [t] w1 (w1.setCell ⟨t, 4, none⟩ (.bool false)) := (Fr.refl _ _).set _ _ (.inl (by simp))
  have B2 := B1.set 4 (.bool false)
  have BP2 := F2.blk BP (by simp; omega)
  have BQ2 := F2.blk BQ (by simp; omega)
  have h2 := h1.off F2 (by simp; exact hdis)
  have p2 := BP2.at 0 rfl
  go_wp2_with fail
  generalize w1.setCell ⟨t, 4, none⟩ (.bool false) = w2 at F2 B2 BP2 BQ2 h2 p2 ⊢
  have B2' : Blk w2 t (rdA (some ⟨o, 0, none⟩) th 3 0 false cell word ver n0 n1 n2 n3 n4 n5 n6 n7) 70 := by simpa [rdA] using B2
  refine (rdNext_3 t th false cell word ver n0 n1 n2 n3 n4 n5 n6 n7 _ h2 B2' t0 t1 l0 l1).mono ?_
  rintro e w3 ⟨rfl, hb3⟩
  have hb4 := (below_push2 (Below.refl _ w2) hb3 (Nat.le_refl _)).alloc hb3.size (.cells (accY 4 0 0 word) 44)
  have B3 := B2'.below hb4
  have BP3 := BP2.below hb4
  have BQ3 := BQ2.below hb4
  have F3 : Fr [t] w (w3.alloc (.cells (accY 4 0 0 word) 44)) := ((Fr.of_below hb0).trans F2).trans (Fr.of_below hb4)
  clear p0 c4 f4 F2 B2 B2' BP2 BQ2 p2 h1 B1 BP BQ hb3 hb4 hb0
  generalize hW : w3.alloc (.cells (accY 4 0 0 word) 44) = w4 at B3 BP3 BQ3 F3
  replace hW := Lib.hid hW
  have p0 := BP3.at 0 rfl
  have c2 := B3.at 2 rfl
  have c3 := B3.at 3 rfl
  have c4 := B3.at 4 rfl
  have c6 := B3.at 6 rfl
  have c7 := B3.at 7 rfl
  have f2 := B3.free 2
  have f3 := B3.free 3
  have f4 := B3.free 4
  have f6 := B3.free 6
  have f7 := B3.free 7
  have r0 := BQ3.at 0 rfl
  have r1 := BQ3.at 1 rfl
  have r2 := BQ3.at 2 rfl
  have e8 := B3.at 8 rfl
  have g8 := B3.free 8
  have e9 := B3.at 9 rfl
  have g9 := B3.free 9
  have e10 := B3.at 10 rfl
  have g10 := B3.free 10
  have e11 := B3.at 11 rfl
  have g11 := B3.free 11
  have e12 := B3.at 12 rfl
  have g12 := B3.free 12
  have e13 := B3.at 13 rfl
  have g13 := B3.free 13
  have e14 := B3.at 14 rfl
  have g14 := B3.free 14
  have e15 := B3.at 15 rfl
  have g15 := B3.free 15
  have r3 := BQ3.at 3 rfl
  have r4 := BQ3.at 4 rfl
  have r5 := BQ3.at 5 rfl
  have r6 := BQ3.at 6 rfl
  have r7 := BQ3.at 7 rfl
  have r8 := BQ3.at 8 rfl
  have r9 := BQ3.at 9 rfl
  have r10 := BQ3.at 10 rfl
  have r11 := BQ3.at 11 rfl
  go_upto_region 16 with (refine wpList_store_row rfl 44 _ _ rfl _ _ rfl rfl 44 _ (Blk.new w3 _ _).h (by kernel_rfl) (by rfl) (by kernel_rfl) ?_; rw [World.setRow_alloc_new, hW.out])
  have BF : Blk ((((((((w4.setCell ⟨t, 8, none⟩ (.int .i64 0)).setCell ⟨t, 9, none⟩ (.string ⟨#[]⟩)).setCell ⟨t, 10, none⟩ (.string ⟨#[]⟩)).setCell ⟨t, 11, none⟩ (.bool true)).setCell ⟨t, 12, none⟩ (.int .i64 (-1))).setCell ⟨t, 13, none⟩ (e0V b1)).setCell ⟨t, 14, none⟩ (e0V b2)).setCell ⟨t, 15, none⟩ (e0V b3)) t (rdA (some ⟨o, 0, none⟩) th 3 0 false cell word ver (.int .i64 0) (.string ⟨#[]⟩) (.string ⟨#[]⟩) (.bool true) (.int .i64 (-1)) (e0V b1) (e0V b2) (e0V b3)) 70 := by simpa [rdA] using ((((((((B3.set 8 (.int .i64 0)).set 9 (.string ⟨#[]⟩)).set 10 (.string ⟨#[]⟩)).set 11 (.bool true)).set 12 (.int .i64 (-1))).set 13 (e0V b1)).set 14 (e0V b2)).set 15 (e0V b3))
  have FF : Fr [t] w4 ((((((((w4.setCell ⟨t, 8, none⟩ (.int .i64 0)).setCell ⟨t, 9, none⟩ (.string ⟨#[]⟩)).setCell ⟨t, 10, none⟩ (.string ⟨#[]⟩)).setCell ⟨t, 11, none⟩ (.bool true)).setCell ⟨t, 12, none⟩ (.int .i64 (-1))).setCell ⟨t, 13, none⟩ (e0V b1)).setCell ⟨t, 14, none⟩ (e0V b2)).setCell ⟨t, 15, none⟩ (e0V b3)) := (((((((((Fr.refl [t] w4).set _ _ (.inl (by simp))).set _ _ (.inl (by simp))).set _ _ (.inl (by simp))).set _ _ (.inl (by simp))).set _ _ (.inl (by simp))).set _ _ (.inl (by simp))).set _ _ (.inl (by simp))).set _ _ (.inl (by simp)))
  generalize ((((((((w4.setCell ⟨t, 8, none⟩ (.int .i64 0)).setCell ⟨t, 9, none⟩ (.string ⟨#[]⟩)).setCell ⟨t, 10, none⟩ (.string ⟨#[]⟩)).setCell ⟨t, 11, none⟩ (.bool true)).setCell ⟨t, 12, none⟩ (.int .i64 (-1))).setCell ⟨t, 13, none⟩ (e0V b1)).setCell ⟨t, 14, none⟩ (e0V b2)).setCell ⟨t, 15, none⟩ (e0V b3)) = w5 at BF FF ⊢
  have BP5 := FF.blk BP3 (by simp; omega)
  have BQ5 := FF.blk BQ3 (by simp; omega)
  go_wp2_with fail
  refine (rdEnd_yes _ t 4 0 _ (BP5.at 0 rfl) (BF.at 3 rfl) (BF.free 3)).mono ?_
  rintro e w6 ⟨rfl, rfl⟩
  have BG := BF.set 3 (.int .i64 4)
  have FG : Fr [t] w5 (w5.setCell ⟨t, 3, none⟩ (.int .i64 4)) := (Fr.refl _ _).set _ _ (.inl (by simp))
  have BP6 := FG.blk BP5 (by simp; omega)
  have BQ6 := FG.blk BQ5 (by simp; omega)
  generalize w5.setCell ⟨t, 3, none⟩ (.int .i64 4) = w6 at BG FG BP6 BQ6 ⊢
  clear p0 c2 c3 c4 c6 c7 f2 f3 f4 f6 f7 r0 r1 r2 e8 e9 e10 e11 e12 e13 e14 e15 g8 g9 g10 g11 g12 g13 g14 g15 r3 r4 r5 r6 r7 r8 r9 r10 r11
  have p0 := BP6.at 0 rfl
  have r0 := BQ6.at 0 rfl
  have r3 := BQ6.at 3 rfl
  have c2 := BG.at 2 rfl
  have f2 := BG.free 2
  go_wp2_with fail
  refine (rdEnd_no _ _ _).mono ?_
  rintro e w7 ⟨rfl, rfl⟩
  go_wp2_with fail
  go_end0
  have FH : Fr [t] w6 (w6.setCell ⟨t, 2, none⟩ (.int .i64 4)) := (Fr.refl _ _).set _ _ (.inl (by simp))
  exact ⟨rfl, by simpa [rdA] using BG.set 2 (.int .i64 4), ((F3.trans FF).trans FG).trans FH⟩
set_option maxHeartbeats 1600000 in
theorem rdState_on {o oc g gb gr A T : Nat} {L : List (Int × Int)} {bs rs : List (List Value)} (t : Nat) (th at_ st : Int) (su : Bool) (cell word ver : Int) (n0 n1 n2 n3 n4 n5 n6 n7 : Value) (w : World) (h : MemAt w o oc g gb gr A T L bs rs) (B : Blk w t (rdA (some ⟨o, 0, none⟩) th at_ st su cell word ver n0 n1 n2 n3 n4 n5 n6 n7) 70) (t0 : 0 ≤ th) (t1 : th < T) (l0 : 0 ≤ cell) (l1 : cell < A) : Calls Try.prog 13 #[.pointer (some ⟨t, 0, none⟩)] w fun e w' => e = .returned (.int .i64 st) ∧ Below w.heap.size w w' := by
  go_enter Try.func13, Try.ntmps13
  go_wp2_with fail
  refine (rdnone_on t th at_ st su cell word ver n0 n1 n2 n3 n4 n5 n6 n7 _ h B t0 t1 l0 l1).mono ?_
  rintro e w1 ⟨rfl, nd, rfl⟩
  have c3 := B.at 3 rfl
  go_wp2_with fail
  go_ret
  exact ⟨rfl, below_drewN (Below.refl _ _) _⟩
end Go.Proofs.Ytgdeiaholkmfeaa.MemP

/-
  Who is ahead, which phase is behind others: plain laws.
-/
namespace Go.Proofs.Ytgdeiaholkmfeaa.GateP
open RefP
set_option linter.unusedVariables false
set_option linter.unusedSimpArgs false

def maxL (xs : List Int) : Int := xs.foldl max 0
def afterI (xs : List Int) : Int := if maxL xs = 18446744073709551615 then maxL xs else maxL xs + 1

theorem maxL_snoc (xs : List Int) (k : Nat) (h : k < xs.length) : maxL (xs.take (k + 1)) = max (maxL (xs.take k)) (at0 xs k) := by
  unfold maxL
  rw [take_succ_at0 xs k h, List.foldl_append]; rfl
theorem foldl_max_ge (xs : List Int) : ∀ a : Int, a ≤ xs.foldl max a := by
  induction xs with
  | nil => intro a; exact Int.le_refl _
  | cons x xs ih => intro a; exact Int.le_trans (Int.le_max_left a x) (ih (max a x))
theorem foldl_max_mem (xs : List Int) : ∀ a : Int, ∀ x ∈ xs, x ≤ xs.foldl max a := by
  induction xs with
  | nil => intro a x h; cases h
  | cons y ys ih =>
    intro a x h
    rcases List.mem_cons.1 h with rfl | h
    · exact Int.le_trans (Int.le_max_right a x) (foldl_max_ge ys _)
    · exact ih _ x h
theorem foldl_max_le (xs : List Int) (m : Int) : ∀ a : Int, a ≤ m → (∀ x ∈ xs, x ≤ m) → xs.foldl max a ≤ m := by
  induction xs with
  | nil => intro a h _; exact h
  | cons y ys ih =>
    intro a h k
    exact ih _ (Int.max_le.2 ⟨h, k y (by simp)⟩) (fun x hx => k x (by simp [hx]))
theorem maxL_lo (xs : List Int) : 0 ≤ maxL xs := foldl_max_ge xs 0
theorem maxL_hi (xs : List Int) (h : ∀ x ∈ xs, 0 ≤ x ∧ x ≤ 18446744073709551615) : maxL xs ≤ 18446744073709551615 := foldl_max_le xs _ 0 (by omega) (fun x hx => (h x hx).2)
theorem maxL_take_hi (xs : List Int) (k : Nat) (h : ∀ x ∈ xs, 0 ≤ x ∧ x ≤ 18446744073709551615) : maxL (xs.take k) ≤ 18446744073709551615 := maxL_hi _ (fun x hx => h x (List.mem_of_mem_take hx))
theorem maxL_mem (xs : List Int) (x : Int) (h : x ∈ xs) : x ≤ maxL xs := foldl_max_mem xs 0 x h

/-- is one ahead of another? -/
def aheadB (t p u q : Int) : Bool := decide (p < q ∨ p = q ∧ t < u)

def ahead (a b : Int × Int) : Bool := aheadB a.1 a.2 b.1 b.2
theorem ahead_iff (a b : Int × Int) : ahead a b = true ↔ (a.2 < b.2 ∨ a.2 = b.2 ∧ a.1 < b.1) := by simp [ahead, aheadB]
theorem ahead_no (a b : Int × Int) : ahead a b = false ↔ ¬ (a.2 < b.2 ∨ a.2 = b.2 ∧ a.1 < b.1) := by rw [← ahead_iff]; simp
theorem ahead_irrefl (a : Int × Int) : ahead a a = false := by rw [ahead_no]; omega
theorem ahead_eq {a b : Int × Int} (h : ahead a b = false) (k : ahead b a = false) : a = b := by
  rw [ahead_no] at h k
  exact Prod.ext (by omega) (by omega)

/-- who is first so far -/
def pick (b c : Int × Int) : Int × Int := if ahead c b = true then c else b
def bestTo (l : List (Int × Int)) (k : Nat) : Int × Int := (l.take k).foldl pick (at2 l 0)
theorem bestTo_zero (l : List (Int × Int)) : bestTo l 0 = at2 l 0 := rfl
theorem bestTo_succ (l : List (Int × Int)) (k : Nat) (h : k < l.length) : bestTo l (k + 1) = pick (bestTo l k) (at2 l k) := by
  unfold bestTo
  rw [take_succ_at2 l k h, List.foldl_append]; rfl
theorem bestTo_mem (l : List (Int × Int)) (h : 0 < l.length) : ∀ k, k ≤ l.length → bestTo l k ∈ l := by
  intro k
  induction k with
  | zero => intro _; exact at2_mem l 0 h
  | succ k ih =>
    intro hk
    rw [bestTo_succ l k (by omega)]
    unfold pick
    split
    · exact at2_mem l k (by omega)
    · exact ih (by omega)
theorem bestTo_min (l : List (Int × Int)) : ∀ k, k ≤ l.length → ∀ i, i < k → ahead (at2 l i) (bestTo l k) = false := by
  intro k
  induction k with
  | zero => intro _ i hi; omega
  | succ k ih =>
    intro hk i hi
    rw [bestTo_succ l k (by omega)]
    unfold pick
    by_cases c : ahead (at2 l k) (bestTo l k) = true
    · rw [if_pos c]
      by_cases e : i = k
      · subst e; exact ahead_irrefl _
      · have h1 := ih (by omega) i (by omega)
        rw [ahead_no] at h1 ⊢
        rw [ahead_iff] at c
        omega
    · rw [if_neg c]
      by_cases e : i = k
      · subst e; simpa using c
      · exact ih (by omega) i (by omega)
def firstT (l : List (Int × Int)) : Int := if l.length = 0 then 0 else (bestTo l l.length).1
def firstB (l : List (Int × Int)) : Bool := !(l.length == 0)
end Go.Proofs.Ytgdeiaholkmfeaa.GateP

/-
  gate.After, gate.Ahead and the document's: contracts.
-/
namespace Go.Proofs.Ytgdeiaholkmfeaa.GateP
open Go.RowKit RefP
set_option linter.unusedVariables false
set_option linter.unusedSimpArgs false
theorem ret_after {xs : List Int} : Hid (maxL xs = 18446744073709551615 → afterI xs = maxL xs) ∧ Hid (maxL xs ≠ 18446744073709551615 → afterI xs = maxL xs + 1) :=
  ⟨fun h => if_pos h, fun h => if_neg h⟩
theorem aheadB_def (t p u q : Int) : aheadB t p u q = decide (p < q ∨ p = q ∧ t < u) := rfl
end Go.Proofs.Ytgdeiaholkmfeaa.GateP

/-
  gate.First: contract. The example of chapter 32 is true.
-/
namespace Go.Proofs.Ytgdeiaholkmfeaa.GateP
open Go.RowKit RefP
set_option linter.unusedVariables false
set_option linter.unusedSimpArgs false

theorem ret_ib {a b : Int} {x y : Bool} (h : a = b) (k : x = y) : Ending.returned (.tuple #[.int .i64 a, .bool x]) = .returned (.tuple #[.int .i64 b, .bool y]) := by rw [h, k]
end Go.Proofs.Ytgdeiaholkmfeaa.GateP

/-
  Choosing: the task as a plain thing; what stays where a world changes above a base.
-/
namespace Go.Proofs.Ytgdeiaholkmfeaa.MemP
open Go.RowKit RefP CellP GateP
set_option linter.unusedVariables false
set_option linter.unusedSimpArgs false
theorem OwnR.heap {α : Type} {k : Nat} {f : α → Nat → Value} {d : α} {w w' : World} {base : Nat} {e : TypeId} {a : Option Addr} {c : Nat} {l : List α} (h : OwnR k f d w base e a c l) (hk : ∀ g, (Value.slice a l.length c).ownBlock = some g → w'.heap[g]? = w.heap[g]?) : OwnR k f d w' base e a c l := by
  refine ⟨⟨h.own.1, ?_⟩⟩
  rcases h.own.2 with q | ⟨g, cap, cur, e', hg, hh, r⟩
  · exact .inl q
  · refine .inr ⟨g, cap, cur, e', hg, ?_, r⟩
    rw [hk g (by rw [e']; rfl)]; exact hh
theorem OwnR.fr {α : Type} {k : Nat} {f : α → Nat → Value} {d : α} {w w' : World} {S : List Nat} {base : Nat} {e : TypeId} {a : Option Addr} {c : Nat} {l : List α} (h : OwnR k f d w base e a c l) (F : Fr S w w') (hS : ∀ g ∈ S, g < base) : OwnR k f d w' base e a c l :=
  OwnR.heap h fun g hg => F.block g (OwnR.lt h g hg).2 (fun hm => by have := hS g hm; have := (OwnR.lt h g hg).1; omega)
/-- a memory that lies below a base -/
structure MemB (w : World) (base o oc g gb gr A T : Nat) (L : List (Int × Int)) (bs rs : List (List Value)) : Prop where
  m : MemAt w o oc g gb gr A T L bs rs
  lo : o < base ∧ oc < base ∧ g < base ∧ gb < base ∧ gr < base
theorem MemB.below {w w' : World} {base o oc g gb gr A T : Nat} {L : List (Int × Int)} {bs rs : List (List Value)} (h : MemB w base o oc g gb gr A T L bs rs) (hb : Below base w w') (hs : base ≤ w.heap.size) : MemB w' base o oc g gb gr A T L bs rs := by
  have F : ∀ b, b < base → w'.heap[b]? = w.heap[b]? := hb.block
  have n := h.lo
  refine ⟨⟨⟨(F _ n.1).trans h.m.head.h⟩, ⟨⟨(F _ n.2.1).trans h.m.cells.head.h⟩, ⟨(F _ n.2.2.1).trans h.m.cells.rows.h⟩, h.m.cells.ne, h.m.cells.rng, h.m.cells.len⟩, ⟨(F _ n.2.2.2.1).trans h.m.blocks.h⟩, ⟨(F _ n.2.2.2.2).trans h.m.records.h⟩, h.m.len, h.m.lb, h.m.lr, h.m.a1, h.m.t1, h.m.ne⟩, n⟩
theorem MemB.under {w w' : World} {base o oc g gb gr A T : Nat} {L : List (Int × Int)} {bs rs : List (List Value)} (h : MemB w base o oc g gb gr A T L bs rs) (hb : Below w.heap.size w w') : MemB w' base o oc g gb gr A T L bs rs := ⟨h.m.below hb, h.lo⟩
/-- where choosing is -/
structure CS where
  th : Nat
  at_ : Nat
  ver : Int
  done : Int
  ph : Int
  L : List (Int × Int)
structure CS.Ok (s : CS) : Prop where
  th : s.th ≤ 16
  at_ : s.at_ ≤ 3
  ver : 0 ≤ s.ver ∧ s.ver ≤ 18446744073709551615
  done : 0 ≤ s.done ∧ s.done ≤ 18446744073709551615
  ph : 0 ≤ s.ph ∧ s.ph ≤ 18446744073709551615
  L : ∀ x ∈ s.L, (0 ≤ x.1 ∧ x.1 ≤ 16) ∧ 0 ≤ x.2 ∧ x.2 ≤ 18446744073709551615
  len : s.L.length ≤ s.th
/-- an access's reply is told: word and version -/
def CS.tell (s : CS) (x v : Int) : CS :=
  match s.at_ with
  | 0 => if x = 0 then { s with ver := v, th := s.th + 1 } else { s with ver := v, at_ := 1 }
  | 1 => { s with done := x, at_ := 2 }
  | 2 => { s with ph := x, at_ := 3 }
  | _ => { s with L := if v = s.ver ∧ s.done = 0 then s.L ++ [((s.th : Int), s.ph)] else s.L, th := s.th + 1, at_ := 0 }
theorem CS.Ok.tell {s : CS} (h : s.Ok) (x v : Int) (hT : s.th < 16) (hx : 0 ≤ x ∧ x ≤ 18446744073709551615) (hv : 0 ≤ v ∧ v ≤ 18446744073709551615) : (s.tell x v).Ok := by
  have hl := h.len
  have ha := h.at_
  unfold CS.tell
  split
  · split
    · exact ⟨by show s.th + 1 ≤ 16; omega, h.at_, hv, h.done, h.ph, h.L, by show s.L.length ≤ s.th + 1; omega⟩
    · exact ⟨h.th, (by decide : 1 ≤ 3), hv, h.done, h.ph, h.L, h.len⟩
  · exact ⟨h.th, (by decide : 2 ≤ 3), h.ver, hx, h.ph, h.L, h.len⟩
  · exact ⟨h.th, (by decide : 3 ≤ 3), h.ver, h.done, hx, h.L, h.len⟩
  · refine ⟨(by omega : s.th + 1 ≤ 16), (by decide : 0 ≤ 3), h.ver, h.done, h.ph, ?_, ?_⟩
    · intro y hy
      try simp only at hy
      split at hy
      · rcases List.mem_append.1 hy with hy | hy
        · exact h.L y hy
        · rw [List.mem_singleton.1 hy]; exact ⟨⟨(by omega : (0:Int) ≤ (s.th : Int)), (by omega : (s.th : Int) ≤ 16)⟩, h.ph⟩
      · exact h.L y hy
    · show (if v = s.ver ∧ s.done = 0 then s.L ++ [((s.th : Int), s.ph)] else s.L).length ≤ s.th + 1
      split
      · simp; omega
      · omega
/-- the cell of its next access -/
def CS.cell (s : CS) (A T : Nat) : Int := match s.at_ with
  | 1 => atI A T 3 s.th
  | 2 => atI A T 4 s.th
  | _ => atI A T 2 s.th
abbrev candG (x : Int × Int) (j : Nat) : Value := if j = 0 then .int .i64 x.1 else .int .u64 x.2
abbrev taskA (o : Nat) (s : CS) (a : Option Addr) (c : Nat) : Array Value := #[.pointer (some ⟨o, 0, none⟩), .int .i64 s.th, .int .i64 s.at_, .int .u64 s.ver, .int .u64 s.done, .int .u64 s.ph, .slice a s.L.length c]
end Go.Proofs.Ytgdeiaholkmfeaa.MemP

/-
  read: what is known; the example of chapter 30 is true.
-/
namespace Go.Proofs.Ytgdeiaholkmfeaa.MemP
open Go.RowKit RefP CellP
set_option linter.unusedVariables false
set_option linter.unusedSimpArgs false
theorem lt11 {j : Nat} (h : j < 11) : j = 0 ∨ j = 1 ∨ j = 2 ∨ j = 3 ∨ j = 4 ∨ j = 5 ∨ j = 6 ∨ j = 7 ∨ j = 8 ∨ j = 9 ∨ j = 10 := by omega
set_option maxRecDepth 100000 in
set_option maxHeartbeats 1600000 in
theorem rdKnown_got {o oc g gb gr A T : Nat} {L : List (Int × Int)} {bs rs : List (List Value)} (t : Nat) (th at_ : Int) (su : Bool) (cell word ver : Int) (b1 b2 b3 : Nat) (w : World) (h : MemAt w o oc g gb gr A T L bs rs) (B : Blk w t (rdA (some ⟨o, 0, none⟩) th at_ 4 su cell word ver (.int .i64 0) (.string ⟨#[]⟩) (.string ⟨#[]⟩) (.bool true) (.int .i64 (-1)) (e0V b1) (e0V b2) (e0V b3)) 70) (t0 : 0 ≤ th) (t1 : th < T) (l0 : 0 ≤ cell) (l1 : cell < A) :
    Calls Try.prog 12 #[.pointer (some ⟨t, 0, none⟩)] w fun e w' => e = .returned (.tuple #[.agg (knA cell word ver (.int .i64 0) (.string ⟨#[]⟩) (.string ⟨#[]⟩) (.bool true) (.int .i64 (-1)) (e0V b1) (e0V b2) (e0V b3)), .bool true]) ∧ Below w.heap.size w w' := by
  have hb0 : Below w.heap.size w (w.alloc (.cells (knA 0 0 0 (.int .i64 0) (.string ⟨#[]⟩) (.string ⟨#[]⟩) (.bool false) (.int .i64 0) (.slice none 0 0) (.slice none 0 0) (.slice none 0 0)) 53)) := by (repeat (first | exact Below.refl _ _ | assumption | refine below_alloc2 ?_ (by first | exact Nat.le_refl _ | omega) _ | refine Below.drew ?_ | refine below_drewN ?_ _ | refine below_push2 ?_ ‹_› (by first | exact Nat.le_refl _ | omega) | refine Below.setCell ?_ (by first | (simp; done) | (simp; omega) | omega) _))
  go_enter Try.func12, Try.ntmps12
  go_wp2_with fail
  refine (rdState_on t th at_ 4 su cell word ver (.int .i64 0) (.string ⟨#[]⟩) (.string ⟨#[]⟩) (.bool true) (.int .i64 (-1)) (e0V b1) (e0V b2) (e0V b3) _ (h.below hb0) (B.below hb0) t0 t1 l0 l1).mono ?_
  rintro e w1 ⟨rfl, hb1⟩
  have BR := (Blk.new w (knA 0 0 0 (.int .i64 0) (.string ⟨#[]⟩) (.string ⟨#[]⟩) (.bool false) (.int .i64 0) (.slice none 0 0) (.slice none 0 0) (.slice none 0 0)) 53).below hb1
  have B1 := (B.below hb0).below hb1
  have hB := below_push2 hb0 hb1 (Nat.le_refl _)
  have hr : w1.rangeAt t 5 (knA cell word ver (.int .i64 0) (.string ⟨#[]⟩) (.string ⟨#[]⟩) (.bool true) (.int .i64 (-1)) (e0V b1) (e0V b2) (e0V b3)).toList := by
    intro j v hj
    have hj11 : j < 11 := by
      by_cases e : j < 11
      · exact e
      · rw [List.getElem?_eq_none (by simp; omega)] at hj; cases hj
    refine B1.at (5 + j) ?_
    rcases lt11 hj11 with e | e | e | e | e | e | e | e | e | e | e <;> subst e <;> simpa [rdA, knA] using hj
  clear hb0 hb1 B1
  go_wp2_with (first
    | (refine wpList_load_mid rfl 53 _ rfl t 5 rfl (knA cell word ver (.int .i64 0) (.string ⟨#[]⟩) (.string ⟨#[]⟩) (.bool true) (.int .i64 (-1)) (e0V b1) (e0V b2) (e0V b3)).toList _ hr Try.underlying53 rfl (by kernel_rfl) ?_)
    | (refine wpList_store_row rfl 53 _ _ rfl w.heap.size _ rfl rfl 53 _ BR.h (by kernel_rfl) (by rfl) (by kernel_rfl) ?_))
  refine bodyPost_ret (v := .tuple #[.agg (knA cell word ver (.int .i64 0) (.string ⟨#[]⟩) (.string ⟨#[]⟩) (.bool true) (.int .i64 (-1)) (e0V b1) (e0V b2) (e0V b3)), .bool true]) (results_cell_tmp rfl _ _ w.heap.size 53 (knA cell word ver (.int .i64 0) (.string ⟨#[]⟩) (.string ⟨#[]⟩) (.bool true) (.int .i64 (-1)) (e0V b1) (e0V b2) (e0V b3)) (0, 0) _ (.bool true) rfl rfl (Blk.row BR (knA cell word ver (.int .i64 0) (.string ⟨#[]⟩) (.string ⟨#[]⟩) (.bool true) (.int .i64 (-1)) (e0V b1) (e0V b2) (e0V b3))).h Try.underlying53 rfl (by kernel_rfl)) rfl ⟨rfl, below_setRow hB (by omega) _⟩
abbrev rdL0 : List (Int × Int) := freshL 4 1 0
abbrev rdL1 : List (Int × Int) := storeL rdL0 (hazI 4 1 0 1) 16385
theorem rd1 : loadW rdL0 (atI 4 1 0 0) = 16385 := by decide +kernel
theorem rd2 : loadV rdL0 (atI 4 1 0 0) = 0 := by decide +kernel
theorem rd3 : opensB 16385 = true := by decide +kernel
theorem rd4 : loadV rdL1 (atI 4 1 0 0) = 0 := by decide +kernel
theorem rd5 : loadW rdL1 (atI 4 1 1 0) = useI 1 1 := by decide +kernel
theorem rd6 (bs : List (List Value)) : storeB rdL0 bs 4 (hazI 4 1 0 1) = bs := by
  unfold storeB clearL
  rw [if_neg (show ¬ (((4 : Nat) : Int) ≤ hazI 4 1 0 1 ∧ hazI 4 1 0 1 < 2 * ((4 : Nat) : Int)) by decide +kernel)]
  split <;> rfl
/-- in a round -/
structure RdC (w0 : World) (base o oc g gb gr : Nat) (L : List (Int × Int)) (bs rs : List (List Value)) (t : Nat) (C : Array Value) (wr : World) : Prop where
  b : Below w0.heap.size w0 wr
  m : MemB wr base o oc g gb gr 4 1 L bs rs
  c : Blk wr t C 70
  ge : base ≤ t
  hs : base ≤ wr.heap.size
  h0 : w0.heap.size ≤ base
  lo : w0.heap.size ≤ o ∧ w0.heap.size ≤ oc ∧ w0.heap.size ≤ g ∧ w0.heap.size ≤ gb ∧ w0.heap.size ≤ gr
theorem RdC.under {w0 : World} {base o oc g gb gr : Nat} {L : List (Int × Int)} {bs rs : List (List Value)} {t : Nat} {C : Array Value} {wr wx : World} (h : RdC w0 base o oc g gb gr L bs rs t C wr) (hb : Below wr.heap.size wr wx) : RdC w0 base o oc g gb gr L bs rs t C wx :=
  ⟨below_push2 h.b hb (Nat.le_refl _), h.m.under hb, h.c.below hb, h.ge, Nat.le_trans h.hs hb.size, h.h0, h.lo⟩
theorem RdC.told {w0 : World} {base o oc g gb gr : Nat} {L : List (Int × Int)} {bs rs : List (List Value)} {t : Nat} {C C' : Array Value} {wr wx : World} (h : RdC w0 base o oc g gb gr L bs rs t C wr) (hC : Blk wx t C' 70) (hF : Fr [t] wr wx) : RdC w0 base o oc g gb gr L bs rs t C' wx := by
  have hl := h.m.lo
  have hg := h.ge
  have hh := h.h0
  exact ⟨hF.below h.b (Nat.le_refl _) (by simp; omega), ⟨h.m.m.off hF (by simp; omega), hl⟩, hC, hg, Nat.le_trans h.hs hF.size, hh, h.lo⟩
theorem RdC.did {w0 : World} {base o oc g gb gr : Nat} {L L' : List (Int × Int)} {bs bs' rs : List (List Value)} {t : Nat} {C : Array Value} {wr wx : World} (h : RdC w0 base o oc g gb gr L bs rs t C wr) (hM : MemAt wx o oc g gb gr 4 1 L' bs' rs) (hF : Fr [g, gb] wr wx) : RdC w0 base o oc g gb gr L' bs' rs t C wx := by
  have hl := h.m.lo
  have hg := h.ge
  have hh := h.lo
  exact ⟨hF.below h.b (Nat.le_refl _) (by simp; omega), ⟨hM, hl⟩, hF.blk h.c (by simp; omega), hg, Nat.le_trans h.hs hF.size, h.h0, h.lo⟩
theorem RdC.dis {w0 : World} {base o oc g gb gr : Nat} {L : List (Int × Int)} {bs rs : List (List Value)} {t : Nat} {C : Array Value} {wr : World} (h : RdC w0 base o oc g gb gr L bs rs t C wr) : ¬ o = t ∧ ¬ oc = t ∧ ¬ g = t ∧ ¬ gb = t ∧ ¬ gr = t := by
  have hl := h.m.lo
  have hg := h.ge
  omega
def RdSt (k : Nat) (o : Nat) (L : List (Int × Int)) (C : Array Value) : Prop :=
  (k = 0 ∧ L = rdL0 ∧ C = rdA (some ⟨o, 0, none⟩) 0 0 0 false 0 0 0 (.int .i64 0) (.string ⟨#[]⟩) (.string ⟨#[]⟩) (.bool false) (.int .i64 0) (.slice none 0 0) (.slice none 0 0) (.slice none 0 0)) ∨
  (k = 1 ∧ L = rdL0 ∧ C = rdA (some ⟨o, 0, none⟩) 0 1 0 false 0 16385 0 (.int .i64 0) (.string ⟨#[]⟩) (.string ⟨#[]⟩) (.bool false) (.int .i64 0) (.slice none 0 0) (.slice none 0 0) (.slice none 0 0)) ∨
  (k = 2 ∧ L = rdL1 ∧ C = rdA (some ⟨o, 0, none⟩) 0 2 0 false 0 16385 0 (.int .i64 0) (.string ⟨#[]⟩) (.string ⟨#[]⟩) (.bool false) (.int .i64 0) (.slice none 0 0) (.slice none 0 0) (.slice none 0 0)) ∨
  (k = 3 ∧ L = rdL1 ∧ C = rdA (some ⟨o, 0, none⟩) 0 3 0 true 0 16385 0 (.int .i64 0) (.string ⟨#[]⟩) (.string ⟨#[]⟩) (.bool false) (.int .i64 0) (.slice none 0 0) (.slice none 0 0) (.slice none 0 0)) ∨
  (k = 4 ∧ L = rdL1 ∧ ∃ b1 b2 b3, C = rdA (some ⟨o, 0, none⟩) 0 4 4 false 0 16385 0 (.int .i64 0) (.string ⟨#[]⟩) (.string ⟨#[]⟩) (.bool true) (.int .i64 (-1)) (e0V b1) (e0V b2) (e0V b3))
set_option maxRecDepth 100000 in
set_option maxHeartbeats 6400000 in
theorem rdLives_any (w : World) : Calls Try.prog 7 #[] w fun e w' => e = .returned (.bool true) ∧ Below w.heap.size w w' := by
  go_enter Try.func7, Try.ntmps7
  go_wp2_with fail
  refine (mnew_yes 4 1 0 _ (by omega) (by omega) (by omega) (by omega) (by omega) (by omega)).mono ?_
  rintro e w1 ⟨o, oc, g, gb, gr, rfl, hM, hB, ho, hoc, hg, hgb, hgr⟩
  have hbs : ((List.replicate 4 zb).set 0 eb).getD 0 [] = eb := rfl
  generalize ((List.replicate 4 zb).set 0 eb) = bs at hM hbs
  generalize (List.replicate 1 zo) = rs at hM
  go_wp2_with fail
  refine (rdNew_any _ 0 0 _).mono ?_
  rintro e w2 ⟨rfl, rfl⟩
  have R0 : RdC w w1.heap.size o oc g gb gr rdL0 bs rs w1.heap.size (rdA (some ⟨o, 0, none⟩) 0 0 0 false 0 0 0 (.int .i64 0) (.string ⟨#[]⟩) (.string ⟨#[]⟩) (.bool false) (.int .i64 0) (.slice none 0 0) (.slice none 0 0) (.slice none 0 0)) (w1.alloc (.cells (rdA (some ⟨o, 0, none⟩) 0 0 0 false 0 0 0 (.int .i64 0) (.string ⟨#[]⟩) (.string ⟨#[]⟩) (.bool false) (.int .i64 0) (.slice none 0 0) (.slice none 0 0) (.slice none 0 0)) 70)) :=
    ⟨below_alloc2 hB (Nat.le_refl _) _, ⟨hM.below ((Below.refl _ w1).alloc (Nat.le_refl _) _), ⟨hM.head.lt, hM.cells.head.lt, hM.cells.rows.lt, hM.blocks.lt, hM.records.lt⟩⟩, Blk.new w1 _ _, Nat.le_refl _, by simp, hB.size, ⟨ho, hoc, hg, hgb, hgr⟩⟩
  generalize w1.alloc (.cells (rdA (some ⟨o, 0, none⟩) 0 0 0 false 0 0 0 (.int .i64 0) (.string ⟨#[]⟩) (.string ⟨#[]⟩) (.bool false) (.int .i64 0) (.slice none 0 0) (.slice none 0 0) (.slice none 0 0)) 70) = w2 at R0 ⊢
  generalize w1.heap.size = t at R0 ⊢
  clear hM hB
  go_wp2_with fail
  go_loopw [10] (fun i wr => ∃ (k : Nat) (L : List (Int × Int)) (C : Array Value), i = .int .i64 k ∧ RdSt k o L C ∧ RdC w t o oc g gb gr L bs rs t C wr) (fun i _ => 4 - (intOf i).toNat)
  case atStart => exact ⟨0, _, _, rfl, .inl ⟨rfl, rfl, rfl⟩, R0⟩
  case round =>
    clear R0
    obtain ⟨k, L, C, rfl, hst, R⟩ := hrel
    have hd := R.dis
    rcases hst with ⟨rfl, rfl, rfl⟩ | ⟨rfl, rfl, rfl⟩ | ⟨rfl, rfl, rfl⟩ | ⟨rfl, rfl, rfl⟩ | ⟨rfl, rfl, b1, b2, b3, rfl⟩
    · go_wp2_with fail
      refine (rdNext_0 t 0 false 0 0 0 (.int .i64 0) (.string ⟨#[]⟩) (.string ⟨#[]⟩) (.bool false) (.int .i64 0) (.slice none 0 0) (.slice none 0 0) (.slice none 0 0) _ R.m.m R.c (by omega) (by omega) (by omega) (by omega)).mono ?_
      rintro e w2 ⟨rfl, hb2⟩
      have R3 := (R.under hb2).under ((Below.refl _ w2).alloc (Nat.le_refl _) (.cells (accY 1 (atI 4 1 0 0) 0 0) 44))
      have BA := Blk.new w2 (accY 1 (atI 4 1 0 0) 0 0) 44
      generalize hW : w2.alloc (.cells (accY 1 (atI 4 1 0 0) 0 0) 44) = w3 at R3 BA
      replace hW := Lib.hid hW
      clear R hb2
      go_wp2_with (first
        | (refine wpList_store_row rfl 44 _ _ rfl _ _ rfl rfl 44 _ (Blk.new w2 _ _).h (by kernel_rfl) (by rfl) (by kernel_rfl) ?_; rw [World.setRow_alloc_new, hW.out])
        | (refine wpList_load_row rfl 44 _ rfl w2.heap.size rfl 44 _ (0, 0) _ BA.h Try.underlying44 rfl (by kernel_rfl) ?_))
      clear BA hW
      refine (do_load (atI 4 1 0 0) 0 0 _ _ _ _ _ _ _ _ _ _ _ _ _ _ _ _ _ _ _ _ _ _ _ R3.m.m).mono ?_
      rw [rd1, rd2]
      rintro e w4 ⟨rfl, hb4⟩
      have R4 := R3.under hb4
      clear R3 hb4
      go_wp2_with fail
      refine (rdTell_0 t 0 false 0 0 0 (.int .i64 0) (.string ⟨#[]⟩) (.string ⟨#[]⟩) (.bool false) (.int .i64 0) (.slice none 0 0) (.slice none 0 0) (.slice none 0 0) _ R4.m.m (by omega) (by omega) (by omega) (by omega) hd R4.c _ _ _ (by omega) (by omega) rd3).mono ?_
      rintro e w5 ⟨rfl, hC5, hF5⟩
      have R5 := R4.told hC5 hF5
      clear R4 hC5 hF5
      go_wp2_with fail
      go_roundw
      case rel => exact ⟨1, _, _, rfl, .inr (.inl ⟨rfl, rfl, rfl⟩), R5⟩
      case measure => simp [intOf]
    · go_wp2_with fail
      refine (rdNext_1 t 0 false 0 16385 0 (.int .i64 0) (.string ⟨#[]⟩) (.string ⟨#[]⟩) (.bool false) (.int .i64 0) (.slice none 0 0) (.slice none 0 0) (.slice none 0 0) _ R.m.m R.c (by omega) (by omega) (by omega) (by omega)).mono ?_
      rintro e w2 ⟨rfl, hb2⟩
      have R3 := (R.under hb2).under ((Below.refl _ w2).alloc (Nat.le_refl _) (.cells (accY 2 (hazI 4 1 0 1) 0 16385) 44))
      have BA := Blk.new w2 (accY 2 (hazI 4 1 0 1) 0 16385) 44
      generalize hW : w2.alloc (.cells (accY 2 (hazI 4 1 0 1) 0 16385) 44) = w3 at R3 BA
      replace hW := Lib.hid hW
      clear R hb2
      go_wp2_with (first
        | (refine wpList_store_row rfl 44 _ _ rfl _ _ rfl rfl 44 _ (Blk.new w2 _ _).h (by kernel_rfl) (by rfl) (by kernel_rfl) ?_; rw [World.setRow_alloc_new, hW.out])
        | (refine wpList_load_row rfl 44 _ rfl w2.heap.size rfl 44 _ (0, 0) _ BA.h Try.underlying44 rfl (by kernel_rfl) ?_))
      clear BA hW
      refine (do_store (hazI 4 1 0 1) 0 16385 _ _ _ _ _ _ _ _ _ _ _ _ _ _ _ _ _ _ _ _ _ _ _ R3.m.m (by omega) (by omega)).mono ?_
      rw [rd6]
      rintro e w4 ⟨rfl, hM4, hF4⟩
      have R4 := R3.did hM4 hF4
      clear R3 hM4 hF4
      go_wp2_with fail
      refine (rdTell_1 t 0 false 0 16385 0 (.int .i64 0) (.string ⟨#[]⟩) (.string ⟨#[]⟩) (.bool false) (.int .i64 0) (.slice none 0 0) (.slice none 0 0) (.slice none 0 0) _ R4.m.m (by omega) (by omega) (by omega) (by omega) hd R4.c _ _ _).mono ?_
      rintro e w5 ⟨rfl, hC5, hF5⟩
      have R5 := R4.told hC5 hF5
      clear R4 hC5 hF5
      go_wp2_with fail
      go_roundw
      case rel => exact ⟨2, _, _, rfl, .inr (.inr (.inl ⟨rfl, rfl, rfl⟩)), R5⟩
      case measure => simp [intOf]
    · go_wp2_with fail
      refine (rdNext_2 t 0 false 0 16385 0 (.int .i64 0) (.string ⟨#[]⟩) (.string ⟨#[]⟩) (.bool false) (.int .i64 0) (.slice none 0 0) (.slice none 0 0) (.slice none 0 0) _ R.m.m R.c (by omega) (by omega) (by omega) (by omega)).mono ?_
      rintro e w2 ⟨rfl, hb2⟩
      have R3 := (R.under hb2).under ((Below.refl _ w2).alloc (Nat.le_refl _) (.cells (accY 1 (atI 4 1 0 0) 0 0) 44))
      have BA := Blk.new w2 (accY 1 (atI 4 1 0 0) 0 0) 44
      generalize hW : w2.alloc (.cells (accY 1 (atI 4 1 0 0) 0 0) 44) = w3 at R3 BA
      replace hW := Lib.hid hW
      clear R hb2
      go_wp2_with (first
        | (refine wpList_store_row rfl 44 _ _ rfl _ _ rfl rfl 44 _ (Blk.new w2 _ _).h (by kernel_rfl) (by rfl) (by kernel_rfl) ?_; rw [World.setRow_alloc_new, hW.out])
        | (refine wpList_load_row rfl 44 _ rfl w2.heap.size rfl 44 _ (0, 0) _ BA.h Try.underlying44 rfl (by kernel_rfl) ?_))
      clear BA hW
      refine (do_load (atI 4 1 0 0) 0 0 _ _ _ _ _ _ _ _ _ _ _ _ _ _ _ _ _ _ _ _ _ _ _ R3.m.m).mono ?_
      rw [rd4]
      rintro e w4 ⟨rfl, hb4⟩
      have R4 := R3.under hb4
      clear R3 hb4
      go_wp2_with fail
      refine (rdTell_2 t 0 false 0 16385 0 (.int .i64 0) (.string ⟨#[]⟩) (.string ⟨#[]⟩) (.bool false) (.int .i64 0) (.slice none 0 0) (.slice none 0 0) (.slice none 0 0) _ R4.m.m (by omega) (by omega) (by omega) (by omega) hd R4.c _ _).mono ?_
      rintro e w5 ⟨rfl, hC5, hF5⟩
      have R5 := R4.told hC5 hF5
      clear R4 hC5 hF5
      go_wp2_with fail
      go_roundw
      case rel => exact ⟨3, _, _, rfl, .inr (.inr (.inr (.inl ⟨rfl, rfl, rfl⟩))), R5⟩
      case measure => simp [intOf]
    · go_wp2_with fail
      refine (rdNext_3 t 0 true 0 16385 0 (.int .i64 0) (.string ⟨#[]⟩) (.string ⟨#[]⟩) (.bool false) (.int .i64 0) (.slice none 0 0) (.slice none 0 0) (.slice none 0 0) _ R.m.m R.c (by omega) (by omega) (by omega) (by omega)).mono ?_
      rintro e w2 ⟨rfl, hb2⟩
      have R3 := (R.under hb2).under ((Below.refl _ w2).alloc (Nat.le_refl _) (.cells (accY 4 0 0 16385) 44))
      have BA := Blk.new w2 (accY 4 0 0 16385) 44
      generalize hW : w2.alloc (.cells (accY 4 0 0 16385) 44) = w3 at R3 BA
      replace hW := Lib.hid hW
      clear R hb2
      go_wp2_with (first
        | (refine wpList_store_row rfl 44 _ _ rfl _ _ rfl rfl 44 _ (Blk.new w2 _ _).h (by kernel_rfl) (by rfl) (by kernel_rfl) ?_; rw [World.setRow_alloc_new, hW.out])
        | (refine wpList_load_row rfl 44 _ rfl w2.heap.size rfl 44 _ (0, 0) _ BA.h Try.underlying44 rfl (by kernel_rfl) ?_))
      clear BA hW
      refine (do_get_first _ R3.m.m rd5 hbs).mono ?_
      rintro e w4 ⟨⟨b1, b2, b3, rfl⟩, hb4⟩
      have R4 := R3.under hb4
      clear R3 hb4
      go_wp2_with fail
      refine (rdTell_3 t 0 true 0 16385 0 (.int .i64 0) (.string ⟨#[]⟩) (.string ⟨#[]⟩) (.bool false) (.int .i64 0) (.slice none 0 0) (.slice none 0 0) (.slice none 0 0) _ R4.m.m (by omega) (by omega) (by omega) (by omega) hd R4.c b1 b2 b3).mono ?_
      rintro e w5 ⟨rfl, hC5, hF5⟩
      have R5 := R4.told hC5 hF5
      clear R4 hC5 hF5
      go_wp2_with fail
      go_roundw
      case rel => exact ⟨4, _, _, rfl, .inr (.inr (.inr (.inr ⟨rfl, rfl, b1, b2, b3, rfl⟩))), R5⟩
      case measure => simp [intOf]
    · go_wp2_with fail
      refine (rdKnown_got t 0 4 false 0 16385 0 b1 b2 b3 _ R.m.m R.c (by omega) (by omega) (by omega) (by omega)).mono ?_
      rintro e w2 ⟨rfl, hb2⟩
      have R3 := (R.under hb2).under ((Below.refl _ w2).alloc (Nat.le_refl _) (.cells (knA 0 16385 0 (.int .i64 0) (.string ⟨#[]⟩) (.string ⟨#[]⟩) (.bool true) (.int .i64 (-1)) (e0V b1) (e0V b2) (e0V b3)) 53))
      have BA := Blk.new w2 (knA 0 16385 0 (.int .i64 0) (.string ⟨#[]⟩) (.string ⟨#[]⟩) (.bool true) (.int .i64 (-1)) (e0V b1) (e0V b2) (e0V b3)) 53
      generalize hW : w2.alloc (.cells (knA 0 16385 0 (.int .i64 0) (.string ⟨#[]⟩) (.string ⟨#[]⟩) (.bool true) (.int .i64 (-1)) (e0V b1) (e0V b2) (e0V b3)) 53) = w3 at R3 BA
      replace hW := Lib.hid hW
      clear R hb2
      go_wp2_with (refine wpList_store_row rfl 53 _ _ rfl _ _ rfl rfl 53 _ (Blk.new w2 _ _).h (by kernel_rfl) (by rfl) (by kernel_rfl) ?_; rw [World.setRow_alloc_new, hW.out])
      clear hW
      refine (rdState_on t 0 4 4 false 0 16385 0 (.int .i64 0) (.string ⟨#[]⟩) (.string ⟨#[]⟩) (.bool true) (.int .i64 (-1)) (e0V b1) (e0V b2) (e0V b3) _ R3.m.m R3.c (by omega) (by omega) (by omega) (by omega)).mono ?_
      rintro e w4 ⟨rfl, hb4⟩
      have BA4 := BA.below hb4
      have k1 := BA4.at 1 rfl
      have k6 := BA4.at 6 rfl
      go_wp2_with fail
      go_ret
      exact ⟨rfl, below_push2 R3.b hb4 (Nat.le_refl _)⟩
end Go.Proofs.Ytgdeiaholkmfeaa.MemP

/-
  The plain things of package api, and how they lie in cells: nodes, answers, plans, blocks, operations, accesses.
-/
namespace Go.Proofs.Ytgdeiaholkmfeaa.Dp
open Go.RowKit RefP
set_option linter.unusedVariables false
set_option linter.unusedSimpArgs false

structure PairV where
  key : ByteArray
  val : Int
deriving DecidableEq
structure NodeV where
  level : Int
  low : ByteArray
  high : ByteArray
  last : Bool
  next : Int
  keys : List ByteArray
  vals : List Int
  kids : List Int
deriving DecidableEq
structure AnsV where
  code : Int
  key : ByteArray
  val : Int
  pairs : List PairV
deriving DecidableEq
structure StepV where
  cell : Int
  ver : Int
  old : Int
  new : Int
  lin : Bool
deriving DecidableEq
structure PlanV where
  thread : Int
  ans : AnsV
  steps : List StepV
  extra : List Int
deriving DecidableEq
structure BlockV where
  kind : Int
  node : NodeV
  plan : PlanV
  pairs : List PairV
deriving DecidableEq
structure OpV where
  kind : Int
  key : ByteArray
  upto : ByteArray
  val : Int
  limit : Int
deriving DecidableEq
structure AccV where
  kind : Int
  at_ : Int
  ver : Int
  word : Int
  block : BlockV
  op : OpV
structure ReplyV where
  ok : Bool
  word : Int
  ver : Int
  block : BlockV
  op : OpV
structure ChangeV where
  cell : Int
  from_ : Int
  word : Int
  ver : Int
  empty : Bool
  lin : Bool
  node : NodeV

/-- the head of a slice but for its length -/
structure Hd where
  a : Option Addr
  c : Nat
def Hd.v (h : Hd) (n : Nat) : Value := .slice h.a n h.c
def Hd.nil : Hd := ⟨none, 0⟩
/-- a row under a head -/
structure HRow {α : Type} (E : Cod α) (w : World) (S : List Nat) (h : Hd) (xs : List α) : Prop where
  le : xs.length ≤ h.c
  cap : h.c ≤ maxLen
  row : RowRep E w S h.a xs
theorem HRow.keep {α : Type} {E : Cod α} {w w' : World} {S : List Nat} {h : Hd} {xs : List α} (H : HRow E w S h xs) (k : Keeps S w w') : HRow E w' S h xs := ⟨H.le, H.cap, H.row.keep k⟩
theorem HRow.more {α : Type} {E : Cod α} {w : World} {S S' : List Nat} {h : Hd} {xs : List α} (H : HRow E w S h xs) (k : ∀ b ∈ S', b ∈ S ∨ w.heap.size ≤ b) : HRow E w S' h xs := ⟨H.le, H.cap, H.row.more k⟩
theorem HRow.nil {α : Type} (E : Cod α) (w : World) (S : List Nat) : HRow E w S Hd.nil [] := ⟨Nat.le_refl _, Nat.zero_le _, RowRep.nil _ _ _ _⟩
theorem rowC_of {α : Type} {E : Cod α} {w : World} {S : List Nat} {cs : List Value} {xs : List α} (h : (rowC E).rep w S cs xs) : ∃ q : Hd, cs = [q.v xs.length] ∧ HRow E w S q xs := by
  obtain ⟨a, c, e, h1, h2, h3⟩ := h
  exact ⟨⟨a, c⟩, e, h1, h2, h3⟩
theorem rowC_mk {α : Type} {E : Cod α} {w : World} {S : List Nat} {q : Hd} {xs : List α} (h : HRow E w S q xs) : (rowC E).rep w S [q.v xs.length] xs := ⟨q.a, q.c, rfl, h.le, h.cap, h.row⟩

abbrev i64C : Cod Int := intC .i64
abbrev u64C : Cod Int := intC .u64
def I64 (n : Int) : Prop := -9223372036854775808 ≤ n ∧ n ≤ 9223372036854775807
def U64 (n : Int) : Prop := 0 ≤ n ∧ n ≤ 18446744073709551615
theorem I64.of {n : Int} (h : (Lit.int .i64 n).wf = true) : I64 n := Lift.i64_range h
theorem U64.of {n : Int} (h : (Lit.int .u64 n).wf = true) : U64 n := Lift.u64_range h

def pairT : Cod PairV := isoC (pairC strC (pairC u64C unitC)) (fun x => (x.key, x.val, ()))
def stepT : Cod StepV := isoC (pairC i64C (pairC u64C (pairC u64C (pairC u64C (pairC boolC unitC))))) (fun x => (x.cell, x.ver, x.old, x.new, x.lin, ()))
def nodeT : Cod NodeV := isoC (pairC i64C (pairC strC (pairC strC (pairC boolC (pairC i64C (pairC (rowC strC) (pairC (rowC u64C) (pairC (rowC i64C) unitC)))))))) (fun x => (x.level, x.low, x.high, x.last, x.next, x.keys, x.vals, x.kids, ()))
def ansT : Cod AnsV := isoC (pairC i64C (pairC strC (pairC u64C (pairC (rowC pairT) unitC)))) (fun x => (x.code, x.key, x.val, x.pairs, ()))
def planT : Cod PlanV := isoC (pairC i64C (pairC ansT (pairC (rowC stepT) (pairC (rowC u64C) unitC)))) (fun x => (x.thread, x.ans, x.steps, x.extra, ()))
def blockT : Cod BlockV := isoC (pairC i64C (pairC nodeT (pairC planT (pairC (rowC pairT) unitC)))) (fun x => (x.kind, x.node, x.plan, x.pairs, ()))
def opT : Cod OpV := isoC (pairC i64C (pairC strC (pairC strC (pairC u64C (pairC i64C unitC))))) (fun x => (x.kind, x.key, x.upto, x.val, x.limit, ()))
def accT : Cod AccV := isoC (pairC i64C (pairC i64C (pairC u64C (pairC u64C (pairC blockT (pairC opT unitC)))))) (fun x => (x.kind, x.at_, x.ver, x.word, x.block, x.op, ()))
def changeT : Cod ChangeV := isoC (pairC i64C (pairC i64C (pairC u64C (pairC u64C (pairC boolC (pairC boolC (pairC nodeT unitC))))))) (fun x => (x.cell, x.from_, x.word, x.ver, x.empty, x.lin, x.node, ()))

/-! written out -/
def pairL (x : PairV) : List Value := [.string x.key, .int .u64 x.val]
structure PairOk (x : PairV) : Prop where
  key : x.key.size ≤ maxLen
  val : U64 x.val
def stepL (x : StepV) : List Value := [.int .i64 x.cell, .int .u64 x.ver, .int .u64 x.old, .int .u64 x.new, .bool x.lin]
structure StepOk (x : StepV) : Prop where
  cell : I64 x.cell
  ver : U64 x.ver
  old : U64 x.old
  new : U64 x.new
structure NodeH where
  keys : Hd
  vals : Hd
  kids : Hd
def nodeL (h : NodeH) (x : NodeV) : List Value := [.int .i64 x.level, .string x.low, .string x.high, .bool x.last, .int .i64 x.next, h.keys.v x.keys.length, h.vals.v x.vals.length, h.kids.v x.kids.length]
structure NodeOk (w : World) (S : List Nat) (h : NodeH) (x : NodeV) : Prop where
  level : I64 x.level
  low : x.low.size ≤ maxLen
  high : x.high.size ≤ maxLen
  next : I64 x.next
  keys : HRow strC w S h.keys x.keys
  vals : HRow u64C w S h.vals x.vals
  kids : HRow i64C w S h.kids x.kids
def ansL (h : Hd) (x : AnsV) : List Value := [.int .i64 x.code, .string x.key, .int .u64 x.val, h.v x.pairs.length]
structure AnsOk (w : World) (S : List Nat) (h : Hd) (x : AnsV) : Prop where
  code : I64 x.code
  key : x.key.size ≤ maxLen
  val : U64 x.val
  pairs : HRow pairT w S h x.pairs
structure PlanH where
  pairs : Hd
  steps : Hd
  extra : Hd
def planL (h : PlanH) (x : PlanV) : List Value := .int .i64 x.thread :: (ansL h.pairs x.ans ++ [h.steps.v x.steps.length, h.extra.v x.extra.length])
structure PlanOk (w : World) (S : List Nat) (h : PlanH) (x : PlanV) : Prop where
  thread : I64 x.thread
  ans : AnsOk w S h.pairs x.ans
  steps : HRow stepT w S h.steps x.steps
  extra : HRow u64C w S h.extra x.extra
structure BlockH where
  node : NodeH
  plan : PlanH
  pairs : Hd
def blockL (h : BlockH) (x : BlockV) : List Value := .int .i64 x.kind :: (nodeL h.node x.node ++ (planL h.plan x.plan ++ [h.pairs.v x.pairs.length]))
structure BlockOk (w : World) (S : List Nat) (h : BlockH) (x : BlockV) : Prop where
  kind : I64 x.kind
  node : NodeOk w S h.node x.node
  plan : PlanOk w S h.plan x.plan
  pairs : HRow pairT w S h.pairs x.pairs
def opL (x : OpV) : List Value := [.int .i64 x.kind, .string x.key, .string x.upto, .int .u64 x.val, .int .i64 x.limit]
structure OpOk (x : OpV) : Prop where
  kind : I64 x.kind
  key : x.key.size ≤ maxLen
  upto : x.upto.size ≤ maxLen
  val : U64 x.val
  limit : I64 x.limit
def accL (h : BlockH) (x : AccV) : List Value := [.int .i64 x.kind, .int .i64 x.at_, .int .u64 x.ver, .int .u64 x.word] ++ (blockL h x.block ++ opL x.op)
structure AccOk (w : World) (S : List Nat) (h : BlockH) (x : AccV) : Prop where
  kind : I64 x.kind
  at_ : I64 x.at_
  ver : U64 x.ver
  word : U64 x.word
  block : BlockOk w S h x.block
  op : OpOk x.op
def changeL (h : NodeH) (x : ChangeV) : List Value := [.int .i64 x.cell, .int .i64 x.from_, .int .u64 x.word, .int .u64 x.ver, .bool x.empty, .bool x.lin] ++ nodeL h x.node
structure ChangeOk (w : World) (S : List Nat) (h : NodeH) (x : ChangeV) : Prop where
  cell : I64 x.cell
  from_ : I64 x.from_
  word : U64 x.word
  ver : U64 x.ver
  node : NodeOk w S h x.node
theorem wf_i64 {n : Int} (h : I64 n) : (Lit.int .i64 n).wf = true := by
  obtain ⟨h0, h1⟩ := h
  simp [Lit.wf, IntKind.min, IntKind.max, IntKind.bits, IntKind.signed]
  omega
theorem wf_u64 {n : Int} (h : U64 n) : (Lit.int .u64 n).wf = true := by
  obtain ⟨h0, h1⟩ := h
  simp [Lit.wf, IntKind.min, IntKind.max, IntKind.bits, IntKind.signed]
  omega
theorem pairT_of {w : World} {S : List Nat} {cs : List Value} {x : PairV} (h : pairT.rep w S cs x) : cs = pairL x ∧ PairOk x := by
  obtain ⟨_, _, rfl, ⟨rfl, h0⟩, _, _, rfl, ⟨rfl, h1⟩, rfl⟩ := h
  exact ⟨rfl, h0, U64.of h1⟩
theorem pairT_mk {w : World} {S : List Nat} {x : PairV} (h : PairOk x) : pairT.rep w S (pairL x) x :=
  ⟨[_], [_], rfl, ⟨rfl, h.key⟩, [_], [], rfl, ⟨rfl, wf_u64 h.val⟩, rfl⟩
theorem stepT_of {w : World} {S : List Nat} {cs : List Value} {x : StepV} (h : stepT.rep w S cs x) : cs = stepL x ∧ StepOk x := by
  obtain ⟨_, _, rfl, ⟨rfl, h0⟩, _, _, rfl, ⟨rfl, h1⟩, _, _, rfl, ⟨rfl, h2⟩, _, _, rfl, ⟨rfl, h3⟩, _, _, rfl, rfl, rfl⟩ := h
  exact ⟨rfl, I64.of h0, U64.of h1, U64.of h2, U64.of h3⟩
theorem stepT_mk {w : World} {S : List Nat} {x : StepV} (h : StepOk x) : stepT.rep w S (stepL x) x :=
  ⟨[_], _, rfl, ⟨rfl, wf_i64 h.cell⟩, [_], _, rfl, ⟨rfl, wf_u64 h.ver⟩, [_], _, rfl, ⟨rfl, wf_u64 h.old⟩, [_], _, rfl, ⟨rfl, wf_u64 h.new⟩, [_], [], rfl, rfl, rfl⟩
theorem nodeT_of {w : World} {S : List Nat} {cs : List Value} {x : NodeV} (h : nodeT.rep w S cs x) : ∃ q, cs = nodeL q x ∧ NodeOk w S q x := by
  obtain ⟨_, _, rfl, ⟨rfl, h0⟩, _, _, rfl, ⟨rfl, h1⟩, _, _, rfl, ⟨rfl, h2⟩, _, _, rfl, rfl, _, _, rfl, ⟨rfl, h4⟩, _, _, rfl, h5, _, _, rfl, h6, _, _, rfl, h7, rfl⟩ := h
  obtain ⟨q5, rfl, r5⟩ := rowC_of h5
  obtain ⟨q6, rfl, r6⟩ := rowC_of h6
  obtain ⟨q7, rfl, r7⟩ := rowC_of h7
  exact ⟨⟨q5, q6, q7⟩, rfl, I64.of h0, h1, h2, I64.of h4, r5, r6, r7⟩
theorem nodeT_mk {w : World} {S : List Nat} {q : NodeH} {x : NodeV} (h : NodeOk w S q x) : nodeT.rep w S (nodeL q x) x :=
  ⟨[_], _, rfl, ⟨rfl, wf_i64 h.level⟩, [_], _, rfl, ⟨rfl, h.low⟩, [_], _, rfl, ⟨rfl, h.high⟩, [_], _, rfl, rfl, [_], _, rfl, ⟨rfl, wf_i64 h.next⟩, [_], _, rfl, rowC_mk h.keys, [_], _, rfl, rowC_mk h.vals, [_], [], rfl, rowC_mk h.kids, rfl⟩
theorem ansT_of {w : World} {S : List Nat} {cs : List Value} {x : AnsV} (h : ansT.rep w S cs x) : ∃ q, cs = ansL q x ∧ AnsOk w S q x := by
  obtain ⟨_, _, rfl, ⟨rfl, h0⟩, _, _, rfl, ⟨rfl, h1⟩, _, _, rfl, ⟨rfl, h2⟩, _, _, rfl, h3, rfl⟩ := h
  obtain ⟨q3, rfl, r3⟩ := rowC_of h3
  exact ⟨q3, rfl, I64.of h0, h1, U64.of h2, r3⟩
theorem ansT_mk {w : World} {S : List Nat} {q : Hd} {x : AnsV} (h : AnsOk w S q x) : ansT.rep w S (ansL q x) x :=
  ⟨[_], _, rfl, ⟨rfl, wf_i64 h.code⟩, [_], _, rfl, ⟨rfl, h.key⟩, [_], _, rfl, ⟨rfl, wf_u64 h.val⟩, [_], [], rfl, rowC_mk h.pairs, rfl⟩
theorem planT_of {w : World} {S : List Nat} {cs : List Value} {x : PlanV} (h : planT.rep w S cs x) : ∃ q, cs = planL q x ∧ PlanOk w S q x := by
  obtain ⟨_, _, rfl, ⟨rfl, h0⟩, _, _, rfl, h1, _, _, rfl, h2, _, _, rfl, h3, rfl⟩ := h
  obtain ⟨q1, rfl, r1⟩ := ansT_of h1
  obtain ⟨q2, rfl, r2⟩ := rowC_of h2
  obtain ⟨q3, rfl, r3⟩ := rowC_of h3
  exact ⟨⟨q1, q2, q3⟩, rfl, I64.of h0, r1, r2, r3⟩
theorem planT_mk {w : World} {S : List Nat} {q : PlanH} {x : PlanV} (h : PlanOk w S q x) : planT.rep w S (planL q x) x :=
  ⟨[_], _, rfl, ⟨rfl, wf_i64 h.thread⟩, _, _, rfl, ansT_mk h.ans, [_], _, rfl, rowC_mk h.steps, [_], [], rfl, rowC_mk h.extra, rfl⟩
theorem blockT_of {w : World} {S : List Nat} {cs : List Value} {x : BlockV} (h : blockT.rep w S cs x) : ∃ q, cs = blockL q x ∧ BlockOk w S q x := by
  obtain ⟨_, _, rfl, ⟨rfl, h0⟩, _, _, rfl, h1, _, _, rfl, h2, _, _, rfl, h3, rfl⟩ := h
  obtain ⟨q1, rfl, r1⟩ := nodeT_of h1
  obtain ⟨q2, rfl, r2⟩ := planT_of h2
  obtain ⟨q3, rfl, r3⟩ := rowC_of h3
  exact ⟨⟨q1, q2, q3⟩, rfl, I64.of h0, r1, r2, r3⟩
theorem blockT_mk {w : World} {S : List Nat} {q : BlockH} {x : BlockV} (h : BlockOk w S q x) : blockT.rep w S (blockL q x) x :=
  ⟨[_], _, rfl, ⟨rfl, wf_i64 h.kind⟩, _, _, rfl, nodeT_mk h.node, _, _, rfl, planT_mk h.plan, [_], [], rfl, rowC_mk h.pairs, rfl⟩
theorem opT_of {w : World} {S : List Nat} {cs : List Value} {x : OpV} (h : opT.rep w S cs x) : cs = opL x ∧ OpOk x := by
  obtain ⟨_, _, rfl, ⟨rfl, h0⟩, _, _, rfl, ⟨rfl, h1⟩, _, _, rfl, ⟨rfl, h2⟩, _, _, rfl, ⟨rfl, h3⟩, _, _, rfl, ⟨rfl, h4⟩, rfl⟩ := h
  exact ⟨rfl, I64.of h0, h1, h2, U64.of h3, I64.of h4⟩
theorem opT_mk {w : World} {S : List Nat} {x : OpV} (h : OpOk x) : opT.rep w S (opL x) x :=
  ⟨[_], _, rfl, ⟨rfl, wf_i64 h.kind⟩, [_], _, rfl, ⟨rfl, h.key⟩, [_], _, rfl, ⟨rfl, h.upto⟩, [_], _, rfl, ⟨rfl, wf_u64 h.val⟩, [_], [], rfl, ⟨rfl, wf_i64 h.limit⟩, rfl⟩
theorem accT_of {w : World} {S : List Nat} {cs : List Value} {x : AccV} (h : accT.rep w S cs x) : ∃ q, cs = accL q x ∧ AccOk w S q x := by
  obtain ⟨_, _, rfl, ⟨rfl, h0⟩, _, _, rfl, ⟨rfl, h1⟩, _, _, rfl, ⟨rfl, h2⟩, _, _, rfl, ⟨rfl, h3⟩, _, _, rfl, h4, _, _, rfl, h5, rfl⟩ := h
  obtain ⟨q4, rfl, r4⟩ := blockT_of h4
  obtain ⟨rfl, r5⟩ := opT_of h5
  refine ⟨q4, ?_, I64.of h0, I64.of h1, U64.of h2, U64.of h3, r4, r5⟩
  simp [accL]
theorem changeT_of {w : World} {S : List Nat} {cs : List Value} {x : ChangeV} (h : changeT.rep w S cs x) : ∃ q, cs = changeL q x ∧ ChangeOk w S q x := by
  obtain ⟨_, _, rfl, ⟨rfl, h0⟩, _, _, rfl, ⟨rfl, h1⟩, _, _, rfl, ⟨rfl, h2⟩, _, _, rfl, ⟨rfl, h3⟩, _, _, rfl, rfl, _, _, rfl, rfl, _, _, rfl, h6, rfl⟩ := h
  obtain ⟨q6, rfl, r6⟩ := nodeT_of h6
  refine ⟨q6, ?_, I64.of h0, I64.of h1, U64.of h2, U64.of h3, r6⟩
  simp [changeL]
theorem NodeOk.keep {w w' : World} {S : List Nat} {q : NodeH} {x : NodeV} (h : NodeOk w S q x) (k : Keeps S w w') : NodeOk w' S q x := ⟨h.level, h.low, h.high, h.next, h.keys.keep k, h.vals.keep k, h.kids.keep k⟩
theorem AnsOk.keep {w w' : World} {S : List Nat} {q : Hd} {x : AnsV} (h : AnsOk w S q x) (k : Keeps S w w') : AnsOk w' S q x := ⟨h.code, h.key, h.val, h.pairs.keep k⟩
theorem PlanOk.keep {w w' : World} {S : List Nat} {q : PlanH} {x : PlanV} (h : PlanOk w S q x) (k : Keeps S w w') : PlanOk w' S q x := ⟨h.thread, h.ans.keep k, h.steps.keep k, h.extra.keep k⟩
theorem BlockOk.keep {w w' : World} {S : List Nat} {q : BlockH} {x : BlockV} (h : BlockOk w S q x) (k : Keeps S w w') : BlockOk w' S q x := ⟨h.kind, h.node.keep k, h.plan.keep k, h.pairs.keep k⟩
theorem AccOk.keep {w w' : World} {S : List Nat} {q : BlockH} {x : AccV} (h : AccOk w S q x) (k : Keeps S w w') : AccOk w' S q x := ⟨h.kind, h.at_, h.ver, h.word, h.block.keep k, h.op⟩
end Go.Proofs.Ytgdeiaholkmfeaa.Dp

/-
  Light of a node (chapter 10's law), and of a row of accesses (chapter 26's): contracts.
-/
namespace Go.Proofs.Ytgdeiaholkmfeaa.Dp
open Go.RowKit RefP
set_option linter.unusedVariables false
set_option linter.unusedSimpArgs false
/-- is a node small? -/
def lightN (x : NodeV) : Bool := x.keys.all (fun k => decide (k.size ≤ 100)) && (decide (x.keys.length ≤ 80) && (decide (x.vals.length ≤ 80) && (decide (x.kids.length ≤ 80) && (decide (x.low.size ≤ 100) && decide (x.high.size ≤ 100)))))
/-- a string of a row -/
theorem str_cell {w : World} {S : List Nat} {h : Hd} {xs : List ByteArray} (H : HRow strC w S h xs) (k : Nat) (hk : k < xs.length) : ∃ b off, h.a = some ⟨b, off, none⟩ ∧ b < w.heap.size ∧ w.cell? ⟨b, off + k, none⟩ = some (.string xs[k]) := by
  obtain ⟨b, off, e, hb, _, hc⟩ := H.row (by omega)
  obtain ⟨cs, ⟨rfl, _⟩, hv⟩ := hc k xs[k] (List.getElem?_eq_getElem hk)
  refine ⟨b, off, e, hb, ?_⟩
  have := hv 0 _ rfl
  rw [show strC.k = 1 from rfl, Nat.mul_one, Nat.add_zero] at this
  exact this
abbrev nodeA (h : NodeH) (x : NodeV) : Array Value := #[.int .i64 x.level, .string x.low, .string x.high, .bool x.last, .int .i64 x.next, .slice h.keys.a x.keys.length h.keys.c, .slice h.vals.a x.vals.length h.vals.c, .slice h.kids.a x.kids.length h.kids.c]
theorem light_part {x : NodeV} {k : Nat} (hk : k < x.keys.length) (h : ¬ (x.keys[k]).size ≤ 100) : lightN x = false := by
  have : x.keys.all (fun k => decide (k.size ≤ 100)) = false := by
    rw [Bool.eq_false_iff]
    intro e
    rw [List.all_eq_true] at e
    exact h (of_decide_eq_true (e _ (List.getElem_mem hk)))
  simp [lightN, this]
set_option maxRecDepth 100000 in
set_option maxHeartbeats 3200000 in
theorem light10_any (S : List Nat) (h : NodeH) (x : NodeV) (w : World) (H : NodeOk w S h x) : Calls Try.prog 22 #[.agg (nodeA h x)] w fun e w' => e = .returned (.bool (lightN x)) ∧ Below w.heap.size w w' := by
  have hb0 : Below w.heap.size w (w.alloc (.cells (nodeA h x) 32)) := by (repeat (first | exact Below.refl _ _ | assumption | refine below_alloc2 ?_ (by first | exact Nat.le_refl _ | omega) _ | refine Below.drew ?_ | refine below_drewN ?_ _ | refine below_push2 ?_ ‹_› (by first | exact Nat.le_refl _ | omega) | refine Below.setCell ?_ (by first | (simp; done) | (simp; omega) | omega) _))
  have BX := Blk.new w (nodeA h x) 32
  have hcap := H.keys.cap
  have hle := H.keys.le
  have hm : (maxLen : Nat) = 9223372036854775807 := by unfold maxLen; rfl
  go_enter Try.func22, Try.ntmps22
  go_wp2_with fail
  go_loopw [8] (fun i wr => ∃ k : Nat, k ≤ x.keys.length ∧ i = .int .i64 k ∧ wr = w.alloc (.cells (nodeA h x) 32) ∧ (x.keys.take k).all (fun k => decide (k.size ≤ 100)) = true) (fun i _ => x.keys.length - (intOf i).toNat)
  case atStart => exact ⟨0, Nat.zero_le _, rfl, rfl, by simp⟩
  case round =>
    obtain ⟨k, hk, rfl, rfl, hall⟩ := hrel
    by_cases hlt : k < x.keys.length
    · have hlt' : (k : Int) < (x.keys.length : Int) := by omega
      obtain ⟨b, off, ha, hbl, hc⟩ := str_cell (H.keys.keep (Keeps.of_below hb0)) k hlt
      rw [ha]
      have hsz : x.keys[k].size ≤ maxLen := by
        obtain ⟨b, off, e, hb, _, hc⟩ := H.keys.row (by omega)
        obtain ⟨cs, ⟨_, h2⟩, _⟩ := hc k x.keys[k] (List.getElem?_eq_getElem hlt)
        exact h2
      by_cases hs : x.keys[k].size ≤ 100
      · have q1 : decide (100 < (x.keys[k].size : Int)) = false := by simp; omega
        have hall2 : (x.keys.take (k + 1)).all (fun k => decide (k.size ≤ 100)) = true := by
          rw [List.take_succ_eq_append_getElem hlt, List.all_append, hall]; simp [hs]
        generalize x.keys[k] = s at hc q1
        clear hs hsz
        go_wp2_with fail
        go_roundw
        case rel => exact ⟨k + 1, by omega, by go_num, trivial, hall2⟩
        case measure => simp [intOf]; omega
      · have q1 : decide (100 < (x.keys[k].size : Int)) = true := by simp; omega
        have hR := Lib.hid (light_part hlt hs)
        generalize x.keys[k] = s at hc q1
        clear hs hsz
        go_wp2_with fail
        go_ret
        exact ⟨by rw [hR.out]; rfl, hb0⟩
    · obtain rfl : k = x.keys.length := by omega
      rw [List.take_length] at hall
      have l1 := H.vals.le
      have l2 := H.vals.cap
      have l3 := H.kids.le
      have l4 := H.kids.cap
      have l5 := H.low
      have l6 := H.high
      have hR : Hid (lightN x = (decide (x.keys.length ≤ 80) && (decide (x.vals.length ≤ 80) && (decide (x.kids.length ≤ 80) && (decide (x.low.size ≤ 100) && decide (x.high.size ≤ 100)))))) := by simp [Hid, lightN, hall]
      clear hall
      by_cases g1 : x.keys.length ≤ 80
      · have q1 : decide ((x.keys.length : Int) ≤ 80) = true := by simp; omega
        by_cases g2 : x.vals.length ≤ 80
        · have q2 : decide ((x.vals.length : Int) ≤ 80) = true := by simp; omega
          by_cases g3 : x.kids.length ≤ 80
          · have q3 : decide ((x.kids.length : Int) ≤ 80) = true := by simp; omega
            by_cases g4 : x.low.size ≤ 100
            · have q4 : decide ((x.low.size : Int) ≤ 100) = true := by simp; omega
              have q5 : decide ((x.high.size : Int) ≤ 100) = decide (x.high.size ≤ 100) := by simp; omega
              have hE := Lib.hid (show lightN x = decide (x.high.size ≤ 100) by rw [hR.out]; simp [g1, g2, g3, g4])
              clear g1 g2 g3 g4 hR
              go_wp2_with fail
              go_ret
              exact ⟨by rw [hE.out]; rfl, hb0⟩
            · have q4 : decide ((x.low.size : Int) ≤ 100) = false := by simp; omega
              have hE := Lib.hid (show lightN x = false by rw [hR.out]; simp [g4])
              clear g1 g2 g3 g4 hR
              go_wp2_with fail
              go_ret
              exact ⟨by rw [hE.out]; rfl, hb0⟩
          · have q3 : decide ((x.kids.length : Int) ≤ 80) = false := by simp; omega
            have hE := Lib.hid (show lightN x = false by rw [hR.out]; simp [g3])
            clear g1 g2 g3 hR
            go_wp2_with fail
            go_ret
            exact ⟨by rw [hE.out]; rfl, hb0⟩
        · have q2 : decide ((x.vals.length : Int) ≤ 80) = false := by simp; omega
          have hE := Lib.hid (show lightN x = false by rw [hR.out]; simp [g2])
          clear g1 g2 hR
          go_wp2_with fail
          go_ret
          exact ⟨by rw [hE.out]; rfl, hb0⟩
      · have q1 : decide ((x.keys.length : Int) ≤ 80) = false := by simp; omega
        have hE := Lib.hid (show lightN x = false by rw [hR.out]; simp [g1])
        clear g1 hR
        go_wp2_with fail
        go_ret
        exact ⟨by rw [hE.out]; rfl, hb0⟩
end Go.Proofs.Ytgdeiaholkmfeaa.Dp

/-
  Elements that lie flat (no rows in them): their cells in a row, rows of records of them and back.
-/
namespace Go.Proofs.Ytgdeiaholkmfeaa.Dp
open Go.RowKit RefP
set_option linter.unusedVariables false
set_option linter.unusedSimpArgs false
/-- a codec whose things lie flat -/
structure Flat {α : Type} (C : Cod α) (L : α → List Value) : Prop where
  eq : ∀ {w S cs x}, C.rep w S cs x → cs = L x
  any : ∀ {w S w' S' cs x}, C.rep w S cs x → C.rep w' S' cs x
  pos : 0 < C.k
  len : ∀ x, (L x).length = C.k
  one : ∀ x, ∀ v ∈ L x, v.oneCell' = true
theorem flat_str : Flat strC (fun s => [.string s]) := ⟨fun h => h.1, fun h => h, by decide, fun _ => rfl, fun x v hv => by simp at hv; subst hv; rfl⟩
theorem flat_u64 : Flat u64C (fun n => [.int .u64 n]) := ⟨fun h => h.1, fun h => h, by decide, fun _ => rfl, fun x v hv => by simp at hv; subst hv; rfl⟩
theorem flat_i64 : Flat i64C (fun n => [.int .i64 n]) := ⟨fun h => h.1, fun h => h, by decide, fun _ => rfl, fun x v hv => by simp at hv; subst hv; rfl⟩
theorem flat_pair : Flat pairT pairL := ⟨fun h => (pairT_of h).1, fun h => by obtain ⟨rfl, o⟩ := pairT_of h; exact pairT_mk o, by decide, fun _ => rfl, fun x v hv => by simp [pairL] at hv; rcases hv with rfl | rfl <;> rfl⟩
theorem flat_step : Flat stepT stepL := ⟨fun h => (stepT_of h).1, fun h => by obtain ⟨rfl, o⟩ := stepT_of h; exact stepT_mk o, by decide, fun _ => rfl, fun x v hv => by simp [stepL] at hv; rcases hv with rfl | rfl | rfl | rfl | rfl <;> rfl⟩
section
variable {α : Type} {C : Cod α} {L : α → List Value}
/-- a cell of a row -/
theorem Flat.cell (F : Flat C L) {w : World} {S : List Nat} {h : Hd} {xs : List α} (H : HRow C w S h xs) (i : Nat) (hi : i < xs.length) :
    ∃ b off, h.a = some ⟨b, off, none⟩ ∧ b < w.heap.size ∧ ∀ j v, (L xs[i])[j]? = some v → w.cell? ⟨b, off + i * C.k + j, none⟩ = some v := by
  obtain ⟨b, off, e, hb, _, hc⟩ := H.row (by omega)
  obtain ⟨cs, hr, hv⟩ := hc i xs[i] (List.getElem?_eq_getElem hi)
  rw [F.eq hr] at hv
  exact ⟨b, off, e, hb, hv⟩
/-- the one block of a row -/
theorem Flat.cells (F : Flat C L) {w : World} {S : List Nat} {h : Hd} {xs : List α} (H : HRow C w S h xs) (h0 : 0 < xs.length) :
    ∃ b off, h.a = some ⟨b, off, none⟩ ∧ b < w.heap.size ∧ ∀ i (hi : i < xs.length) j v, (L xs[i])[j]? = some v → w.cell? ⟨b, off + i * C.k + j, none⟩ = some v := by
  obtain ⟨b, off, e, hb, _, hc⟩ := H.row h0
  refine ⟨b, off, e, hb, fun i hi j v hj => ?_⟩
  obtain ⟨cs, hr, hv⟩ := hc i xs[i] (List.getElem?_eq_getElem hi)
  rw [F.eq hr] at hv
  exact hv j v hj
abbrev flatF (L : α → List Value) (x : α) (j : Nat) : Value := (L x).getD j undef
theorem Flat.getD (F : Flat C L) (x : α) (j : Nat) (hj : j < C.k) : (L x)[j]? = some (flatF L x j) := by
  have : j < (L x).length := by rw [F.len]; exact hj
  simp [flatF, List.getD, this]
theorem Flat.oneF (F : Flat C L) (x : α) (j : Nat) (hj : j < C.k) : (flatF L x j).oneCell' = true :=
  F.one x _ (List.mem_of_getElem? (F.getD x j hj))
/-- a row is a row of records -/
theorem Flat.recs (F : Flat C L) {w : World} {S : List Nat} {h : Hd} {xs : List α} (d : α) (H : HRow C w S h xs) : RecS C.k (flatF L) d w h.a xs := by
  by_cases h0 : 0 < xs.length
  · obtain ⟨b, off, e, hb, hc⟩ := F.cells H h0
    refine ⟨⟨fun hm => ⟨b, off, e, hb, fun m hm => ?_⟩⟩⟩
    have hi := rec_div hm
    have hj := Nat.mod_lt m F.pos
    have e1 : m = m / C.k * C.k + m % C.k := by rw [Nat.mul_comm]; exact (Nat.div_add_mod m C.k).symm
    have := hc (m / C.k) hi (m % C.k) _ (F.getD _ _ hj)
    rw [Nat.add_assoc, ← e1] at this
    rw [this]
    simp [recF, List.getD_eq_getElem?_getD, hi]
  · obtain rfl : xs = [] := List.eq_nil_of_length_eq_zero (by omega)
    exact RecS.nil _ _ _ _ _
/-- what the elements of a row are -/
theorem HRow.all {w : World} {S : List Nat} {h : Hd} {xs : List α} (H : HRow C w S h xs) : ∀ x ∈ xs, ∃ cs, C.rep w S cs x := by
  intro x hx
  obtain ⟨i, hi, rfl⟩ := List.getElem_of_mem hx
  obtain ⟨b, off, e, hb, _, hc⟩ := H.row (by omega)
  obtain ⟨cs, hr, hv⟩ := hc i xs[i] (List.getElem?_eq_getElem hi)
  exact ⟨cs, hr⟩
/-- and back -/
theorem Flat.back (F : Flat C L) {w w0 : World} {S S0 : List Nat} {d : α} {a : Option Addr} {c : Nat} {xs : List α} (R : RecS C.k (flatF L) d w a xs) (hx : ∀ x ∈ xs, ∃ cs, C.rep w0 S0 cs x) (hS : ∀ b off, a = some ⟨b, off, none⟩ → b ∉ S) (hl : xs.length ≤ c) (hc : c ≤ maxLen) : HRow C w S ⟨a, c⟩ xs := by
  refine ⟨hl, hc, fun h0 => ?_⟩
  obtain ⟨b, off, e, hb, hcell⟩ := R.row.get (by have := rec_lt h0 F.pos; omega)
  refine ⟨b, off, e, hb, hS b off e, fun i x hi => ?_⟩
  have hil : i < xs.length := (List.getElem?_eq_some_iff.1 hi).1
  have hxi : x = xs[i] := by have := (List.getElem?_eq_some_iff.1 hi).2; exact this.symm
  subst hxi
  obtain ⟨cs, hr⟩ := hx _ (List.getElem_mem hil)
  have := F.eq hr
  subst this
  refine ⟨_, F.any hr, fun j v hj => ?_⟩
  have hjk : j < C.k := by rw [← F.len xs[i]]; exact (List.getElem?_eq_some_iff.1 hj).1
  have := hcell (i * C.k + j) (rec_lt hil hjk)
  rw [recF_at _ _ _ _ _ hjk, ← Nat.add_assoc] at this
  rw [this]
  have e2 : xs.getD i d = xs[i] := by simp [List.getD_eq_getElem?_getD, hil]
  rw [e2, ← F.getD xs[i] j hjk, hj]
/-- a block that has the cells of a row -/
theorem Flat.blk (F : Flat C L) {w w0 : World} {S S0 : List Nat} {b : Nat} {xs : List α} {T : TypeId} (d : α) (B : Blk w b (recA C.k (flatF L) d xs) T) (hx : ∀ x ∈ xs, ∃ cs, C.rep w0 S0 cs x) (hS : b ∉ S) (hl : xs.length ≤ maxLen) : HRow C w S ⟨some ⟨b, 0, none⟩, xs.length⟩ xs :=
  F.back (RecS.of_blk B) hx (fun b' off e => by injection e with e; injection e with e1; subst e1; exact hS) (Nat.le_refl _) hl
theorem Flat.hany (F : Flat C L) {w w0 : World} {S S0 : List Nat} {xs : List α} (h : ∀ x ∈ xs, ∃ cs, C.rep w0 S0 cs x) : ∀ x ∈ xs, ∃ cs, C.rep w S cs x := fun x hx => by
  obtain ⟨cs, hr⟩ := h x hx
  exact ⟨cs, F.any hr⟩
end
end Go.Proofs.Ytgdeiaholkmfeaa.Dp

/-
  Are two deep things the same? slices.Equal, and the Sames of the program and of the document: contracts.
-/
namespace Go.Proofs.Ytgdeiaholkmfeaa.Dp
open Go.RowKit RefP
set_option linter.unusedVariables false
set_option linter.unusedSimpArgs false
theorem eq_step {α : Type} {xs ys : List α} {k : Nat} (h : xs.take k = ys.take k) (hx : k < xs.length) (hy : k < ys.length) (e : xs[k] = ys[k]) : xs.take (k + 1) = ys.take (k + 1) := by
  rw [List.take_succ_eq_append_getElem hx, List.take_succ_eq_append_getElem hy, h, e]
theorem eq_not {α : Type} {xs ys : List α} {k : Nat} (hx : k < xs.length) (hy : k < ys.length) (e : xs[k] ≠ ys[k]) : xs ≠ ys := fun h => by subst h; exact e rfl
theorem eq_all {α : Type} {xs ys : List α} (h : xs.take xs.length = ys.take xs.length) (hl : xs.length = ys.length) : xs = ys := by
  rw [List.take_length] at h
  rw [h, hl, List.take_length]
theorem eq_len {α : Type} {xs ys : List α} (h : xs.length ≠ ys.length) : xs ≠ ys := fun e => h (by rw [e])
theorem sEq {x y : ByteArray} (h : (!x.toList == y.toList) = false) : x = y := (Lib.bytes_beq_iff x y).1 (by simpa using h)
theorem sNe {x y : ByteArray} (h : (!x.toList == y.toList) = true) : x ≠ y := (Lib.bytes_beq_false_iff x y).1 (by simpa using h)
theorem iEq {x y : Int} (h : (x != y) = false) : x = y := by simpa using h
theorem iNe {x y : Int} (h : (x != y) = true) : x ≠ y := by simpa using h
theorem neqPair (w : World) (x1 y1 : ByteArray) (x2 y2 : Int) : (binOp .neq 104 (.agg #[.string x1, .int .u64 x2]) (.agg #[.string y1, .int .u64 y2])).run Try.prog w = .ok (.bool (!(decide (PairV.mk x1 x2 = PairV.mk y1 y2)))) w := by
  rw [run_neq_struct]
  by_cases h1 : x1 = y1
  · by_cases h2 : x2 = y2
    · subst h1; subst h2
      go_simp
      all_goals simp
    · subst h1
      go_simp
      all_goals simp [h2]
  · have := (Lib.bytes_beq_false_iff x1 y1).2 h1
    go_simp
    all_goals simp [h1]
theorem neqStep (w : World) (x1 y1 x2 y2 x3 y3 x4 y4 : Int) (x5 y5 : Bool) : (binOp .neq 100 (.agg #[.int .i64 x1, .int .u64 x2, .int .u64 x3, .int .u64 x4, .bool x5]) (.agg #[.int .i64 y1, .int .u64 y2, .int .u64 y3, .int .u64 y4, .bool y5])).run Try.prog w = .ok (.bool (!(decide (StepV.mk x1 x2 x3 x4 x5 = StepV.mk y1 y2 y3 y4 y5)))) w := by
  rw [run_neq_struct]
  by_cases h1 : x1 = y1
  · by_cases h2 : x2 = y2
    · by_cases h3 : x3 = y3
      · by_cases h4 : x4 = y4
        · by_cases h5 : x5 = y5
          · subst h1; subst h2; subst h3; subst h4; subst h5
            go_simp
            all_goals simp
          · have : (x5 == y5) = false := by simpa using h5
            subst h1; subst h2; subst h3; subst h4
            go_simp
            all_goals simp [h5]
        · have : (x4 == y4) = false := by simpa using h4
          subst h1; subst h2; subst h3
          go_simp
          all_goals simp [h4]
      · have : (x3 == y3) = false := by simpa using h3
        subst h1; subst h2
        go_simp
        all_goals simp [h3]
    · have : (x2 == y2) = false := by simpa using h2
      subst h1
      go_simp
      all_goals simp [h2]
  · have : (x1 == y1) = false := by simpa using h1
    go_simp
    all_goals simp [h1]
theorem dEq {α : Type} [DecidableEq α] {x y : α} (h : (!decide (x = y)) = false) : x = y := by simpa using h
theorem dNe {α : Type} [DecidableEq α] {x y : α} (h : (!decide (x = y)) = true) : x ≠ y := by simpa using h
theorem pEq {x1 y1 : ByteArray} {x2 y2 : Int} (h : (!decide (x1 = y1)) = false ∧ (!decide (x2 = y2)) = false) : PairV.mk x1 x2 = PairV.mk y1 y2 := by simpa using h
theorem pNe {x1 y1 : ByteArray} {x2 y2 : Int} (h : (!decide (x1 = y1)) = true ∨ (!decide (x2 = y2)) = true) : PairV.mk x1 x2 ≠ PairV.mk y1 y2 := by
  intro e
  injection e with e1 e2
  subst e1; subst e2
  simp at h
theorem tEq {x1 y1 x2 y2 x3 y3 x4 y4 : Int} {x5 y5 : Bool} (h : (!decide (x1 = y1)) = false ∧ (!decide (x2 = y2)) = false ∧ (!decide (x3 = y3)) = false ∧ (!decide (x4 = y4)) = false ∧ (!decide (x5 = y5)) = false) : StepV.mk x1 x2 x3 x4 x5 = StepV.mk y1 y2 y3 y4 y5 := by simpa using h
theorem tNe {x1 y1 x2 y2 x3 y3 x4 y4 : Int} {x5 y5 : Bool} (h : (!decide (x1 = y1)) = true ∨ (!decide (x2 = y2)) = true ∨ (!decide (x3 = y3)) = true ∨ (!decide (x4 = y4)) = true ∨ (!decide (x5 = y5)) = true) : StepV.mk x1 x2 x3 x4 x5 ≠ StepV.mk y1 y2 y3 y4 y5 := by
  intro e
  injection e with e1 e2 e3 e4 e5
  subst e1; subst e2; subst e3; subst e4; subst e5
  simp at h
end Go.Proofs.Ytgdeiaholkmfeaa.Dp

/-
  The document's Sames of rows, nodes, answers, blocks: contracts.
-/
namespace Go.Proofs.Ytgdeiaholkmfeaa.Dp
open Go.RowKit RefP
set_option linter.unusedVariables false
set_option linter.unusedSimpArgs false
set_option maxRecDepth 100000 in
set_option maxHeartbeats 1600000 in
theorem same04_any (S S' : List Nat) (h h' : Hd) (xs ys : List (ByteArray)) (w : World) (H : HRow strC w S h xs) (H' : HRow strC w S' h' ys) :
    Calls Try.prog 30 #[.slice h.a xs.length h.c, .slice h'.a ys.length h'.c] w fun e w' => e = .returned (.bool (decide (xs = ys))) ∧ Below w.heap.size w w' := by
  by_cases hl : xs.length = ys.length
  · have q0 : ((xs.length : Int) != (ys.length : Int)) = false := by simp; omega
    have hle := H.le
    have hcap := H.cap
    have hm : (maxLen : Nat) = 9223372036854775807 := by unfold maxLen; rfl
    go_enter Try.func30, Try.ntmps30
    go_wp2_with fail
    go_loopw [5] (fun i wr => ∃ k : Nat, k ≤ xs.length ∧ i = .int .i64 k ∧ Below w.heap.size w wr ∧ xs.take k = ys.take k) (fun i _ => xs.length - (intOf i).toNat)
    case atStart => exact ⟨0, Nat.zero_le _, rfl, Below.refl _ _, by simp⟩
    case round =>
      obtain ⟨k, hk, rfl, hB, hall⟩ := hrel
      by_cases hlt : k < xs.length
      · have hlt' : (k : Int) < (xs.length : Int) := by omega
        have hlty : k < ys.length := by omega
        have hlty' : (k : Int) < (ys.length : Int) := by omega
        obtain ⟨b, off, ha, hbl, hc⟩ := (flat_str).cell (H.keep (Keeps.of_below hB)) k hlt
        obtain ⟨b', off', ha', hbl', hc'⟩ := (flat_str).cell (H'.keep (Keeps.of_below hB)) k hlty
        rw [ha, ha']
        have hst := fun e => Lib.hid (eq_step hall hlt hlty e)
        have hno := fun e => Lib.hid (eq_not hlt hlty e)
        generalize hX : xs[k] = x at hc hst hno
        generalize hY : ys[k] = y at hc' hst hno
        clear hX hY hall
        have c0 : wr.cell? ⟨b, off + k, none⟩ = some (.string x) := by simpa [strC] using hc 0 _ rfl
        have d0 : wr.cell? ⟨b', off' + k, none⟩ = some (.string y) := by simpa [strC] using hc' 0 _ rfl
        go_upto_region 6 with (fail)
        go_quiet (fail)
        go_wp2_with fail
        · rename_i hq
          have hN := hno (sNe hq)
          go_ret
          exact ⟨by rw [decide_eq_false hN.out]; rfl, below_drewN hB _⟩
        · rename_i hq
          go_roundw
          case rel => exact ⟨k + 1, by omega, by go_num, below_drewN hB _, (hst (sEq hq)).out⟩
          case measure => simp [intOf]; omega
      · obtain rfl : k = xs.length := by omega
        have hR := Lib.hid (eq_all hall hl)
        clear hall
        go_wp2_with fail
        go_ret
        exact ⟨by rw [decide_eq_true hR.out]; rfl, hB⟩
  · have q0 : ((xs.length : Int) != (ys.length : Int)) = true := by simp; omega
    have hR := Lib.hid (eq_len hl)
    clear hl
    go_enter Try.func30, Try.ntmps30
    go_wp2_with fail
    go_ret
    exact ⟨by rw [decide_eq_false hR.out]; rfl, Below.refl _ _⟩
set_option maxRecDepth 100000 in
set_option maxHeartbeats 3200000 in
theorem same10_any (S S' : List Nat) (h h' : NodeH) (x y : NodeV) (w : World) (H : NodeOk w S h x) (H' : NodeOk w S' h' y) :
    Calls Try.prog 16 #[.agg (nodeA h x), .agg (nodeA h' y)] w fun e w' => e = .returned (.bool (decide (x = y))) ∧ Below w.heap.size w w' := by
  have hb : Below w.heap.size w ((w.alloc (.cells (nodeA h x) 32)).alloc (.cells (nodeA h' y) 32)) := by (repeat (first | exact Below.refl _ _ | assumption | refine below_alloc2 ?_ (by first | exact Nat.le_refl _ | omega) _ | refine Below.drew ?_ | refine below_drewN ?_ _ | refine below_push2 ?_ ‹_› (by first | exact Nat.le_refl _ | omega) | refine Below.setCell ?_ (by first | (simp; done) | (simp; omega) | omega) _))
  have BX := (Blk.new w (nodeA h x) 32).alloc (.cells (nodeA h' y) 32)
  have BY : Blk ((w.alloc (.cells (nodeA h x) 32)).alloc (.cells (nodeA h' y) 32)) (w.heap.size + 1) (nodeA h' y) 32 := by
    have := Blk.new (w.alloc (.cells (nodeA h x) 32)) (nodeA h' y) 32
    simpa using this
  generalize hW : (w.alloc (.cells (nodeA h x) 32)).alloc (.cells (nodeA h' y) 32) = w1 at hb BX BY
  replace hW := Lib.hid hW
  have x0 := BX.at 0 rfl
  have x1 := BX.at 1 rfl
  have x2 := BX.at 2 rfl
  have x3 := BX.at 3 rfl
  have x4 := BX.at 4 rfl
  have x5 := BX.at 5 rfl
  have x6 := BX.at 6 rfl
  have x7 := BX.at 7 rfl
  have y0 := BY.at 0 rfl
  have y1 := BY.at 1 rfl
  have y2 := BY.at 2 rfl
  have y3 := BY.at 3 rfl
  have y4 := BY.at 4 rfl
  have y5 := BY.at 5 rfl
  have y6 := BY.at 6 rfl
  have y7 := BY.at 7 rfl
  go_enter Try.func16, Try.ntmps16
  go_upto_region 1 with (fail)
  rw [hW.out]
  go_wp2_with fail
  all_goals first
    | (go_ret
       refine ⟨?_, hb⟩
       have hne : x ≠ y := by
         intro e
         subst e
         clear hb BX BY hW x0 x1 x2 x3 x4 x5 x6 x7 y0 y1 y2 y3 y4 y5 y6 y7 H H'
         simp_all
       rw [decide_eq_false hne]; rfl)
    | skip
  clear hW x0 x1 x2 x3 x4 x5 x6 x7 y0 y1 y2 y3 y4 y5 y6 y7
  have f2 : x.low = y.low := (Lib.bytes_beq_iff _ _).1 (by simpa using (show x.low.toList = y.low.toList by assumption))
  have f3 : x.high = y.high := (Lib.bytes_beq_iff _ _).1 (by simpa using (show x.high.toList = y.high.toList by assumption))
  have f5 : x.next = y.next := by simpa using (show (x.next != y.next) = false by assumption)
  have hE : Hid (x.level = y.level ∧ x.low = y.low ∧ x.high = y.high ∧ x.last = y.last ∧ x.next = y.next) := ⟨by assumption, f2, f3, by assumption, f5⟩
  clear f2 f3 f5
  refine (same04_any S S' h.keys h'.keys x.keys y.keys w1 (H.keys.keep (Keeps.of_below hb)) (H'.keys.keep (Keeps.of_below hb))).mono ?_
  rintro e w2 ⟨rfl, hb2⟩
  have hB := below_push2 hb hb2 (Nat.le_refl _)
  replace BX := BX.below hb2
  replace BY := BY.below hb2
  clear hb hb2
  have x0 := BX.at 0 rfl
  have x1 := BX.at 1 rfl
  have x2 := BX.at 2 rfl
  have x3 := BX.at 3 rfl
  have x4 := BX.at 4 rfl
  have x5 := BX.at 5 rfl
  have x6 := BX.at 6 rfl
  have x7 := BX.at 7 rfl
  have y0 := BY.at 0 rfl
  have y1 := BY.at 1 rfl
  have y2 := BY.at 2 rfl
  have y3 := BY.at 3 rfl
  have y4 := BY.at 4 rfl
  have y5 := BY.at 5 rfl
  have y6 := BY.at 6 rfl
  have y7 := BY.at 7 rfl
  have hm : (maxLen : Nat) = 9223372036854775807 := by unfold maxLen; rfl
  have v1 := H.vals.le
  have v2 := H.vals.cap
  have v3 := H.kids.le
  have v4 := H.kids.cap
  by_cases hk : x.keys = y.keys
  · rw [decide_eq_true hk]
    have hkH := Lib.hid hk
    by_cases hv : x.vals.length = y.vals.length
    · have q1 : ((x.vals.length : Int) != (y.vals.length : Int)) = false := by simp; omega
      by_cases hd : x.kids.length = y.kids.length
      · have q2 : ((x.kids.length : Int) != (y.kids.length : Int)) = false := by simp; omega
        have hv' := Lib.hid hv
        have hd' := Lib.hid hd
        clear hv hd hk
        go_wp2_with fail
        clear q1 q2 x0 x1 x2 x3 x4 x5 x6 x7 y0 y1 y2 y3 y4 y5 y6 y7
        go_loopw [5] (fun i wr => ∃ k : Nat, k ≤ x.vals.length ∧ i = .int .i64 k ∧ Below w.heap.size w wr ∧ Blk wr w.heap.size (nodeA h x) 32 ∧ Blk wr (w.heap.size + 1) (nodeA h' y) 32 ∧ x.vals.take k = y.vals.take k) (fun i _ => x.vals.length - (intOf i).toNat)
        case atStart => exact ⟨0, Nat.zero_le _, rfl, hB, BX, BY, by simp⟩
        clear BX BY hB
        obtain ⟨k, hk, rfl, hB, BX, BY, hall⟩ := hrel
        have x6 := BX.at 6 rfl
        have y6 := BY.at 6 rfl
        by_cases hlt : k < x.vals.length
        · have hlt' : (k : Int) < (x.vals.length : Int) := by omega
          have hlty : k < y.vals.length := by have := (hv').out; omega
          have hlty' : (k : Int) < (y.vals.length : Int) := by omega
          obtain ⟨b, off, ha, hbl, hc⟩ := (flat_u64).cell (H.vals.keep (Keeps.of_below hB)) k hlt
          obtain ⟨b', off', ha', hbl', hc'⟩ := (flat_u64).cell (H'.vals.keep (Keeps.of_below hB)) k hlty
          have hst := fun e => Lib.hid (eq_step hall hlt hlty e)
          have hno := fun e => Lib.hid (eq_not hlt hlty e)
          have c0 : wr.cell? ⟨b, off + k, none⟩ = some (.int .u64 x.vals[k]) := by simpa [intC] using hc 0 _ rfl
          have d0 : wr.cell? ⟨b', off' + k, none⟩ = some (.int .u64 y.vals[k]) := by simpa [intC] using hc' 0 _ rfl
          have p0 : wr.cell? ⟨w.heap.size, 6, none⟩ = some (.slice (some ⟨b, off, none⟩) x.vals.length h.vals.c) := by rw [← ha]; exact x6
          have p1 : wr.cell? ⟨w.heap.size + 1, 6, none⟩ = some (.slice (some ⟨b', off', none⟩) y.vals.length h'.vals.c) := by rw [← ha']; exact y6
          clear hc hc' ha ha' x6 y6 hall
          generalize x.vals[k] = a at c0 hst hno
          generalize y.vals[k] = c at d0 hst hno
          go_upto_region 8 with (fail)
          go_quiet (fail)
          have BX2 := BX.drewN nq
          have BY2 := BY.drewN nq
          go_wp2_with fail
          · rename_i hq
            have hN := Lib.hid (show x ≠ y from fun e => (hno (iNe hq)).out (by rw [e]))
            go_ret
            exact ⟨by rw [decide_eq_false hN.out]; rfl, below_drewN hB _⟩
          · rename_i hq
            go_roundw
            case rel => exact ⟨k + 1, by omega, by go_num, below_drewN hB _, BX2, BY2, (hst (iEq hq)).out⟩
            case measure => simp [intOf]; omega
        obtain rfl : k = x.vals.length := by omega
        have hRvals := Lib.hid (eq_all hall (hv').out)
        clear hall
        go_wp2_with fail
        go_loopw [6] (fun i wr => ∃ k : Nat, k ≤ x.kids.length ∧ i = .int .i64 k ∧ Below w.heap.size w wr ∧ Blk wr w.heap.size (nodeA h x) 32 ∧ Blk wr (w.heap.size + 1) (nodeA h' y) 32 ∧ x.kids.take k = y.kids.take k) (fun i _ => x.kids.length - (intOf i).toNat)
        case atStart => exact ⟨0, Nat.zero_le _, rfl, hB, BX, BY, by simp⟩
        clear BX BY hB
        obtain ⟨k, hk, rfl, hB, BX, BY, hall⟩ := hrel
        have x7 := BX.at 7 rfl
        have y7 := BY.at 7 rfl
        by_cases hlt : k < x.kids.length
        · have hlt' : (k : Int) < (x.kids.length : Int) := by omega
          have hlty : k < y.kids.length := by have := (hd').out; omega
          have hlty' : (k : Int) < (y.kids.length : Int) := by omega
          obtain ⟨b, off, ha, hbl, hc⟩ := (flat_i64).cell (H.kids.keep (Keeps.of_below hB)) k hlt
          obtain ⟨b', off', ha', hbl', hc'⟩ := (flat_i64).cell (H'.kids.keep (Keeps.of_below hB)) k hlty
          have hst := fun e => Lib.hid (eq_step hall hlt hlty e)
          have hno := fun e => Lib.hid (eq_not hlt hlty e)
          have c0 : wr.cell? ⟨b, off + k, none⟩ = some (.int .i64 x.kids[k]) := by simpa [intC] using hc 0 _ rfl
          have d0 : wr.cell? ⟨b', off' + k, none⟩ = some (.int .i64 y.kids[k]) := by simpa [intC] using hc' 0 _ rfl
          have p0 : wr.cell? ⟨w.heap.size, 7, none⟩ = some (.slice (some ⟨b, off, none⟩) x.kids.length h.kids.c) := by rw [← ha]; exact x7
          have p1 : wr.cell? ⟨w.heap.size + 1, 7, none⟩ = some (.slice (some ⟨b', off', none⟩) y.kids.length h'.kids.c) := by rw [← ha']; exact y7
          clear hc hc' ha ha' x7 y7 hall
          generalize x.kids[k] = a at c0 hst hno
          generalize y.kids[k] = c at d0 hst hno
          go_upto_region 13 with (fail)
          go_quiet (fail)
          have BX2 := BX.drewN nq
          have BY2 := BY.drewN nq
          go_wp2_with fail
          · rename_i hq
            have hN := Lib.hid (show x ≠ y from fun e => (hno (iNe hq)).out (by rw [e]))
            go_ret
            exact ⟨by rw [decide_eq_false hN.out]; rfl, below_drewN hB _⟩
          · rename_i hq
            go_roundw
            case rel => exact ⟨k + 1, by omega, by go_num, below_drewN hB _, BX2, BY2, (hst (iEq hq)).out⟩
            case measure => simp [intOf]; omega
        obtain rfl : k = x.kids.length := by omega
        have hRkids := Lib.hid (eq_all hall (hd').out)
        clear hall
        go_wp2_with fail
        go_ret
        exact ⟨by
          obtain ⟨g1, g2, g3, g4, g5⟩ := hE.out
          rw [decide_eq_true (show x = y by cases x; cases y; simp only [NodeV.mk.injEq]; exact ⟨g1, g2, g3, g4, g5, hkH.out, hRvals.out, hRkids.out⟩)]; rfl, hB⟩
      · have q2 : ((x.kids.length : Int) != (y.kids.length : Int)) = true := by simp; omega
        have hN := Lib.hid (show x ≠ y from fun e => hd (by rw [e]))
        clear hv hd hk
        go_wp2_with fail
        go_ret
        exact ⟨by rw [decide_eq_false hN.out]; rfl, hB⟩
    · have q1 : ((x.vals.length : Int) != (y.vals.length : Int)) = true := by simp; omega
      have hN := Lib.hid (show x ≠ y from fun e => hv (by rw [e]))
      clear hv hk
      go_wp2_with fail
      go_ret
      exact ⟨by rw [decide_eq_false hN.out]; rfl, hB⟩
  · rw [decide_eq_false hk]
    go_wp2_with fail
    go_ret
    exact ⟨by rw [decide_eq_false (fun e => hk (by rw [e]))]; rfl, hB⟩
end Go.Proofs.Ytgdeiaholkmfeaa.Dp

/-
  The Sames of answers, plans and blocks, the program's and the document's: contracts.
-/
namespace Go.Proofs.Ytgdeiaholkmfeaa.Dp
open Go.RowKit RefP
set_option linter.unusedVariables false
set_option linter.unusedSimpArgs false
abbrev ansA (h : Hd) (x : AnsV) : Array Value := #[.int .i64 x.code, .string x.key, .int .u64 x.val, .slice h.a x.pairs.length h.c]
/-- a block's cells -/
abbrev blockA (h : BlockH) (x : BlockV) : Array Value := #[.int .i64 x.kind, .int .i64 x.node.level, .string x.node.low, .string x.node.high, .bool x.node.last, .int .i64 x.node.next, .slice h.node.keys.a x.node.keys.length h.node.keys.c, .slice h.node.vals.a x.node.vals.length h.node.vals.c, .slice h.node.kids.a x.node.kids.length h.node.kids.c, .int .i64 x.plan.thread, .int .i64 x.plan.ans.code, .string x.plan.ans.key, .int .u64 x.plan.ans.val, .slice h.plan.pairs.a x.plan.ans.pairs.length h.plan.pairs.c, .slice h.plan.steps.a x.plan.steps.length h.plan.steps.c, .slice h.plan.extra.a x.plan.extra.length h.plan.extra.c, .slice h.pairs.a x.pairs.length h.pairs.c]
theorem block_eq {x y : BlockV} (e0 : x.kind = y.kind) (e1 : x.node = y.node) (e2 : x.plan.thread = y.plan.thread) (e3 : x.plan.ans = y.plan.ans) (e4 : x.plan.steps = y.plan.steps) (e5 : x.plan.extra = y.plan.extra) (e6 : x.pairs = y.pairs) : x = y := by
  obtain ⟨k, n, ⟨t, a, s, e⟩, p⟩ := x
  obtain ⟨k', n', ⟨t', a', s', e'⟩, p'⟩ := y
  simp only at *
  subst e0; subst e1; subst e2; subst e3; subst e4; subst e5; subst e6
  rfl
end Go.Proofs.Ytgdeiaholkmfeaa.Dp

/-
  Deep copies: node.Clone, slices.Clone, memory's copied: contracts.
-/
namespace Go.Proofs.Ytgdeiaholkmfeaa.Dp
open Go.RowKit RefP MemP
set_option linter.unusedVariables false
set_option linter.unusedSimpArgs false
theorem copy_fr {P : Program} {w : World} {ops : Array Oper} {rest : List Oper} {o : Oper} {a : Act} {Q : Exit → Act → World → Prop} (hgd : o.guard = none) (d s : Operand) (dT sT : TypeId)
    (ho : o.op = .call { callee := .builtin .copy, args := #[d, s], argTypes := #[dT, sT] }) (elem : TypeId) (hu : P.underlying dT = some (.slice elem)) (hsz : (P.info? elem).map (·.size) = some 1)
    (dp sp : Option Addr) (dLen dCap sLen sCap : Nat) (hd : a.eval d = .slice dp dLen dCap) (hs : a.eval s = .slice sp sLen sCap)
    (g off : Nat) (cur : List Value) (t : TypeId) (hg : w.heap[g]? = some (.cells cur.toArray t (0, 0))) (cs : List Value) (hn : cs.length = Nat.min sLen dLen)
    (hpos : 0 < cs.length → dp = some ⟨g, off, none⟩ ∧ ∃ ad, sp = some ad ∧ ∀ j v, cs[j]? = some v → w.cell? (ad.add j) = some v)
    (hfit : off + cs.length ≤ cur.length) (h1 : ∀ v ∈ cs, v.oneCell' = true)
    (h : ∀ w', Hid (w'.heap[g]? = some (.cells (splice cur off cs).toArray t (0, 0))) → Fr [g] w w' → wpList P ops Q rest (a.put o.dst (goInt cs.length)) w') :
    wpList P ops Q (o :: rest) a w := by
  by_cases h0 : cs.length = 0
  · obtain rfl : cs = [] := List.eq_nil_of_length_eq_zero h0
    refine wpList_copy_nothing hgd d s dT sT ho elem hu hsz dp sp dLen dCap sLen sCap hd hs (by simpa using hn.symm) ?_
    exact h w (show _ = _ by simpa [splice] using hg) (Fr.refl _ _)
  · obtain ⟨rfl, ad, rfl, hsrc⟩ := hpos (by omega)
    refine wpList_copy_own hgd d s dT sT ho elem hu hsz g off dLen dCap ad sLen sCap hd hs cur.toArray t hg cs hn hsrc (by simpa using hfit) h1 ?_
    exact h _ (show _ = _ by simpa [splice] using setRow_heap w g _ _ t _ hg) (Fr.row g _ (by simp))
theorem add_off (b off i : Nat) : (⟨b, off, none⟩ : Addr).add i = ⟨b, off + i, none⟩ := by
  unfold Addr.add
  by_cases h : i = 0 <;> simp [h]
/-- the cells of a row of elements of one cell, in order -/
theorem src1 {α : Type} {C : Cod α} (f : α → Value) (F : Flat C (fun x => [f x])) {w : World} {S : List Nat} {h : Hd} {xs : List α} (H : HRow C w S h xs) : 0 < (xs.map f).length → ∃ ad, h.a = some ad ∧ ∀ j v, (xs.map f)[j]? = some v → w.cell? (ad.add j) = some v := by
  intro h0
  have hk : C.k = 1 := by
    cases xs with
    | nil => simp at h0
    | cons x _ => rw [← F.len x]; rfl
  obtain ⟨b, off, e, hb, hc⟩ := F.cells H (by simpa using h0)
  refine ⟨_, e, fun j v hj => ?_⟩
  rw [List.getElem?_map] at hj
  cases hx : xs[j]? with
  | none => simp [hx] at hj
  | some x =>
    simp [hx] at hj
    subst hj
    obtain ⟨hi, hxi⟩ := List.getElem?_eq_some_iff.1 hx
    have := hc j hi 0 _ rfl
    rw [hk, Nat.mul_one, Nat.add_zero, hxi] at this
    rw [add_off]; exact this
/-- a block that has them -/
theorem row1 {α : Type} {C : Cod α} (f : α → Value) (F : Flat C (fun x => [f x])) {w w0 : World} {S S0 : List Nat} {b : Nat} {xs : List α} {T : TypeId} (B : Blk w b (xs.map f).toArray T) (hx : ∀ x ∈ xs, ∃ cs, C.rep w0 S0 cs x) (hS : b ∉ S) (hl : xs.length ≤ maxLen) : HRow C w S ⟨some ⟨b, 0, none⟩, xs.length⟩ xs := by
  refine ⟨Nat.le_refl _, hl, fun h0 => ⟨b, 0, rfl, B.lt, hS, fun i x hi => ?_⟩⟩
  obtain ⟨hil, hxi⟩ := List.getElem?_eq_some_iff.1 hi
  subst hxi
  obtain ⟨cs, hr⟩ := hx _ (List.getElem_mem hil)
  have := F.eq hr
  subst this
  have hk : C.k = 1 := by rw [← F.len xs[i]]; rfl
  refine ⟨_, F.any hr, fun j v hj => ?_⟩
  cases j with
  | zero =>
    simp at hj
    subst hj
    rw [hk, Nat.mul_one, Nat.add_zero, Nat.zero_add]
    exact B.at i (by simp [hil])
  | succ j => simp at hj
/-- a row of zeros that was made -/
abbrev zrow (z : Value) (n : Nat) : Array Value := madeCells #[z] n
abbrev hd1 (b n : Nat) : Value := .slice (some ⟨b, 0, none⟩) n n
theorem infoS : (Try.prog.info? 9).map (fun i => (i.zero, i.size, i.bytes)) = some (some (.string ⟨#[]⟩), 1, 16) := by kernel_rfl
theorem infoU : (Try.prog.info? 27).map (fun i => (i.zero, i.size, i.bytes)) = some (some (.int .u64 0), 1, 8) := by kernel_rfl
theorem infoI : (Try.prog.info? 3).map (fun i => (i.zero, i.size, i.bytes)) = some (some (.int .i64 0), 1, 8) := by kernel_rfl
theorem mk_u {P : Program} (t e : TypeId) (z : Value) (by_ : Nat) (ht : P.underlying t = some (.slice e)) (hi : (P.info? e).map (fun i => (i.zero, i.size, i.bytes)) = some (some z, 1, by_)) (hz : z.cells = #[z]) (n : Nat) (hb : by_ * n ≤ 281474976710656) (h63 : n ≤ 9223372036854775807) (w : World) :
    (Instr.makeSlice t (.int .i64 (n : Int)) (.int .i64 (n : Int))).run P w = .ok (.slice (some ⟨w.heap.size, 0, none⟩) n n) (w.alloc (.cells (zrow z n) e)) := by
  obtain ⟨i0, hi, hz0, hz1, hz2⟩ := info_parts' hi
  have hb' : (i0.bytes : Int) * (n : Int) ≤ 281474976710656 := by
    have h : ((i0.bytes * n : Nat) : Int) ≤ 281474976710656 := by rw [hz2]; omega
    rwa [Int.natCast_mul] at h
  have hr := run_make (P := P) w t e i0 z ht hi hz0 .i64 .i64 n n (by omega) (by omega) hb' (by omega)
  simp only [Int.toNat_natCast, hz1, Nat.mul_one, hz] at hr
  exact hr
end Go.Proofs.Ytgdeiaholkmfeaa.Dp

/-
  node.Clone of any node: contract.
-/
namespace Go.Proofs.Ytgdeiaholkmfeaa.Dp
open Go.RowKit RefP MemP
set_option linter.unusedVariables false
set_option linter.unusedSimpArgs false
abbrev ndZ : Array Value := #[.int .i64 0, .string ⟨#[]⟩, .string ⟨#[]⟩, .bool false, .int .i64 0, .slice none 0 0, .slice none 0 0, .slice none 0 0]
theorem splice_all' {α : Type} (L cs : List α) (h : L.length = cs.length) : splice L 0 cs = cs := by simp [splice, ← h]
/-- what makes three rows leaves -/
structure Made3 (w0 w w' : World) (h : NodeH) (x : NodeV) (b1 b2 b3 : Nat) : Prop where
  below : Below w0.heap.size w0 w'
  n : Blk w' w0.heap.size (nodeA h x) 32
  r : Blk w' (w0.heap.size + 1) ndZ 32
  k : Blk w' b1 (zrow (.string ⟨#[]⟩) x.keys.length) 9
  v : Blk w' b2 (zrow (.int .u64 0) x.vals.length) 27
  d : Blk w' b3 (zrow (.int .i64 0) x.kids.length) 3
  ge : w0.heap.size + 2 ≤ b1 ∧ w0.heap.size + 2 ≤ b2 ∧ w0.heap.size + 2 ≤ b3
  ne : b1 ≠ b2 ∧ b1 ≠ b3 ∧ b2 ≠ b3
set_option maxRecDepth 100000 in
set_option maxHeartbeats 3200000 in
theorem nclone_any (S : List Nat) (h : NodeH) (x : NodeV) (w : World) (H : NodeOk w S h x) (hk : x.keys.length ≤ 1000) (hv : x.vals.length ≤ 1000) (hd : x.kids.length ≤ 1000) :
    Calls Try.prog 46 #[.agg (nodeA h x)] w fun e w' => (∃ h', e = .returned (.agg (nodeA h' x)) ∧ NodeOk w' (List.range w.heap.size) h' x) ∧ Below w.heap.size w w' := by
  have hb0 : Below w.heap.size w ((w.alloc (.cells (nodeA h x) 32)).alloc (.cells ndZ 32)) := by (repeat (first | exact Below.refl _ _ | assumption | refine below_alloc2 ?_ (by first | exact Nat.le_refl _ | omega) _ | refine Below.drew ?_ | refine below_drewN ?_ _ | refine below_push2 ?_ ‹_› (by first | exact Nat.le_refl _ | omega) | refine Below.setCell ?_ (by first | (simp; done) | (simp; omega) | omega) _))
  have BN := (Blk.new w (nodeA h x) 32).alloc (.cells ndZ 32)
  have BR : Blk ((w.alloc (.cells (nodeA h x) 32)).alloc (.cells ndZ 32)) (w.heap.size + 1) ndZ 32 := by
    have := Blk.new (w.alloc (.cells (nodeA h x) 32)) ndZ 32
    simpa using this
  have m1 := mk_u (P := Try.prog) 28 9 _ _ Try.underlying28 infoS (by simp [Value.cells]) x.keys.length (by omega) (by omega)
  have m2 := mk_u (P := Try.prog) 29 27 _ _ Try.underlying29 infoU (by simp [Value.cells]) x.vals.length (by omega) (by omega)
  have m3 := mk_u (P := Try.prog) 30 3 _ _ Try.underlying30 infoI (by simp [Value.cells]) x.kids.length (by omega) (by omega)
  have hs : ((w.alloc (.cells (nodeA h x) 32)).alloc (.cells ndZ 32)).heap.size = w.heap.size + 2 := by simp
  go_enter Try.func46, Try.ntmps46
  go_wp2_with fail
  generalize ((w.alloc (.cells (nodeA h x) 32)).alloc (.cells ndZ 32)) = w1 at hb0 BN BR hs ⊢
  have c5 := BN.at 5 rfl
  have c6 := BN.at 6 rfl
  have c7 := BN.at 7 rfl
  go_upto_region 1 with (fail)
  have f1 : ∀ (c : Array Value) (T : TypeId) (Y Z : Obj), Blk (((w1.alloc (.cells c T)).alloc Y).alloc Z).drew (w.heap.size + 2) c T := fun c T Y Z => by
    have := (((Blk.new w1 c T).alloc Y).alloc Z).drew
    rwa [hs] at this
  have f2 : ∀ (c : Array Value) (T : TypeId) (Y Z : Obj), Blk (((w1.alloc Y).alloc (.cells c T)).alloc Z).drew (w.heap.size + 2 + 1) c T := fun c T Y Z => by
    have := ((Blk.new (w1.alloc Y) c T).alloc Z).drew
    rwa [World.size_alloc, hs] at this
  have f3 : ∀ (c : Array Value) (T : TypeId) (Y Z : Obj), Blk (((w1.alloc Y).alloc Z).alloc (.cells c T)).drew (w.heap.size + 2 + 1 + 1) c T := fun c T Y Z => by
    have := (Blk.new ((w1.alloc Y).alloc Z) c T).drew
    rwa [World.size_alloc, World.size_alloc, hs] at this
  go_cut [3, 4, 5] (fun u3 u4 u5 wx => ∃ b1 b2 b3, u3 = hd1 b1 x.keys.length ∧ u4 = hd1 b2 x.vals.length ∧ u5 = hd1 b3 x.kids.length ∧ Made3 w w1 wx h x b1 b2 b3)
  case first =>
    go_region_held (fun w' => w'.cell? ⟨w.heap.size, 5, none⟩ = some (.slice h.keys.a x.keys.length h.keys.c) ∧ w'.cell? ⟨w.heap.size, 6, none⟩ = some (.slice h.vals.a x.vals.length h.vals.c) ∧ w'.cell? ⟨w.heap.size, 7, none⟩ = some (.slice h.kids.a x.kids.length h.kids.c)) (first | exact ⟨BN.drew.at 5 rfl, BN.drew.at 6 rfl, BN.drew.at 7 rfl⟩ | exact ⟨(BN.alloc _).drew.at 5 rfl, (BN.alloc _).drew.at 6 rfl, (BN.alloc _).drew.at 7 rfl⟩ | exact ⟨((BN.alloc _).alloc _).drew.at 5 rfl, ((BN.alloc _).alloc _).drew.at 6 rfl, ((BN.alloc _).alloc _).drew.at 7 rfl⟩ | exact ⟨(((BN.alloc _).alloc _).alloc _).drew.at 5 rfl, (((BN.alloc _).alloc _).alloc _).drew.at 6 rfl, (((BN.alloc _).alloc _).alloc _).drew.at 7 rfl⟩) (fail)
    all_goals
      go_wp2_with fail
      go_meet
      refine ⟨_, _, _, rfl, rfl, rfl, (((hb0.alloc (by omega) _).alloc (by simp; omega) _).alloc (by simp; omega) _).drew, (((BN.alloc _).alloc _).alloc _).drew, (((BR.alloc _).alloc _).alloc _).drew, ?_, ?_, ?_, ⟨by omega, by omega, by omega⟩, ⟨by omega, by omega, by omega⟩⟩ <;>
        first
          | exact f1 _ _ _ _
          | exact f2 _ _ _ _
          | exact f3 _ _ _ _
  case rest =>
    obtain ⟨b1, b2, b3, rfl, rfl, rfl, M⟩ := hcut
    clear hb0 BN BR c5 c6 c7 hs m1 m2 m3 f1 f2 f3
    have c5 := M.n.at 5 rfl
    have c6 := M.n.at 6 rfl
    have c7 := M.n.at 7 rfl
    have hkk := Keeps.of_below (S := S) M.below
    have kH := H.keep hkk
    have z1 : (Try.prog.info? 9).map (·.size) = some 1 := by kernel_rfl
    have z2 : (Try.prog.info? 27).map (·.size) = some 1 := by kernel_rfl
    have z3 : (Try.prog.info? 3).map (·.size) = some 1 := by kernel_rfl
    have l1 : (zrow (.string ⟨#[]⟩) x.keys.length).toList.length = (x.keys.map Value.string).length := by simp [size_madeCells]
    have l2 : (zrow (.int .u64 0) x.vals.length).toList.length = (x.vals.map (Value.int .u64)).length := by simp [size_madeCells]
    have l3 : (zrow (.int .i64 0) x.kids.length).toList.length = (x.kids.map (Value.int .i64)).length := by simp [size_madeCells]
    have n1 : (x.keys.map Value.string).length = Nat.min x.keys.length x.keys.length := by simp
    have n2 : (x.vals.map (Value.int .u64)).length = Nat.min x.vals.length x.vals.length := by simp
    have n3 : (x.kids.map (Value.int .i64)).length = Nat.min x.kids.length x.kids.length := by simp
    have h1 : wc.heap[b1]? = some (.cells (zrow (.string ⟨#[]⟩) x.keys.length).toList.toArray 9 (0, 0)) := by simpa using M.k.h
    have hl := M.below.size
    obtain ⟨ge1, ge2, ge3⟩ := M.ge
    obtain ⟨ne1, ne2, ne3⟩ := M.ne
    go_upto_region 2 with (fail)
    go_upto_region 3 with (refine copy_fr (o := ⟨some _, _, _, _, _, _⟩) rfl _ _ 28 28 rfl 9 Try.underlying28 z1 _ _ _ _ _ _ (by rfl) (by rfl) b1 0 (zrow (.string ⟨#[]⟩) x.keys.length).toList 9 h1 (x.keys.map Value.string) n1 (fun h0 => ⟨rfl, src1 Value.string flat_str kH.keys h0⟩) (by omega) (fun v hv => by simp at hv; obtain ⟨s, _, rfl⟩ := hv; rfl) ?_; intro w2 hg2 hF2)
    have hg2' := hg2.out
    rw [splice_all' _ _ l1] at hg2'
    have BK : Blk w2 b1 (x.keys.map Value.string).toArray 9 := ⟨hg2'⟩
    have hB2 := hF2.below M.below (Nat.le_refl _) (by simp; omega)
    have N2 := hF2.blk M.n (by simp; omega)
    have R2 := hF2.blk M.r (by simp; omega)
    have V2 := hF2.blk M.v (by simp; omega)
    have D2 := hF2.blk M.d (by simp; omega)
    have kH2 := H.keep (Keeps.of_below (S := S) hB2)
    clear hg2 hg2' hF2 c5 c6 c7 kH hkk h1 M
    have h2 : w2.heap[b2]? = some (.cells (zrow (.int .u64 0) x.vals.length).toList.toArray 27 (0, 0)) := by simpa using V2.h
    have c6 := N2.at 6 rfl
    go_upto_region 4 with (refine copy_fr (o := ⟨some _, _, _, _, _, _⟩) rfl _ _ 29 29 rfl 27 Try.underlying29 z2 _ _ _ _ _ _ (by rfl) (by rfl) b2 0 (zrow (.int .u64 0) x.vals.length).toList 27 h2 (x.vals.map (Value.int .u64)) n2 (fun h0 => ⟨rfl, src1 (Value.int .u64) flat_u64 kH2.vals h0⟩) (by omega) (fun v hv => by simp at hv; obtain ⟨s, _, rfl⟩ := hv; rfl) ?_; intro w3 hg3 hF3)
    have hg3' := hg3.out
    rw [splice_all' _ _ l2] at hg3'
    have BV : Blk w3 b2 (x.vals.map (Value.int .u64)).toArray 27 := ⟨hg3'⟩
    have hB3 := hF3.below hB2 (Nat.le_refl _) (by simp; omega)
    have N3 := hF3.blk N2 (by simp; omega)
    have R3 := hF3.blk R2 (by simp; omega)
    have K3 := hF3.blk BK (by simp; omega)
    have D3 := hF3.blk D2 (by simp; omega)
    have kH3 := H.keep (Keeps.of_below (S := S) hB3)
    clear hg3 hg3' hF3 c6 kH2 h2 N2 R2 V2 D2 BK hB2
    have h3 : w3.heap[b3]? = some (.cells (zrow (.int .i64 0) x.kids.length).toList.toArray 3 (0, 0)) := by simpa using D3.h
    have c7 := N3.at 7 rfl
    go_upto_region 5 with (refine copy_fr (o := ⟨some _, _, _, _, _, _⟩) rfl _ _ 30 30 rfl 3 Try.underlying30 z3 _ _ _ _ _ _ (by rfl) (by rfl) b3 0 (zrow (.int .i64 0) x.kids.length).toList 3 h3 (x.kids.map (Value.int .i64)) n3 (fun h0 => ⟨rfl, src1 (Value.int .i64) flat_i64 kH3.kids h0⟩) (by omega) (fun v hv => by simp at hv; obtain ⟨s, _, rfl⟩ := hv; rfl) ?_; intro w4 hg4 hF4)
    have hg4' := hg4.out
    rw [splice_all' _ _ l3] at hg4'
    have D4 : Blk w4 b3 (x.kids.map (Value.int .i64)).toArray 3 := ⟨hg4'⟩
    have hB4 := hF4.below hB3 (Nat.le_refl _) (by simp; omega)
    have N4 := hF4.blk N3 (by simp; omega)
    have R4 := hF4.blk R3 (by simp; omega)
    have K4 := hF4.blk K3 (by simp; omega)
    have V4 := hF4.blk BV (by simp; omega)
    clear hg4 hg4' hF4 c7 kH3 h3 N3 R3 D3 K3 BV hB3
    have f5 := N4.free 5
    have f6 := N4.free 6
    have f7 := N4.free 7
    have c5 := N4.at 5 rfl
    have c6 := N4.at 6 rfl
    have c7 := N4.at 7 rfl
    generalize hh : (⟨⟨some ⟨b1, 0, none⟩, x.keys.length⟩, ⟨some ⟨b2, 0, none⟩, x.vals.length⟩, ⟨some ⟨b3, 0, none⟩, x.kids.length⟩⟩ : NodeH) = h'
    have BF : Blk (((w4.setCell ⟨w.heap.size, 5, none⟩ (hd1 b1 x.keys.length)).setCell ⟨w.heap.size, 6, none⟩ (hd1 b2 x.vals.length)).setCell ⟨w.heap.size, 7, none⟩ (hd1 b3 x.kids.length)) w.heap.size (nodeA h' x) 32 := by
      subst hh
      simpa [nodeA] using ((N4.set 5 (hd1 b1 x.keys.length)).set 6 (hd1 b2 x.vals.length)).set 7 (hd1 b3 x.kids.length)
    have far : ∀ {b : Nat} {cs : Array Value} {T : TypeId}, Blk w4 b cs T → b ≠ w.heap.size → Blk (((w4.setCell ⟨w.heap.size, 5, none⟩ (hd1 b1 x.keys.length)).setCell ⟨w.heap.size, 6, none⟩ (hd1 b2 x.vals.length)).setCell ⟨w.heap.size, 7, none⟩ (hd1 b3 x.kids.length)) b cs T := fun B hn =>
      ((B.far ⟨w.heap.size, 5, none⟩ _ hn).far ⟨w.heap.size, 6, none⟩ _ hn).far ⟨w.heap.size, 7, none⟩ _ hn
    have RF := far R4 (by omega)
    have KF := far K4 (by omega)
    have VF := far V4 (by omega)
    have DF := far D4 (by omega)
    have hbF := ((hB4.setCell (p := ⟨w.heap.size, 5, none⟩) (Nat.le_refl _) (hd1 b1 x.keys.length)).setCell (p := ⟨w.heap.size, 6, none⟩) (Nat.le_refl _) (hd1 b2 x.vals.length)).setCell (p := ⟨w.heap.size, 7, none⟩) (Nat.le_refl _) (hd1 b3 x.kids.length)
    go_wp2_with (first
      | (refine wpList_load_row rfl 32 _ rfl w.heap.size rfl 32 _ (0, 0) _ BF.h Try.underlying32 rfl (by kernel_rfl) ?_)
      | (refine wpList_store_row rfl 32 _ _ rfl (w.heap.size + 1) _ rfl rfl 32 _ RF.h (by kernel_rfl) (by rfl) (by kernel_rfl) ?_))
    refine bodyPost_ret (results_cell_row rfl _ _ (w.heap.size + 1) 32 (nodeA h' x) (0, 0) _ rfl (Blk.row RF (nodeA h' x)).h Try.underlying32 rfl (by kernel_rfl)) rfl ⟨⟨h', rfl, ?_⟩, below_setRow hbF (by omega) _⟩
    have hm : (maxLen : Nat) = 9223372036854775807 := by unfold maxLen; rfl
    have FR := Fr.row (S := [w.heap.size + 1]) (w := (((w4.setCell ⟨w.heap.size, 5, none⟩ (hd1 b1 x.keys.length)).setCell ⟨w.heap.size, 6, none⟩ (hd1 b2 x.vals.length)).setCell ⟨w.heap.size, 7, none⟩ (hd1 b3 x.kids.length))) (w.heap.size + 1) (nodeA h' x) (by simp)
    have K5 := FR.blk KF (by simp; omega)
    have V5 := FR.blk VF (by simp; omega)
    have D5 := FR.blk DF (by simp; omega)
    subst hh
    exact ⟨H.level, H.low, H.high, H.next, row1 Value.string flat_str K5 H.keys.all (by simp; omega) (by omega), row1 (Value.int .u64) flat_u64 V5 H.vals.all (by simp; omega) (by omega), row1 (Value.int .i64) flat_i64 D5 H.kids.all (by simp; omega) (by omega)⟩
end Go.Proofs.Ytgdeiaholkmfeaa.Dp

/-
  slices.Clone of steps, words and pairs: contracts.
-/
namespace Go.Proofs.Ytgdeiaholkmfeaa.Dp
open Go.RowKit RefP MemP
set_option linter.unusedVariables false
set_option linter.unusedSimpArgs false
theorem infoPair : (Try.prog.info? 104).map (fun i => (i.zero, i.size, i.bytes)) = some (some (.agg #[.string ⟨#[]⟩, .int .u64 0]), 2, 24) := by kernel_rfl
theorem infoStep : (Try.prog.info? 100).map (fun i => (i.zero, i.size, i.bytes)) = some (some (.agg #[.int .i64 0, .int .u64 0, .int .u64 0, .int .u64 0, .bool false]), 5, 40) := by kernel_rfl
/-- what a copy of a row is -/
structure Copied {α : Type} (C : Cod α) (w w' : World) (e : Ending) (xs : List α) : Prop where
  ret : ∃ h' : Hd, e = .returned (.slice h'.a xs.length h'.c) ∧ HRow C w' (List.range w.heap.size) h' xs
  below : Below w.heap.size w w'
set_option maxRecDepth 100000 in
set_option maxHeartbeats 1600000 in
theorem clPair_any (S : List Nat) (h : Hd) (xs : List (PairV)) (w : World) (H : HRow pairT w S h xs) (hl : xs.length ≤ 1000) :
    Calls Try.prog 49 #[.slice h.a xs.length h.c] w (fun e w' => Copied pairT w w' e xs) := by
  have hnil : ∀ (w : World) (a : Option Addr) (n c : Nat), (binOp .eql 33 (.slice a n c) (.slice none 0 0)).run Try.prog w = .ok (.bool a.isNone) w := fun w a n c => Lib.run_eql_slice_nil w _ _ a n c 0 0 Try.underlying33
  cases ha : h.a with
  | none =>
    have hx : xs = [] := by
      cases xs with
      | nil => rfl
      | cons x l =>
        obtain ⟨b, off, e, _⟩ := H.row (by simp)
        rw [ha] at e; cases e
    subst hx
    have h0 := hnil w none 0 h.c
    go_enter Try.func49, Try.ntmps49
    go_wp2_with fail
    go_ret
    exact ⟨⟨Hd.nil, rfl, HRow.nil _ _ _⟩, Below.refl _ _⟩
  | some ad =>
    have h0 := fun w => hnil w (some ad) xs.length h.c
    have hm : (maxLen : Nat) = 9223372036854775807 := by unfold maxLen; rfl
    have hb1 : Below w.heap.size w (w.alloc (.cells #[] 104)) := (Below.refl _ w).alloc (Nat.le_refl _) _
    have O := OwnR.empty 2 (flatF pairL) ⟨⟨#[]⟩, 0⟩ w w.heap.size 104 (Nat.le_refl _)
    have R := (flat_pair).recs ⟨⟨#[]⟩, 0⟩ (H.keep (Keeps.of_below hb1))
    rw [ha] at R
    obtain ⟨i0, hi, hz0, hz1, hz2⟩ := info_parts' infoPair
    have A : ∃ g cap w', AddedR Try.prog 2 (flatF pairL) ⟨⟨#[]⟩, 0⟩ (w.alloc (.cells #[] 104)) w.heap.size 33 104 (some ⟨w.heap.size, 0, none⟩) 0 [] (.slice (some ad) xs.length h.c) xs.length xs g cap w' := by
      by_cases hx : 0 < xs.length
      · exact addRecs (c' := h.c) w.heap.size 33 104 i0 _ 24 Try.underlying33 hi hz0 hz1 hz2 (by simp [Value.cells]) (by decide) (flat_pair).oneF O R hx (by simp; omega) (by simp; omega) (by simp)
      · obtain rfl : xs = [] := List.eq_nil_of_length_eq_zero (by omega)
        exact ⟨_, _, _, addRecs_zero w.heap.size w.heap.size 33 104 i0 Try.underlying33 hi O (some ad) h.c⟩
    obtain ⟨g, cap, wa, A⟩ := A
    have hrun := fun ty => A.run ty
    simp only [List.length_nil, Nat.zero_add] at hrun
    replace hrun := Lib.hid hrun
    go_enter Try.func49, Try.ntmps49
    go_wp2_with (at_builtin; refine wpList_append_run hrun.out rfl (by rfl) (by rfl) (by rfl) ?_)
    go_ret
    have hb2 : Below w.heap.size w wa := A.keeps (fun k e => (O.lt k e).1) w w.heap.size (Nat.le_refl _) hb1 (by simp)
    have hcap : xs.length ≤ cap ∧ cap ≤ maxLen := by
      rcases A.own.own.2 with ⟨q, _⟩ | ⟨g', cap', cur, q, _, _, h1, h2, _⟩
      · cases q
      · injection q with _ _ q3
        subst q3
        exact ⟨h1, h2⟩
    refine ⟨⟨⟨some ⟨g, 0, none⟩, cap⟩, rfl, (flat_pair).back A.own.read H.all (fun b off e => ?_) hcap.1 hcap.2⟩, hb2⟩
    injection e with e
    injection e with e1
    subst e1
    have := A.ge
    simp
    omega
set_option maxRecDepth 100000 in
set_option maxHeartbeats 1600000 in
theorem clU64_any (S : List Nat) (h : Hd) (xs : List (Int)) (w : World) (H : HRow u64C w S h xs) (hl : xs.length ≤ 1000) :
    Calls Try.prog 48 #[.slice h.a xs.length h.c] w (fun e w' => Copied u64C w w' e xs) := by
  have hnil : ∀ (w : World) (a : Option Addr) (n c : Nat), (binOp .eql 29 (.slice a n c) (.slice none 0 0)).run Try.prog w = .ok (.bool a.isNone) w := fun w a n c => Lib.run_eql_slice_nil w _ _ a n c 0 0 Try.underlying29
  cases ha : h.a with
  | none =>
    have hx : xs = [] := by
      cases xs with
      | nil => rfl
      | cons x l =>
        obtain ⟨b, off, e, _⟩ := H.row (by simp)
        rw [ha] at e; cases e
    subst hx
    have h0 := hnil w none 0 h.c
    go_enter Try.func48, Try.ntmps48
    go_wp2_with fail
    go_ret
    exact ⟨⟨Hd.nil, rfl, HRow.nil _ _ _⟩, Below.refl _ _⟩
  | some ad =>
    have h0 := fun w => hnil w (some ad) xs.length h.c
    have hm : (maxLen : Nat) = 9223372036854775807 := by unfold maxLen; rfl
    have hb1 : Below w.heap.size w (w.alloc (.cells #[] 27)) := (Below.refl _ w).alloc (Nat.le_refl _) _
    have O := OwnR.empty 1 (flatF (fun n => [.int .u64 n])) 0 w w.heap.size 27 (Nat.le_refl _)
    have R := (flat_u64).recs 0 (H.keep (Keeps.of_below hb1))
    rw [ha] at R
    obtain ⟨i0, hi, hz0, hz1, hz2⟩ := info_parts' infoU
    have A : ∃ g cap w', AddedR Try.prog 1 (flatF (fun n => [.int .u64 n])) 0 (w.alloc (.cells #[] 27)) w.heap.size 29 27 (some ⟨w.heap.size, 0, none⟩) 0 [] (.slice (some ad) xs.length h.c) xs.length xs g cap w' := by
      by_cases hx : 0 < xs.length
      · exact addRecs (c' := h.c) w.heap.size 29 27 i0 _ 8 Try.underlying29 hi hz0 hz1 hz2 (by simp [Value.cells]) (by decide) (flat_u64).oneF O R hx (by simp; omega) (by simp; omega) (by simp)
      · obtain rfl : xs = [] := List.eq_nil_of_length_eq_zero (by omega)
        exact ⟨_, _, _, addRecs_zero w.heap.size w.heap.size 29 27 i0 Try.underlying29 hi O (some ad) h.c⟩
    obtain ⟨g, cap, wa, A⟩ := A
    have hrun := fun ty => A.run ty
    simp only [List.length_nil, Nat.zero_add] at hrun
    replace hrun := Lib.hid hrun
    go_enter Try.func48, Try.ntmps48
    go_wp2_with (at_builtin; refine wpList_append_run hrun.out rfl (by rfl) (by rfl) (by rfl) ?_)
    go_ret
    have hb2 : Below w.heap.size w wa := A.keeps (fun k e => (O.lt k e).1) w w.heap.size (Nat.le_refl _) hb1 (by simp)
    have hcap : xs.length ≤ cap ∧ cap ≤ maxLen := by
      rcases A.own.own.2 with ⟨q, _⟩ | ⟨g', cap', cur, q, _, _, h1, h2, _⟩
      · cases q
      · injection q with _ _ q3
        subst q3
        exact ⟨h1, h2⟩
    refine ⟨⟨⟨some ⟨g, 0, none⟩, cap⟩, rfl, (flat_u64).back A.own.read H.all (fun b off e => ?_) hcap.1 hcap.2⟩, hb2⟩
    injection e with e
    injection e with e1
    subst e1
    have := A.ge
    simp
    omega
set_option maxRecDepth 100000 in
set_option maxHeartbeats 1600000 in
theorem clStep_any (S : List Nat) (h : Hd) (xs : List (StepV)) (w : World) (H : HRow stepT w S h xs) (hl : xs.length ≤ 1000) :
    Calls Try.prog 47 #[.slice h.a xs.length h.c] w (fun e w' => Copied stepT w w' e xs) := by
  have hnil : ∀ (w : World) (a : Option Addr) (n c : Nat), (binOp .eql 36 (.slice a n c) (.slice none 0 0)).run Try.prog w = .ok (.bool a.isNone) w := fun w a n c => Lib.run_eql_slice_nil w _ _ a n c 0 0 Try.underlying36
  cases ha : h.a with
  | none =>
    have hx : xs = [] := by
      cases xs with
      | nil => rfl
      | cons x l =>
        obtain ⟨b, off, e, _⟩ := H.row (by simp)
        rw [ha] at e; cases e
    subst hx
    have h0 := hnil w none 0 h.c
    go_enter Try.func47, Try.ntmps47
    go_wp2_with fail
    go_ret
    exact ⟨⟨Hd.nil, rfl, HRow.nil _ _ _⟩, Below.refl _ _⟩
  | some ad =>
    have h0 := fun w => hnil w (some ad) xs.length h.c
    have hm : (maxLen : Nat) = 9223372036854775807 := by unfold maxLen; rfl
    have hb1 : Below w.heap.size w (w.alloc (.cells #[] 100)) := (Below.refl _ w).alloc (Nat.le_refl _) _
    have O := OwnR.empty 5 (flatF stepL) ⟨0, 0, 0, 0, false⟩ w w.heap.size 100 (Nat.le_refl _)
    have R := (flat_step).recs ⟨0, 0, 0, 0, false⟩ (H.keep (Keeps.of_below hb1))
    rw [ha] at R
    obtain ⟨i0, hi, hz0, hz1, hz2⟩ := info_parts' infoStep
    have A : ∃ g cap w', AddedR Try.prog 5 (flatF stepL) ⟨0, 0, 0, 0, false⟩ (w.alloc (.cells #[] 100)) w.heap.size 36 100 (some ⟨w.heap.size, 0, none⟩) 0 [] (.slice (some ad) xs.length h.c) xs.length xs g cap w' := by
      by_cases hx : 0 < xs.length
      · exact addRecs (c' := h.c) w.heap.size 36 100 i0 _ 40 Try.underlying36 hi hz0 hz1 hz2 (by simp [Value.cells]) (by decide) (flat_step).oneF O R hx (by simp; omega) (by simp; omega) (by simp)
      · obtain rfl : xs = [] := List.eq_nil_of_length_eq_zero (by omega)
        exact ⟨_, _, _, addRecs_zero w.heap.size w.heap.size 36 100 i0 Try.underlying36 hi O (some ad) h.c⟩
    obtain ⟨g, cap, wa, A⟩ := A
    have hrun := fun ty => A.run ty
    simp only [List.length_nil, Nat.zero_add] at hrun
    replace hrun := Lib.hid hrun
    go_enter Try.func47, Try.ntmps47
    go_wp2_with (at_builtin; refine wpList_append_run hrun.out rfl (by rfl) (by rfl) (by rfl) ?_)
    go_ret
    have hb2 : Below w.heap.size w wa := A.keeps (fun k e => (O.lt k e).1) w w.heap.size (Nat.le_refl _) hb1 (by simp)
    have hcap : xs.length ≤ cap ∧ cap ≤ maxLen := by
      rcases A.own.own.2 with ⟨q, _⟩ | ⟨g', cap', cur, q, _, _, h1, h2, _⟩
      · cases q
      · injection q with _ _ q3
        subst q3
        exact ⟨h1, h2⟩
    refine ⟨⟨⟨some ⟨g, 0, none⟩, cap⟩, rfl, (flat_step).back A.own.read H.all (fun b off e => ?_) hcap.1 hcap.2⟩, hb2⟩
    injection e with e
    injection e with e1
    subst e1
    have := A.ge
    simp
    omega
end Go.Proofs.Ytgdeiaholkmfeaa.Dp

/-
  The program's Sames of nodes, plans and blocks: contracts.
-/
namespace Go.Proofs.Ytgdeiaholkmfeaa.Dp
open Go.RowKit RefP Go.Sort
set_option linter.unusedVariables false
set_option linter.unusedSimpArgs false
abbrev shapeA (x : NodeV) : Array Value := #[.int .i64 x.level, .int .i64 x.next, .string x.low, .string x.high, .bool x.last]
theorem below_at {N : Nat} {w w' : World} (h : Below w.heap.size w w') (hN : N ≤ w.heap.size) : Below N w w' := ⟨h.os, h.tape, h.output, h.size, fun k hk => h.block k (Nat.lt_of_lt_of_le hk hN)⟩
def shB (x y : NodeV) : Bool := decide (x.level = y.level ∧ x.next = y.next ∧ x.low = y.low ∧ x.high = y.high ∧ x.last = y.last)
end Go.Proofs.Ytgdeiaholkmfeaa.Dp

/-
  The program's Sames of plans and blocks: contracts.
-/
namespace Go.Proofs.Ytgdeiaholkmfeaa.Dp
open Go.RowKit RefP Go.Sort
set_option linter.unusedVariables false
set_option linter.unusedSimpArgs false
abbrev planA (h : PlanH) (x : PlanV) : Array Value := #[.int .i64 x.thread, .int .i64 x.ans.code, .string x.ans.key, .int .u64 x.ans.val, .slice h.pairs.a x.ans.pairs.length h.pairs.c, .slice h.steps.a x.steps.length h.steps.c, .slice h.extra.a x.extra.length h.extra.c]
end Go.Proofs.Ytgdeiaholkmfeaa.Dp

/-
  memory.Same: contract.
-/
namespace Go.Proofs.Ytgdeiaholkmfeaa.Dp
open Go.RowKit RefP Go.Sort
set_option linter.unusedVariables false
set_option linter.unusedSimpArgs false
theorem NodeOk.more {w : World} {S S' : List Nat} {h : NodeH} {x : NodeV} (H : NodeOk w S h x) (k : ∀ b ∈ S', b ∈ S ∨ w.heap.size ≤ b) : NodeOk w S' h x := ⟨H.level, H.low, H.high, H.next, H.keys.more k, H.vals.more k, H.kids.more k⟩
theorem PlanOk.more {w : World} {S S' : List Nat} {h : PlanH} {x : PlanV} (H : PlanOk w S h x) (k : ∀ b ∈ S', b ∈ S ∨ w.heap.size ≤ b) : PlanOk w S' h x := ⟨H.thread, ⟨H.ans.code, H.ans.key, H.ans.val, H.ans.pairs.more k⟩, H.steps.more k, H.extra.more k⟩
theorem BlockOk.more {w : World} {S S' : List Nat} {h : BlockH} {x : BlockV} (H : BlockOk w S h x) (k : ∀ b ∈ S', b ∈ S ∨ w.heap.size ≤ b) : BlockOk w S' h x := ⟨H.kind, H.node.more k, H.plan.more k, H.pairs.more k⟩
end Go.Proofs.Ytgdeiaholkmfeaa.Dp

/-
  memory's copied: contract.
-/
namespace Go.Proofs.Ytgdeiaholkmfeaa.Dp
open Go.RowKit RefP MemP
set_option linter.unusedVariables false
set_option linter.unusedSimpArgs false
/-- cells of a block behind a store of some -/
def sets' (cs : Array Value) : Nat → List Value → Array Value
  | _, [] => cs
  | o, v :: r => sets' (cs.setIfInBounds o v) (o + 1) r
theorem blk_sets' {b : Nat} {T : TypeId} : ∀ (vs : List Value) (o : Nat) (w : World) (cs : Array Value), Blk w b cs T → Blk (w.setCells b o vs) b (sets' cs o vs) T
  | [], _, _, _, h => h
  | v :: r, o, w, cs, h => blk_sets' r (o + 1) _ _ (h.set o v)
theorem fr_sets' {S : List Nat} {b : Nat} (hb : b ∈ S) : ∀ (vs : List Value) (o : Nat) (w : World), Fr S w (w.setCells b o vs)
  | [], _, _ => Fr.refl _ _
  | v :: r, o, w => ((Fr.refl _ _).set _ _ (.inl hb)).trans (fr_sets' hb r (o + 1) _)
theorem below_sets' {B b : Nat} {w0 : World} (hb : B ≤ b) : ∀ (vs : List Value) (o : Nat) (w : World), Below B w0 w → Below B w0 (w.setCells b o vs)
  | [], _, _, h => h
  | v :: r, o, w, h => below_sets' hb r (o + 1) _ (h.setCell (p := ⟨b, o, none⟩) hb v)
theorem there_blk' {w : World} {b o n : Nat} {cs : Array Value} {T : TypeId} (h : Blk w b cs T) (hn : o + n ≤ cs.size) : w.there b o n := fun j hj => by
  refine ⟨?_, h.free _⟩
  rw [h.at (o + j) (Array.getElem?_eq_getElem (show o + j < cs.size by omega))]; rfl
theorem range_sub {m n : Nat} {w : World} (h : m ≤ n) : ∀ b ∈ List.range m, b ∈ List.range n ∨ w.heap.size ≤ b := fun b hb => .inl (by simp at *; omega)
abbrev bkZ : Array Value := #[.int .i64 0, .int .i64 0, .string ⟨#[]⟩, .string ⟨#[]⟩, .bool false, .int .i64 0, .slice none 0 0, .slice none 0 0, .slice none 0 0, .int .i64 0, .int .i64 0, .string ⟨#[]⟩, .int .u64 0, .slice none 0 0, .slice none 0 0, .slice none 0 0, .slice none 0 0]
theorem sets_node (h : BlockH) (n : NodeH) (x : BlockV) : sets' (blockA h x) 1 (nodeA n x.node).toList = blockA ⟨n, h.plan, h.pairs⟩ x := by
  simp [sets', blockA, nodeA]
/-- few elements -/
structure Few (x : BlockV) : Prop where
  keys : x.node.keys.length ≤ 1000
  vals : x.node.vals.length ≤ 1000
  kids : x.node.kids.length ≤ 1000
  steps : x.plan.steps.length ≤ 1000
  extra : x.plan.extra.length ≤ 1000
  apairs : x.plan.ans.pairs.length ≤ 1000
  pairs : x.pairs.length ≤ 1000
set_option maxRecDepth 100000 in
set_option maxHeartbeats 3200000 in
theorem copied_any (S : List Nat) (h : BlockH) (x : BlockV) (w : World) (H : BlockOk w S h x) (hf : Few x) :
    Calls Try.prog 28 #[.agg (blockA h x)] w fun e w' => (∃ h', e = .returned (.agg (blockA h' x)) ∧ BlockOk w' (List.range w.heap.size) h' x) ∧ Below w.heap.size w w' := by
  have hb0 : Below w.heap.size w ((w.alloc (.cells (blockA h x) 40)).alloc (.cells bkZ 40)) := by (repeat (first | exact Below.refl _ _ | assumption | refine below_alloc2 ?_ (by first | exact Nat.le_refl _ | omega) _ | refine Below.drew ?_ | refine below_drewN ?_ _ | refine below_push2 ?_ ‹_› (by first | exact Nat.le_refl _ | omega) | refine Below.setCell ?_ (by first | (simp; done) | (simp; omega) | omega) _))
  have BB := (Blk.new w (blockA h x) 40).alloc (.cells bkZ 40)
  have BR : Blk ((w.alloc (.cells (blockA h x) 40)).alloc (.cells bkZ 40)) (w.heap.size + 1) bkZ 40 := by
    have := Blk.new (w.alloc (.cells (blockA h x) 40)) bkZ 40
    simpa using this
  go_enter Try.func28, Try.ntmps28
  go_wp2_with fail
  generalize ((w.alloc (.cells (blockA h x) 40)).alloc (.cells bkZ 40)) = w1 at hb0 BB BR ⊢
  have hl1 : w.heap.size + 2 ≤ w1.heap.size := BR.lt
  refine (show Calls _ _ _ _ _ from nclone_any S h.node x.node w1 (H.node.keep (Keeps.of_below hb0)) hf.keys hf.vals hf.kids).mono ?_
  rintro e w2 ⟨⟨n2, rfl, N2⟩, hb2⟩
  replace N2 := N2.more (S' := List.range (w.heap.size + 2)) (range_sub hl1)
  have BB2 := BB.below hb2
  have BR2 := BR.below hb2
  have hB2 := below_push2 hb0 hb2 (Nat.le_refl _)
  have hth := there_blk' (o := 1) (n := 8) BB2 (by simp)
  have hl2 := hb2.size
  clear hb0 BB BR hb2
  go_upto_region 2 with (refine wpList_store_mid rfl 32 _ _ rfl w.heap.size 1 (nodeA n2 x.node) rfl rfl hth (by kernel_rfl) (by kernel_rfl) ?_)
  have BB3 := blk_sets' (nodeA n2 x.node).toList 1 _ _ BB2
  rw [sets_node] at BB3
  have F3 := fr_sets' (S := [w.heap.size]) (b := w.heap.size) (by simp) (nodeA n2 x.node).toList 1 w2
  have BR3 := F3.blk BR2 (by simp)
  have hB3 := below_sets' (b := w.heap.size) (Nat.le_refl _) (nodeA n2 x.node).toList 1 _ hB2
  have N3 := N2.keep (F3.keeps.more (S' := List.range (w.heap.size + 2)) (by simp))
  clear F3 hth BB2 BR2 hB2 N2 hl2
  generalize w2.setCells w.heap.size 1 (nodeA n2 x.node).toList = w3 at BB3 BR3 hB3 N3 ⊢
  have c3 := BB3.at 14 rfl
  go_wp2_with fail
  have hl3 : w.heap.size + 2 ≤ w3.heap.size := BR3.lt
  refine (show Calls _ _ _ _ _ from clStep_any S h.plan.steps x.plan.steps w3 (H.plan.steps.keep (Keeps.of_below hB3)) hf.steps).mono ?_
  rintro e w4 ⟨⟨q4, rfl, R4⟩, hb4⟩
  have BB4 := BB3.below hb4
  have c4 := BB4.at 14 rfl
  have f4 := BB4.free 14
  have BB5 := BB4.set 14 (.slice q4.a x.plan.steps.length q4.c)
  rw [show (blockA _ x).setIfInBounds 14 (.slice q4.a x.plan.steps.length q4.c) = blockA ⟨n2, ⟨h.plan.pairs, q4, h.plan.extra⟩, h.pairs⟩ x from by simp [blockA]] at BB5
  have K4 := (Keeps.of_below (S := List.range (w.heap.size + 2)) hb4).trans (Keeps.set (S := List.range (w.heap.size + 2)) (w := w4) ⟨w.heap.size, 14, none⟩ (.slice q4.a x.plan.steps.length q4.c) (by simp))
  have Rq4 := R4.more (S' := List.range (w.heap.size + 2)) (range_sub hl3)
  replace Rq4 := Rq4.keep (Keeps.set (S := List.range (w.heap.size + 2)) (w := w4) ⟨w.heap.size, 14, none⟩ (.slice q4.a x.plan.steps.length q4.c) (by simp))
  have BR5 := (BR3.below hb4).far ⟨w.heap.size, 14, none⟩ (.slice q4.a x.plan.steps.length q4.c) (by simp)
  have hB5 := (below_push2 hB3 hb4 (Nat.le_refl _)).setCell (p := ⟨w.heap.size, 14, none⟩) (Nat.le_refl _) (.slice q4.a x.plan.steps.length q4.c)
  go_upto_region 3 with (fail)
  obtain ⟨w5, hw5⟩ : ∃ wz, wz = w4.setCell ⟨w.heap.size, 14, none⟩ (.slice q4.a x.plan.steps.length q4.c) := ⟨_, rfl⟩
  rw [← hw5] at BB5 K4 Rq4 BR5 hB5 ⊢
  clear c3 c4 f4 BB3 BB4 BR3 hB3 hb4 R4 hl3 hw5
  have N5 := N3.keep K4
  clear N3 K4
  have c5 := BB5.at 15 rfl
  go_wp2_with fail
  have hl5 : w.heap.size + 2 ≤ w5.heap.size := BR5.lt
  refine (show Calls _ _ _ _ _ from clU64_any S h.plan.extra x.plan.extra w5 (H.plan.extra.keep (Keeps.of_below hB5)) hf.extra).mono ?_
  rintro e w6 ⟨⟨q6, rfl, R6⟩, hb6⟩
  have BB6 := BB5.below hb6
  have c6 := BB6.at 15 rfl
  have f6 := BB6.free 15
  have BB7 := BB6.set 15 (.slice q6.a x.plan.extra.length q6.c)
  rw [show (blockA _ x).setIfInBounds 15 (.slice q6.a x.plan.extra.length q6.c) = blockA ⟨n2, ⟨h.plan.pairs, q4, q6⟩, h.pairs⟩ x from by simp [blockA]] at BB7
  have K6 := (Keeps.of_below (S := List.range (w.heap.size + 2)) hb6).trans (Keeps.set (S := List.range (w.heap.size + 2)) (w := w6) ⟨w.heap.size, 15, none⟩ (.slice q6.a x.plan.extra.length q6.c) (by simp))
  have Rq6 := R6.more (S' := List.range (w.heap.size + 2)) (range_sub hl5)
  replace Rq6 := Rq6.keep (Keeps.set (S := List.range (w.heap.size + 2)) (w := w6) ⟨w.heap.size, 15, none⟩ (.slice q6.a x.plan.extra.length q6.c) (by simp))
  have BR7 := (BR5.below hb6).far ⟨w.heap.size, 15, none⟩ (.slice q6.a x.plan.extra.length q6.c) (by simp)
  have hB7 := (below_push2 hB5 hb6 (Nat.le_refl _)).setCell (p := ⟨w.heap.size, 15, none⟩) (Nat.le_refl _) (.slice q6.a x.plan.extra.length q6.c)
  go_upto_region 4 with (fail)
  obtain ⟨w7, hw7⟩ : ∃ wz, wz = w6.setCell ⟨w.heap.size, 15, none⟩ (.slice q6.a x.plan.extra.length q6.c) := ⟨_, rfl⟩
  rw [← hw7] at BB7 K6 Rq6 BR7 hB7 ⊢
  clear c5 c6 f6 BB5 BB6 BR5 hB5 hb6 R6 hl5 hw7
  have N7 := N5.keep K6
  have Rq47 := Rq4.keep K6
  clear N5 Rq4 K6
  have c7 := BB7.at 13 rfl
  go_wp2_with fail
  have hl7 : w.heap.size + 2 ≤ w7.heap.size := BR7.lt
  refine (show Calls _ _ _ _ _ from clPair_any S h.plan.pairs x.plan.ans.pairs w7 (H.plan.ans.pairs.keep (Keeps.of_below hB7)) hf.apairs).mono ?_
  rintro e w8 ⟨⟨q8, rfl, R8⟩, hb8⟩
  have BB8 := BB7.below hb8
  have c8 := BB8.at 13 rfl
  have f8 := BB8.free 13
  have BB9 := BB8.set 13 (.slice q8.a x.plan.ans.pairs.length q8.c)
  rw [show (blockA _ x).setIfInBounds 13 (.slice q8.a x.plan.ans.pairs.length q8.c) = blockA ⟨n2, ⟨q8, q4, q6⟩, h.pairs⟩ x from by simp [blockA]] at BB9
  have K8 := (Keeps.of_below (S := List.range (w.heap.size + 2)) hb8).trans (Keeps.set (S := List.range (w.heap.size + 2)) (w := w8) ⟨w.heap.size, 13, none⟩ (.slice q8.a x.plan.ans.pairs.length q8.c) (by simp))
  have Rq8 := R8.more (S' := List.range (w.heap.size + 2)) (range_sub hl7)
  replace Rq8 := Rq8.keep (Keeps.set (S := List.range (w.heap.size + 2)) (w := w8) ⟨w.heap.size, 13, none⟩ (.slice q8.a x.plan.ans.pairs.length q8.c) (by simp))
  have BR9 := (BR7.below hb8).far ⟨w.heap.size, 13, none⟩ (.slice q8.a x.plan.ans.pairs.length q8.c) (by simp)
  have hB9 := (below_push2 hB7 hb8 (Nat.le_refl _)).setCell (p := ⟨w.heap.size, 13, none⟩) (Nat.le_refl _) (.slice q8.a x.plan.ans.pairs.length q8.c)
  go_upto_region 5 with (fail)
  obtain ⟨w9, hw9⟩ : ∃ wz, wz = w8.setCell ⟨w.heap.size, 13, none⟩ (.slice q8.a x.plan.ans.pairs.length q8.c) := ⟨_, rfl⟩
  rw [← hw9] at BB9 K8 Rq8 BR9 hB9 ⊢
  clear c7 c8 f8 BB7 BB8 BR7 hB7 hb8 R8 hl7 hw9
  have N9 := N7.keep K8
  have Rq49 := Rq47.keep K8
  have Rq69 := Rq6.keep K8
  clear N7 Rq47 Rq6 K8
  have c9 := BB9.at 16 rfl
  go_wp2_with fail
  have hl9 : w.heap.size + 2 ≤ w9.heap.size := BR9.lt
  refine (show Calls _ _ _ _ _ from clPair_any S h.pairs x.pairs w9 (H.pairs.keep (Keeps.of_below hB9)) hf.pairs).mono ?_
  rintro e w10 ⟨⟨q10, rfl, R10⟩, hb10⟩
  have BB10 := BB9.below hb10
  have c10 := BB10.at 16 rfl
  have f10 := BB10.free 16
  have BB11 := BB10.set 16 (.slice q10.a x.pairs.length q10.c)
  rw [show (blockA _ x).setIfInBounds 16 (.slice q10.a x.pairs.length q10.c) = blockA ⟨n2, ⟨q8, q4, q6⟩, q10⟩ x from by simp [blockA]] at BB11
  have K10 := (Keeps.of_below (S := List.range (w.heap.size + 2)) hb10).trans (Keeps.set (S := List.range (w.heap.size + 2)) (w := w10) ⟨w.heap.size, 16, none⟩ (.slice q10.a x.pairs.length q10.c) (by simp))
  have Rq10 := R10.more (S' := List.range (w.heap.size + 2)) (range_sub hl9)
  replace Rq10 := Rq10.keep (Keeps.set (S := List.range (w.heap.size + 2)) (w := w10) ⟨w.heap.size, 16, none⟩ (.slice q10.a x.pairs.length q10.c) (by simp))
  have BR11 := (BR9.below hb10).far ⟨w.heap.size, 16, none⟩ (.slice q10.a x.pairs.length q10.c) (by simp)
  have hB11 := (below_push2 hB9 hb10 (Nat.le_refl _)).setCell (p := ⟨w.heap.size, 16, none⟩) (Nat.le_refl _) (.slice q10.a x.pairs.length q10.c)
  go_upto_region 6 with (fail)
  obtain ⟨w11, hw11⟩ : ∃ wz, wz = w10.setCell ⟨w.heap.size, 16, none⟩ (.slice q10.a x.pairs.length q10.c) := ⟨_, rfl⟩
  rw [← hw11] at BB11 K10 Rq10 BR11 hB11 ⊢
  clear c9 c10 f10 BB9 BB10 BR9 hB9 hb10 R10 hl9 hw11
  have N11 := N9.keep K10
  have Rq411 := Rq49.keep K10
  have Rq611 := Rq69.keep K10
  have Rq811 := Rq8.keep K10
  clear N9 Rq49 Rq69 Rq8 K10
  go_wp2_with (first
    | (refine wpList_load_row rfl 40 _ rfl w.heap.size rfl 40 _ (0, 0) _ BB11.h Try.underlying40 rfl (by kernel_rfl) ?_)
    | (refine wpList_store_row rfl 40 _ _ rfl (w.heap.size + 1) _ rfl rfl 40 _ BR11.h (by kernel_rfl) (by rfl) (by kernel_rfl) ?_))
  generalize hh : (⟨n2, ⟨q8, q4, q6⟩, q10⟩ : BlockH) = h' at BB11
  have FR := Fr.row (S := [w.heap.size + 1]) (w := w11) (w.heap.size + 1) (blockA h' x) (by simp)
  have KR := FR.keeps.more (S' := List.range (w.heap.size + 2)) (by simp)
  refine bodyPost_ret (results_cell_row rfl _ _ (w.heap.size + 1) 40 (blockA h' x) (0, 0) _ rfl (Blk.row BR11 (blockA h' x)).h Try.underlying40 rfl (by kernel_rfl)) rfl ⟨⟨h', rfl, ?_⟩, below_setRow hB11 (by omega) _⟩
  refine BlockOk.more (S := List.range (w.heap.size + 2)) ?_ (range_sub (by omega))
  subst hh
  exact ⟨H.kind, N11.keep KR, ⟨H.plan.thread, ⟨H.plan.ans.code, H.plan.ans.key, H.plan.ans.val, Rq811.keep KR⟩, Rq411.keep KR, Rq611.keep KR⟩, Rq10.keep KR⟩
end Go.Proofs.Ytgdeiaholkmfeaa.Dp

/-
  Blocks of a memory, in depth: named, Block, Do of what gets and puts a block.
-/
namespace Go.Proofs.Ytgdeiaholkmfeaa.MemP
open Go.RowKit RefP CellP Dp
set_option linter.unusedVariables false
set_option linter.unusedSimpArgs false
theorem res_ct {P : Program} {fn : Func} {p q : Tmp} {ty : TypeId} (h : fn.results = #[.cell p ty, .tmp q]) (tmps : Array Value) (w : World) (g : Nat) (t : TypeId) (cs : Array Value) (fr : Nat × Nat) (d : TypeDesc)
    (v : Value) (hv : tmps.getD q undef = v) (hp : tmps.getD p undef = .pointer (some ⟨g, 0, none⟩)) (hg : w.heap[g]? = some (.cells cs t fr))
    (hu : P.underlying ty = some d) (hd : (match d with | .struct _ | .array _ _ => true | _ => false) = true) (hi : (P.info? ty).map (·.size) = some cs.size) :
    (results fn tmps).run P w = .ok (.tuple #[.agg cs, v]) w := by
  subst hv
  have hp' : tmps[p]?.getD undef = .pointer (some ⟨g, 0, none⟩) := by simpa using hp
  simp [results, h, hp', asAddr, run_loadVar_row w g t ty cs fr d hg hu hd hi]
/-- does a reference name a place, and which -/
def nameB (A T : Nat) (L : List (Int × Int)) (x : Int) : Bool := opensB x && (decide (openP x < A) && (loadW L (atI A T 1 (openP x)) == useI 1 (openG x)))
def nameP (A : Nat) (x : Int) : Int := if opensB x = true ∧ openP x < A then openP x else 0
theorem openP_ge (x : Int) : 0 ≤ openP x := by
  unfold openP
  split
  · rename_i h; have := opensB_yes h; omega
  · omega
theorem openP_le (x : Int) : openP x ≤ 8191 := by
  unfold openP
  split
  · rename_i h; have := opensB_yes h; omega
  · omega
theorem openG_rng {x : Int} (h : opensB x = true) : 1 ≤ openG x ∧ openG x ≤ 4294967295 := by
  unfold openG
  rw [if_pos h]
  have := opensB_yes h; omega
set_option maxHeartbeats 1600000 in
theorem named_any {o oc g gb gr A T : Nat} {L : List (Int × Int)} {bs rs : List (List Value)} (x : Int) (w : World) (h : MemAt w o oc g gb gr A T L bs rs) (x0 : 0 ≤ x) (x1 : x ≤ 18446744073709551615) :
    Calls Try.prog 27 #[.pointer (some ⟨o, 0, none⟩), .int .u64 x] w fun e w' => e = .returned (.tuple #[.int .i64 (nameP A x), .bool (nameB A T L x)]) ∧ Below w.heap.size w w' := by
  have hA := h.a1
  cases hb : opensB x
  · have hP := Lib.hid (show nameP A x = 0 by simp [nameP, hb])
    have hN := Lib.hid (show nameB A T L x = false by simp [nameB, hb])
    go_enter Try.func27, Try.ntmps27
    go_wp2_with fail
    refine (open_any x _ x0 x1).mono ?_
    rw [hb]
    rintro e w1 ⟨rfl, hb1⟩
    go_wp2_with fail
    go_ret2
    exact ⟨by rw [hP.out, hN.out]; rfl, hb1⟩
  · have hg := openG_rng hb
    have p0 := openP_ge x
    by_cases hl : openP x < A
    · have q1 : decide ((A : Int) ≤ openP x) = false := by simpa using hl
      have hP := Lib.hid (show nameP A x = openP x by simp [nameP, hb, hl])
      have hN := Lib.hid (show nameB A T L x = (loadW L (atI A T 1 (openP x)) == useI 1 (openG x)) by simp [nameB, hb, hl])
      go_enter Try.func27, Try.ntmps27
      go_wp2_with fail
      refine (open_any x _ x0 x1).mono ?_
      rw [hb]
      rintro e w1 ⟨rfl, hb1⟩
      replace h := h.below hb1
      go_wp2_with fail
      refine (arena_any _ h).mono ?_
      rintro e w2 ⟨rfl, rfl⟩
      go_wp2_with fail
      refine (muse_any (openP x) _ h (by omega) (by omega)).mono ?_
      rintro e w2 ⟨rfl, hb2⟩
      replace h := h.below hb2
      have hB2 := below_push2 hb1 hb2 (Nat.le_refl _)
      go_wp2_with fail
      refine (mload_any _ _ h).mono ?_
      rintro e w3 ⟨rfl, hb3⟩
      have hB3 := below_push2 hB2 hb3 (Nat.le_refl _)
      go_wp2_with fail
      refine (use_any 1 (openG x) _ (by omega) (by omega) (by omega) (by omega)).mono ?_
      rintro e w4 ⟨rfl, rfl⟩
      go_wp2_with fail
      go_ret2
      exact ⟨by rw [hP.out, hN.out]; rfl, hB3⟩
    · have q1 : decide ((A : Int) ≤ openP x) = true := by simp; omega
      have hP := Lib.hid (show nameP A x = 0 by simp [nameP, hl])
      have hN := Lib.hid (show nameB A T L x = false by simp [nameB, hl])
      go_enter Try.func27, Try.ntmps27
      go_wp2_with fail
      refine (open_any x _ x0 x1).mono ?_
      rw [hb]
      rintro e w1 ⟨rfl, hb1⟩
      replace h := h.below hb1
      go_wp2_with fail
      refine (arena_any _ h).mono ?_
      rintro e w2 ⟨rfl, rfl⟩
      go_wp2_with fail
      go_ret2
      exact ⟨by rw [hP.out, hN.out]; rfl, hb1⟩
theorem named_lt {A T : Nat} {L : List (Int × Int)} {x : Int} (h : nameB A T L x = true) : ∃ i : Nat, i < A ∧ nameP A x = (i : Int) ∧ openP x = (i : Int) := by
  simp only [nameB, Bool.and_eq_true, decide_eq_true_eq] at h
  obtain ⟨h1, h2, _⟩ := h
  have p0 := openP_ge x
  refine ⟨(openP x).toNat, by omega, ?_, by omega⟩
  rw [nameP, if_pos ⟨h1, h2⟩]; omega
set_option maxRecDepth 100000 in
set_option maxHeartbeats 3200000 in
theorem block_yes {o oc g gb gr A T : Nat} {L : List (Int × Int)} {bs rs : List (List Value)} (x : Int) (i : Nat) (S : List Nat) (q : BlockH) (b : BlockV) (w : World) (h : MemAt w o oc g gb gr A T L bs rs) (x0 : 0 ≤ x) (x1 : x ≤ 18446744073709551615) (hN : nameB A T L x = true) (hi : i < A) (hp : nameP A x = (i : Int)) (hb : bs.getD i [] = (blockA q b).toList) (H : BlockOk w S q b) (hf : Few b) :
    Calls Try.prog 26 #[.pointer (some ⟨o, 0, none⟩), .int .u64 x] w fun e w' => (∃ q', e = .returned (.tuple #[.agg (blockA q' b), .bool true]) ∧ BlockOk w' (List.range w.heap.size) q' b) ∧ Below w.heap.size w w' := by
  have hb0 : Below w.heap.size w (w.alloc (.cells bkZ 40)) := by (repeat (first | exact Below.refl _ _ | assumption | refine below_alloc2 ?_ (by first | exact Nat.le_refl _ | omega) _ | refine Below.drew ?_ | refine below_drewN ?_ _ | refine below_push2 ?_ ‹_› (by first | exact Nat.le_refl _ | omega) | refine Below.setCell ?_ (by first | (simp; done) | (simp; omega) | omega) _))
  have hi' : (i : Int) < (A : Int) := by omega
  go_enter Try.func26, Try.ntmps26
  go_wp2_with fail
  refine (named_any x _ (h.below hb0) x0 x1).mono ?_
  rw [hN, hp]
  rintro e w1 ⟨rfl, hb1⟩
  have hB1 := below_push2 hb0 hb1 (Nat.le_refl _)
  have BR := (Blk.new w bkZ 40).below hb1
  have h1 := (h.below hb0).below hb1
  have d9 : w1.cell? ⟨o, 9, none⟩ = some (.slice (some ⟨gb, 0, none⟩) A A) := h1.head.at 9 rfl
  have hr : w1.rangeAt gb (i * 17) (blockA q b).toList := by
    intro j v hj
    have hj17 : j < 17 := by
      by_cases e : j < 17
      · exact e
      · rw [List.getElem?_eq_none (by simp; omega)] at hj; cases hj
    rw [h1.blocks.at (i * 17 + j) (raw_at bs i j (by rw [h1.lb]; omega) hj17)]
    show some ((bs.getD i []).getD j undef) = some v
    rw [hb]
    simp only [List.getD, hj, Option.getD_some]
  clear hb0 hb1 h1
  go_wp2_with (refine wpList_load_mid rfl 40 _ rfl gb (i * 17) rfl (blockA q b).toList _ hr Try.underlying40 rfl (by kernel_rfl) ?_)
  refine (show Calls _ _ _ _ _ from copied_any S q b w1 (H.keep (Keeps.of_below hB1)) hf).mono ?_
  rintro e w2 ⟨⟨q', rfl, H2⟩, hb2⟩
  have hB2 := below_push2 hB1 hb2 (Nat.le_refl _)
  have hlr := BR.lt
  replace BR := BR.below hb2
  go_wp2_with (refine wpList_store_row rfl 40 _ _ rfl w.heap.size _ rfl rfl 40 _ BR.h (by kernel_rfl) (by rfl) (by kernel_rfl) ?_)
  refine bodyPost_ret (v := .tuple #[.agg (blockA q' b), .bool true]) (res_ct rfl _ _ w.heap.size 40 (blockA q' b) (0, 0) _ (.bool true) rfl rfl (Blk.row BR (blockA q' b)).h Try.underlying40 rfl (by kernel_rfl)) rfl ⟨⟨q', rfl, ?_⟩, below_setRow hB2 (by omega) _⟩
  exact (H2.keep (Fr.row (S := List.range w1.heap.size) w.heap.size _ (by simpa using hlr)).keeps).more (range_sub (by omega))
set_option maxRecDepth 100000 in
set_option maxHeartbeats 3200000 in
theorem block_no {o oc g gb gr A T : Nat} {L : List (Int × Int)} {bs rs : List (List Value)} (x : Int) (w : World) (h : MemAt w o oc g gb gr A T L bs rs) (x0 : 0 ≤ x) (x1 : x ≤ 18446744073709551615) (hN : nameB A T L x = false) :
    Calls Try.prog 26 #[.pointer (some ⟨o, 0, none⟩), .int .u64 x] w fun e w' => e = .returned (.tuple #[.agg bkZ, .bool false]) ∧ Below w.heap.size w w' := by
  have hb0 : Below w.heap.size w (w.alloc (.cells bkZ 40)) := by (repeat (first | exact Below.refl _ _ | assumption | refine below_alloc2 ?_ (by first | exact Nat.le_refl _ | omega) _ | refine Below.drew ?_ | refine below_drewN ?_ _ | refine below_push2 ?_ ‹_› (by first | exact Nat.le_refl _ | omega) | refine Below.setCell ?_ (by first | (simp; done) | (simp; omega) | omega) _))
  go_enter Try.func26, Try.ntmps26
  go_wp2_with fail
  refine (named_any x _ (h.below hb0) x0 x1).mono ?_
  rw [hN]
  rintro e w1 ⟨rfl, hb1⟩
  have hB1 := below_push2 hb0 hb1 (Nat.le_refl _)
  have BR := (Blk.new w bkZ 40).below hb1
  go_wp2_with (refine wpList_store_row rfl 40 _ _ rfl w.heap.size _ rfl rfl 40 _ BR.h (by kernel_rfl) (by rfl) (by kernel_rfl) ?_)
  refine bodyPost_ret (v := .tuple #[.agg bkZ, .bool false]) (res_ct rfl _ _ w.heap.size 40 bkZ (0, 0) _ (.bool false) rfl rfl (Blk.row BR bkZ).h Try.underlying40 rfl (by kernel_rfl)) rfl ⟨rfl, below_setRow hB1 (by omega) _⟩
end Go.Proofs.Ytgdeiaholkmfeaa.MemP
