/-
  Do of what gets a block: contracts.
-/
import Derived.Lib.QuietBelow
import Derived.BigQuiet
import Derived.Deep.MidRow
import Derived.StillTailTactics
import Derived.Test.YtgdeiaholkmfeaaReadGoesPack3

namespace Go.Proofs.Ytgdeiaholkmfeaa.MemP
open Go.RowKit RefP CellP Dp
set_option linter.unusedVariables false
set_option linter.unusedSimpArgs false
/-- a reply's cells, with a block -/
abbrev replyA (ok : Bool) (word ver : Int) (h : BlockH) (x : BlockV) : Array Value := #[.bool ok, .int .u64 word, .int .u64 ver, .int .i64 x.kind, .int .i64 x.node.level, .string x.node.low, .string x.node.high, .bool x.node.last, .int .i64 x.node.next, .slice h.node.keys.a x.node.keys.length h.node.keys.c, .slice h.node.vals.a x.node.vals.length h.node.vals.c, .slice h.node.kids.a x.node.kids.length h.node.kids.c, .int .i64 x.plan.thread, .int .i64 x.plan.ans.code, .string x.plan.ans.key, .int .u64 x.plan.ans.val, .slice h.plan.pairs.a x.plan.ans.pairs.length h.plan.pairs.c, .slice h.plan.steps.a x.plan.steps.length h.plan.steps.c, .slice h.plan.extra.a x.plan.extra.length h.plan.extra.c, .slice h.pairs.a x.pairs.length h.pairs.c, .int .i64 0, .string ⟨#[]⟩, .string ⟨#[]⟩, .int .u64 0, .int .i64 0]
theorem sets_reply (ok : Bool) (h : BlockH) (x : BlockV) : sets' #[.bool ok, .int .u64 0, .int .u64 0, .int .i64 0, .int .i64 0, .string ⟨#[]⟩, .string ⟨#[]⟩, .bool false, .int .i64 0, .slice none 0 0, .slice none 0 0, .slice none 0 0, .int .i64 0, .int .i64 0, .string ⟨#[]⟩, .int .u64 0, .slice none 0 0, .slice none 0 0, .slice none 0 0, .slice none 0 0, .int .i64 0, .string ⟨#[]⟩, .string ⟨#[]⟩, .int .u64 0, .int .i64 0] 3 (blockA h x).toList = replyA ok 0 0 h x := by
  simp [sets', blockA, replyA]
theorem sets_replyZ (ok : Bool) : sets' #[.bool ok, .int .u64 0, .int .u64 0, .int .i64 0, .int .i64 0, .string ⟨#[]⟩, .string ⟨#[]⟩, .bool false, .int .i64 0, .slice none 0 0, .slice none 0 0, .slice none 0 0, .int .i64 0, .int .i64 0, .string ⟨#[]⟩, .int .u64 0, .slice none 0 0, .slice none 0 0, .slice none 0 0, .slice none 0 0, .int .i64 0, .string ⟨#[]⟩, .string ⟨#[]⟩, .int .u64 0, .int .i64 0] 3 bkZ.toList = #[.bool ok, .int .u64 0, .int .u64 0, .int .i64 0, .int .i64 0, .string ⟨#[]⟩, .string ⟨#[]⟩, .bool false, .int .i64 0, .slice none 0 0, .slice none 0 0, .slice none 0 0, .int .i64 0, .int .i64 0, .string ⟨#[]⟩, .int .u64 0, .slice none 0 0, .slice none 0 0, .slice none 0 0, .slice none 0 0, .int .i64 0, .string ⟨#[]⟩, .string ⟨#[]⟩, .int .u64 0, .int .i64 0] := by
  simp [sets']
set_option maxRecDepth 100000 in
set_option maxHeartbeats 3200000 in
theorem do_get_yes {o oc g gb gr A T : Nat} {L : List (Int × Int)} {bs rs : List (List Value)} (i ver word : Int) (c4 c5 c6 c7 c8 c9 c10 c11 c12 c13 c14 c15 c16 c17 c18 c19 c20 c21 c22 c23 c24 c25 : Value) (k : Nat) (S : List Nat) (q : BlockH) (b : BlockV) (w : World) (h : MemAt w o oc g gb gr A T L bs rs) (x0 : 0 ≤ word) (x1 : word ≤ 18446744073709551615) (hN : nameB A T L word = true) (hi : k < A) (hp : nameP A word = (k : Int)) (hb : bs.getD k [] = (blockA q b).toList) (H : BlockOk w S q b) (hf : Few b) :
    Calls Try.prog 9 #[.pointer (some ⟨o, 0, none⟩), .agg #[.int .i64 4, .int .i64 i, .int .u64 ver, .int .u64 word, c4, c5, c6, c7, c8, c9, c10, c11, c12, c13, c14, c15, c16, c17, c18, c19, c20, c21, c22, c23, c24, c25]] w fun e w' => (∃ q', e = .returned (.agg (replyA true 0 0 q' b)) ∧ BlockOk w' (List.range w.heap.size) q' b) ∧ Below w.heap.size w w' := by
  have hb2 : Below w.heap.size w ((w.alloc (.cells #[.int .i64 4, .int .i64 i, .int .u64 ver, .int .u64 word, c4, c5, c6, c7, c8, c9, c10, c11, c12, c13, c14, c15, c16, c17, c18, c19, c20, c21, c22, c23, c24, c25] 44)).alloc (.cells #[.bool false, .int .u64 0, .int .u64 0, .int .i64 0, .int .i64 0, .string ⟨#[]⟩, .string ⟨#[]⟩, .bool false, .int .i64 0, .slice none 0 0, .slice none 0 0, .slice none 0 0, .int .i64 0, .int .i64 0, .string ⟨#[]⟩, .int .u64 0, .slice none 0 0, .slice none 0 0, .slice none 0 0, .slice none 0 0, .int .i64 0, .string ⟨#[]⟩, .string ⟨#[]⟩, .int .u64 0, .int .i64 0] 46)) := by (repeat (first | exact Below.refl _ _ | assumption | refine below_alloc2 ?_ (by first | exact Nat.le_refl _ | omega) _ | refine Below.drew ?_ | refine below_drewN ?_ _ | refine below_push2 ?_ ‹_› (by first | exact Nat.le_refl _ | omega) | refine Below.setCell ?_ (by first | (simp; done) | (simp; omega) | omega) _))
  have BX := (Blk.new w #[.int .i64 4, .int .i64 i, .int .u64 ver, .int .u64 word, c4, c5, c6, c7, c8, c9, c10, c11, c12, c13, c14, c15, c16, c17, c18, c19, c20, c21, c22, c23, c24, c25] 44).alloc (.cells #[.bool false, .int .u64 0, .int .u64 0, .int .i64 0, .int .i64 0, .string ⟨#[]⟩, .string ⟨#[]⟩, .bool false, .int .i64 0, .slice none 0 0, .slice none 0 0, .slice none 0 0, .int .i64 0, .int .i64 0, .string ⟨#[]⟩, .int .u64 0, .slice none 0 0, .slice none 0 0, .slice none 0 0, .slice none 0 0, .int .i64 0, .string ⟨#[]⟩, .string ⟨#[]⟩, .int .u64 0, .int .i64 0] 46)
  have BR : Blk ((w.alloc (.cells #[.int .i64 4, .int .i64 i, .int .u64 ver, .int .u64 word, c4, c5, c6, c7, c8, c9, c10, c11, c12, c13, c14, c15, c16, c17, c18, c19, c20, c21, c22, c23, c24, c25] 44)).alloc (.cells #[.bool false, .int .u64 0, .int .u64 0, .int .i64 0, .int .i64 0, .string ⟨#[]⟩, .string ⟨#[]⟩, .bool false, .int .i64 0, .slice none 0 0, .slice none 0 0, .slice none 0 0, .int .i64 0, .int .i64 0, .string ⟨#[]⟩, .int .u64 0, .slice none 0 0, .slice none 0 0, .slice none 0 0, .slice none 0 0, .int .i64 0, .string ⟨#[]⟩, .string ⟨#[]⟩, .int .u64 0, .int .i64 0] 46)) (w.heap.size + 1) #[.bool false, .int .u64 0, .int .u64 0, .int .i64 0, .int .i64 0, .string ⟨#[]⟩, .string ⟨#[]⟩, .bool false, .int .i64 0, .slice none 0 0, .slice none 0 0, .slice none 0 0, .int .i64 0, .int .i64 0, .string ⟨#[]⟩, .int .u64 0, .slice none 0 0, .slice none 0 0, .slice none 0 0, .slice none 0 0, .int .i64 0, .string ⟨#[]⟩, .string ⟨#[]⟩, .int .u64 0, .int .i64 0] 46 := by
    have := Blk.new (w.alloc (.cells #[.int .i64 4, .int .i64 i, .int .u64 ver, .int .u64 word, c4, c5, c6, c7, c8, c9, c10, c11, c12, c13, c14, c15, c16, c17, c18, c19, c20, c21, c22, c23, c24, c25] 44)) #[.bool false, .int .u64 0, .int .u64 0, .int .i64 0, .int .i64 0, .string ⟨#[]⟩, .string ⟨#[]⟩, .bool false, .int .i64 0, .slice none 0 0, .slice none 0 0, .slice none 0 0, .int .i64 0, .int .i64 0, .string ⟨#[]⟩, .int .u64 0, .slice none 0 0, .slice none 0 0, .slice none 0 0, .slice none 0 0, .int .i64 0, .string ⟨#[]⟩, .string ⟨#[]⟩, .int .u64 0, .int .i64 0] 46
    simpa using this
  have h2 := h.below hb2
  go_enter Try.func9, Try.ntmps9
  go_wp2_with fail
  generalize ((w.alloc (.cells #[.int .i64 4, .int .i64 i, .int .u64 ver, .int .u64 word, c4, c5, c6, c7, c8, c9, c10, c11, c12, c13, c14, c15, c16, c17, c18, c19, c20, c21, c22, c23, c24, c25] 44)).alloc (.cells #[.bool false, .int .u64 0, .int .u64 0, .int .i64 0, .int .i64 0, .string ⟨#[]⟩, .string ⟨#[]⟩, .bool false, .int .i64 0, .slice none 0 0, .slice none 0 0, .slice none 0 0, .int .i64 0, .int .i64 0, .string ⟨#[]⟩, .int .u64 0, .slice none 0 0, .slice none 0 0, .slice none 0 0, .slice none 0 0, .int .i64 0, .string ⟨#[]⟩, .string ⟨#[]⟩, .int .u64 0, .int .i64 0] 46)) = wq at hb2 h2 BX BR ⊢
  have hl2 : w.heap.size + 2 ≤ wq.heap.size := BR.lt
  refine (none_any _ h2).mono ?_
  rintro e w1 ⟨rfl, rfl⟩
  have b0 := BX.at 0 rfl
  have b3 := BX.at 3 rfl
  go_wp2_with fail
  refine (block_yes word k S q b _ h2 x0 x1 hN hi hp hb (H.keep (Keeps.of_below hb2)) hf).mono ?_
  rintro e w3 ⟨⟨q', rfl, H3⟩, hb3⟩
  have hB3 := below_push2 hb2 hb3 (Nat.le_refl _)
  have BR3 := BR.below hb3
  have hl3 := hb3.size
  replace H3 := H3.more (S' := List.range (w.heap.size + 2)) (range_sub hl2)
  clear h2 BX BR b0 b3 hb2 hb3
  have hth := there_blk' (o := 3) (n := 17) BR3 (by decide)
  have BF := blk_sets' (blockA q' b).toList 3 _ _ BR3
  rw [sets_reply] at BF
  have HF := H3.keep ((fr_sets' (S := [w.heap.size + 1]) (b := w.heap.size + 1) (by simp) (blockA q' b).toList 3 w3).keeps.more (S' := List.range (w.heap.size + 2)) (by simp))
  have hBF := below_sets' (b := w.heap.size + 1) (by omega) (blockA q' b).toList 3 _ hB3
  generalize hX : w3.setCells (w.heap.size + 1) 3 (blockA q' b).toList = wx at BF hBF HF
  replace hX := Lib.hid hX
  have f0 := BF.free 0
  have c0 := BF.at 0 rfl
  have BG := BF.set 0 (.bool true)
  simp only [List.setIfInBounds_toArray, List.set_cons_zero] at BG
  have HG := HF.keep (Keeps.set (S := List.range (w.heap.size + 2)) (w := wx) ⟨w.heap.size + 1, 0, none⟩ (.bool true) (by simp))
  go_wp2_with (first
    | (refine wpList_store_mid rfl 40 _ _ rfl (w.heap.size + 1) 3 (blockA q' b) rfl rfl hth (by kernel_rfl) (by kernel_rfl) ?_; rw [hX.out])
    | (refine wpList_load_row rfl 46 _ rfl (w.heap.size + 1) rfl 46 _ (0, 0) _ BG.h Try.underlying46 rfl (by kernel_rfl) ?_)
    | (refine wpList_store_row rfl 46 _ _ rfl (w.heap.size + 1) _ rfl rfl 46 _ BG.h (by kernel_rfl) (by rfl) (by kernel_rfl) ?_))
  refine bodyPost_ret (results_cell_row rfl _ _ (w.heap.size + 1) 46 (replyA true 0 0 q' b) (0, 0) _ rfl (Blk.row BG (replyA true 0 0 q' b)).h Try.underlying46 rfl (by kernel_rfl)) rfl ⟨⟨q', rfl, ?_⟩, below_setRow (hBF.setCell (by show w.heap.size ≤ w.heap.size + 1; omega) _) (by omega) _⟩
  exact (HG.keep (Fr.row (S := List.range (w.heap.size + 2)) (w.heap.size + 1) _ (by simp)).keeps).more (range_sub (by omega))
set_option maxRecDepth 100000 in
set_option maxHeartbeats 3200000 in
theorem do_get_no {o oc g gb gr A T : Nat} {L : List (Int × Int)} {bs rs : List (List Value)} (i ver word : Int) (c4 c5 c6 c7 c8 c9 c10 c11 c12 c13 c14 c15 c16 c17 c18 c19 c20 c21 c22 c23 c24 c25 : Value) (w : World) (h : MemAt w o oc g gb gr A T L bs rs) (x0 : 0 ≤ word) (x1 : word ≤ 18446744073709551615) (hN : nameB A T L word = false) :
    Calls Try.prog 9 #[.pointer (some ⟨o, 0, none⟩), .agg #[.int .i64 4, .int .i64 i, .int .u64 ver, .int .u64 word, c4, c5, c6, c7, c8, c9, c10, c11, c12, c13, c14, c15, c16, c17, c18, c19, c20, c21, c22, c23, c24, c25]] w fun e w' => e = .returned (.agg #[.bool false, .int .u64 0, .int .u64 0, .int .i64 0, .int .i64 0, .string ⟨#[]⟩, .string ⟨#[]⟩, .bool false, .int .i64 0, .slice none 0 0, .slice none 0 0, .slice none 0 0, .int .i64 0, .int .i64 0, .string ⟨#[]⟩, .int .u64 0, .slice none 0 0, .slice none 0 0, .slice none 0 0, .slice none 0 0, .int .i64 0, .string ⟨#[]⟩, .string ⟨#[]⟩, .int .u64 0, .int .i64 0]) ∧ Below w.heap.size w w' := by
  have hb2 : Below w.heap.size w ((w.alloc (.cells #[.int .i64 4, .int .i64 i, .int .u64 ver, .int .u64 word, c4, c5, c6, c7, c8, c9, c10, c11, c12, c13, c14, c15, c16, c17, c18, c19, c20, c21, c22, c23, c24, c25] 44)).alloc (.cells #[.bool false, .int .u64 0, .int .u64 0, .int .i64 0, .int .i64 0, .string ⟨#[]⟩, .string ⟨#[]⟩, .bool false, .int .i64 0, .slice none 0 0, .slice none 0 0, .slice none 0 0, .int .i64 0, .int .i64 0, .string ⟨#[]⟩, .int .u64 0, .slice none 0 0, .slice none 0 0, .slice none 0 0, .slice none 0 0, .int .i64 0, .string ⟨#[]⟩, .string ⟨#[]⟩, .int .u64 0, .int .i64 0] 46)) := by (repeat (first | exact Below.refl _ _ | assumption | refine below_alloc2 ?_ (by first | exact Nat.le_refl _ | omega) _ | refine Below.drew ?_ | refine below_drewN ?_ _ | refine below_push2 ?_ ‹_› (by first | exact Nat.le_refl _ | omega) | refine Below.setCell ?_ (by first | (simp; done) | (simp; omega) | omega) _))
  have BX := (Blk.new w #[.int .i64 4, .int .i64 i, .int .u64 ver, .int .u64 word, c4, c5, c6, c7, c8, c9, c10, c11, c12, c13, c14, c15, c16, c17, c18, c19, c20, c21, c22, c23, c24, c25] 44).alloc (.cells #[.bool false, .int .u64 0, .int .u64 0, .int .i64 0, .int .i64 0, .string ⟨#[]⟩, .string ⟨#[]⟩, .bool false, .int .i64 0, .slice none 0 0, .slice none 0 0, .slice none 0 0, .int .i64 0, .int .i64 0, .string ⟨#[]⟩, .int .u64 0, .slice none 0 0, .slice none 0 0, .slice none 0 0, .slice none 0 0, .int .i64 0, .string ⟨#[]⟩, .string ⟨#[]⟩, .int .u64 0, .int .i64 0] 46)
  have BR : Blk ((w.alloc (.cells #[.int .i64 4, .int .i64 i, .int .u64 ver, .int .u64 word, c4, c5, c6, c7, c8, c9, c10, c11, c12, c13, c14, c15, c16, c17, c18, c19, c20, c21, c22, c23, c24, c25] 44)).alloc (.cells #[.bool false, .int .u64 0, .int .u64 0, .int .i64 0, .int .i64 0, .string ⟨#[]⟩, .string ⟨#[]⟩, .bool false, .int .i64 0, .slice none 0 0, .slice none 0 0, .slice none 0 0, .int .i64 0, .int .i64 0, .string ⟨#[]⟩, .int .u64 0, .slice none 0 0, .slice none 0 0, .slice none 0 0, .slice none 0 0, .int .i64 0, .string ⟨#[]⟩, .string ⟨#[]⟩, .int .u64 0, .int .i64 0] 46)) (w.heap.size + 1) #[.bool false, .int .u64 0, .int .u64 0, .int .i64 0, .int .i64 0, .string ⟨#[]⟩, .string ⟨#[]⟩, .bool false, .int .i64 0, .slice none 0 0, .slice none 0 0, .slice none 0 0, .int .i64 0, .int .i64 0, .string ⟨#[]⟩, .int .u64 0, .slice none 0 0, .slice none 0 0, .slice none 0 0, .slice none 0 0, .int .i64 0, .string ⟨#[]⟩, .string ⟨#[]⟩, .int .u64 0, .int .i64 0] 46 := by
    have := Blk.new (w.alloc (.cells #[.int .i64 4, .int .i64 i, .int .u64 ver, .int .u64 word, c4, c5, c6, c7, c8, c9, c10, c11, c12, c13, c14, c15, c16, c17, c18, c19, c20, c21, c22, c23, c24, c25] 44)) #[.bool false, .int .u64 0, .int .u64 0, .int .i64 0, .int .i64 0, .string ⟨#[]⟩, .string ⟨#[]⟩, .bool false, .int .i64 0, .slice none 0 0, .slice none 0 0, .slice none 0 0, .int .i64 0, .int .i64 0, .string ⟨#[]⟩, .int .u64 0, .slice none 0 0, .slice none 0 0, .slice none 0 0, .slice none 0 0, .int .i64 0, .string ⟨#[]⟩, .string ⟨#[]⟩, .int .u64 0, .int .i64 0] 46
    simpa using this
  have h2 := h.below hb2
  go_enter Try.func9, Try.ntmps9
  go_wp2_with fail
  generalize ((w.alloc (.cells #[.int .i64 4, .int .i64 i, .int .u64 ver, .int .u64 word, c4, c5, c6, c7, c8, c9, c10, c11, c12, c13, c14, c15, c16, c17, c18, c19, c20, c21, c22, c23, c24, c25] 44)).alloc (.cells #[.bool false, .int .u64 0, .int .u64 0, .int .i64 0, .int .i64 0, .string ⟨#[]⟩, .string ⟨#[]⟩, .bool false, .int .i64 0, .slice none 0 0, .slice none 0 0, .slice none 0 0, .int .i64 0, .int .i64 0, .string ⟨#[]⟩, .int .u64 0, .slice none 0 0, .slice none 0 0, .slice none 0 0, .slice none 0 0, .int .i64 0, .string ⟨#[]⟩, .string ⟨#[]⟩, .int .u64 0, .int .i64 0] 46)) = wq at hb2 h2 BX BR ⊢
  have hl2 : w.heap.size + 2 ≤ wq.heap.size := BR.lt
  refine (none_any _ h2).mono ?_
  rintro e w1 ⟨rfl, rfl⟩
  have b0 := BX.at 0 rfl
  have b3 := BX.at 3 rfl
  go_wp2_with fail
  refine (block_no word _ h2 x0 x1 hN).mono ?_
  rintro e w3 ⟨rfl, hb3⟩
  have hB3 := below_push2 hb2 hb3 (Nat.le_refl _)
  have BR3 := BR.below hb3
  clear h2 BX BR b0 b3 hb2 hb3
  have hth := there_blk' (o := 3) (n := 17) BR3 (by decide)
  have BF := blk_sets' bkZ.toList 3 _ _ BR3
  rw [sets_replyZ] at BF
  have hBF := below_sets' (b := w.heap.size + 1) (by omega) bkZ.toList 3 _ hB3
  generalize hX : w3.setCells (w.heap.size + 1) 3 bkZ.toList = wx at BF hBF
  replace hX := Lib.hid hX
  have f0 := BF.free 0
  have c0 := BF.at 0 rfl
  have BG := BF.set 0 (.bool false)
  simp only [List.setIfInBounds_toArray, List.set_cons_zero] at BG
  go_wp2_with (first
    | (refine wpList_store_mid rfl 40 _ _ rfl (w.heap.size + 1) 3 bkZ rfl rfl hth (by kernel_rfl) (by kernel_rfl) ?_; rw [hX.out])
    | (refine wpList_load_row rfl 46 _ rfl (w.heap.size + 1) rfl 46 _ (0, 0) _ BG.h Try.underlying46 rfl (by kernel_rfl) ?_)
    | (refine wpList_store_row rfl 46 _ _ rfl (w.heap.size + 1) _ rfl rfl 46 _ BG.h (by kernel_rfl) (by rfl) (by kernel_rfl) ?_))
  refine bodyPost_ret (results_cell_row rfl _ _ (w.heap.size + 1) 46 #[.bool false, .int .u64 0, .int .u64 0, .int .i64 0, .int .i64 0, .string ⟨#[]⟩, .string ⟨#[]⟩, .bool false, .int .i64 0, .slice none 0 0, .slice none 0 0, .slice none 0 0, .int .i64 0, .int .i64 0, .string ⟨#[]⟩, .int .u64 0, .slice none 0 0, .slice none 0 0, .slice none 0 0, .slice none 0 0, .int .i64 0, .string ⟨#[]⟩, .string ⟨#[]⟩, .int .u64 0, .int .i64 0] (0, 0) _ rfl (Blk.row BG #[.bool false, .int .u64 0, .int .u64 0, .int .i64 0, .int .i64 0, .string ⟨#[]⟩, .string ⟨#[]⟩, .bool false, .int .i64 0, .slice none 0 0, .slice none 0 0, .slice none 0 0, .int .i64 0, .int .i64 0, .string ⟨#[]⟩, .int .u64 0, .slice none 0 0, .slice none 0 0, .slice none 0 0, .slice none 0 0, .int .i64 0, .string ⟨#[]⟩, .string ⟨#[]⟩, .int .u64 0, .int .i64 0]).h Try.underlying46 rfl (by kernel_rfl)) rfl ⟨rfl, below_setRow (hBF.setCell (by show w.heap.size ≤ w.heap.size + 1; omega) _) (by omega) _⟩
theorem sets_size (vs : List Value) : ∀ (o : Nat) (cs : Array Value), (sets' cs o vs).size = cs.size := by
  induction vs with
  | nil => intro o cs; rfl
  | cons v r ih => intro o cs; simp [sets', ih]
theorem sets_off (vs : List Value) : ∀ (o : Nat) (cs : Array Value) (m : Nat), (m < o ∨ o + vs.length ≤ m) → (sets' cs o vs)[m]? = cs[m]? := by
  induction vs with
  | nil => intro o cs m h; rfl
  | cons v r ih =>
    intro o cs m h
    simp only [List.length_cons] at h
    rw [sets', ih (o + 1) _ m (by omega), Array.getElem?_setIfInBounds_ne (by omega)]
theorem sets_at (vs : List Value) : ∀ (o : Nat) (cs : Array Value) (j : Nat), j < vs.length → o + vs.length ≤ cs.size → (sets' cs o vs)[o + j]? = vs[j]? := by
  induction vs with
  | nil => intro o cs j h; simp at h
  | cons v r ih =>
    intro o cs j h hs
    simp only [List.length_cons] at h hs
    cases j with
    | zero =>
      rw [sets', sets_off r (o + 1) _ (o + 0) (.inl (by omega)), Nat.add_zero, Array.getElem?_setIfInBounds_self_of_lt (by omega)]
      rfl
    | succ j =>
      have := ih (o + 1) (cs.setIfInBounds o v) j (by omega) (by simp; omega)
      rw [sets', show o + (j + 1) = o + 1 + j by omega, this]
      simp
/-- a block of a row of blocks was written -/
theorem sets_raw (bs : List (List Value)) (k : Nat) (vs : List Value) (hk : k < bs.length) (hv : vs.length = 17) : sets' (rawA 17 bs) (k * 17) vs = rawA 17 (bs.set k vs) := by
  have hs : (rawA 17 bs).size = bs.length * 17 := recA_size _ _ _ _
  have hle : k * 17 + 17 ≤ bs.length * 17 := by omega
  refine recA_set k vs hk (by rw [sets_size, hs]) (fun j hj => ?_) (fun i' j hne hi' hj => ?_)
  · rw [sets_at vs _ _ j (by omega) (by rw [hs, hv]; exact hle)]
    have : j < vs.length := by omega
    simp [rawF, List.getD, this]
  · exact sets_off vs _ _ _ (by rw [hv]; omega)
theorem MemAt.putAt {w : World} {o oc g gb gr A T : Nat} {L : List (Int × Int)} {bs rs : List (List Value)} (h : MemAt w o oc g gb gr A T L bs rs) (k : Nat) (hk : k < A) (vs : List Value) (hv : vs.length = 17) :
    MemAt (w.setCells gb (k * 17) vs) o oc g gb gr A T L (bs.set k vs) rs := by
  have F := fr_sets' (S := [gb]) (b := gb) (by simp) vs (k * 17) w
  have hB := blk_sets' vs (k * 17) _ _ h.blocks
  rw [sets_raw bs k vs (by rw [h.lb]; exact hk) hv] at hB
  have n := h.ne
  exact ⟨F.blk h.head (by simp; omega), ⟨F.blk h.cells.head (by simp; omega), F.blk h.cells.rows (by simp; omega), h.cells.ne, h.cells.rng, h.cells.len⟩, hB, F.blk h.records (by simp; omega), h.len, by simpa using h.lb, h.lr, h.a1, h.t1, h.ne⟩
end Go.Proofs.Ytgdeiaholkmfeaa.MemP

/-
  Do of what puts a block: contracts.
-/
namespace Go.Proofs.Ytgdeiaholkmfeaa.MemP
open Go.RowKit RefP CellP Dp
set_option linter.unusedVariables false
set_option linter.unusedSimpArgs false
/-- an access' cells, with a block -/
abbrev putA (i ver word : Int) (h : BlockH) (x : BlockV) (c21 c22 c23 c24 c25 : Value) : Array Value := #[.int .i64 5, .int .i64 i, .int .u64 ver, .int .u64 word, .int .i64 x.kind, .int .i64 x.node.level, .string x.node.low, .string x.node.high, .bool x.node.last, .int .i64 x.node.next, .slice h.node.keys.a x.node.keys.length h.node.keys.c, .slice h.node.vals.a x.node.vals.length h.node.vals.c, .slice h.node.kids.a x.node.kids.length h.node.kids.c, .int .i64 x.plan.thread, .int .i64 x.plan.ans.code, .string x.plan.ans.key, .int .u64 x.plan.ans.val, .slice h.plan.pairs.a x.plan.ans.pairs.length h.plan.pairs.c, .slice h.plan.steps.a x.plan.steps.length h.plan.steps.c, .slice h.plan.extra.a x.plan.extra.length h.plan.extra.c, .slice h.pairs.a x.pairs.length h.pairs.c, c21, c22, c23, c24, c25]
set_option maxRecDepth 100000 in
set_option maxHeartbeats 3200000 in
theorem do_put_yes {o oc g gb gr A T : Nat} {L : List (Int × Int)} {bs rs : List (List Value)} (i ver word : Int) (c21 c22 c23 c24 c25 : Value) (k : Nat) (S : List Nat) (q : BlockH) (b : BlockV) (w : World) (h : MemAt w o oc g gb gr A T L bs rs) (x0 : 0 ≤ word) (x1 : word ≤ 18446744073709551615) (hN : nameB A T L word = true) (hi : k < A) (hp : nameP A word = (k : Int)) (H : BlockOk w S q b) (hf : Few b) :
    Calls Try.prog 9 #[.pointer (some ⟨o, 0, none⟩), .agg (putA i ver word q b c21 c22 c23 c24 c25)] w fun e w' => e = .returned (.agg #[.bool true, .int .u64 0, .int .u64 0, .int .i64 0, .int .i64 0, .string ⟨#[]⟩, .string ⟨#[]⟩, .bool false, .int .i64 0, .slice none 0 0, .slice none 0 0, .slice none 0 0, .int .i64 0, .int .i64 0, .string ⟨#[]⟩, .int .u64 0, .slice none 0 0, .slice none 0 0, .slice none 0 0, .slice none 0 0, .int .i64 0, .string ⟨#[]⟩, .string ⟨#[]⟩, .int .u64 0, .int .i64 0]) ∧ (∃ q', MemAt w' o oc g gb gr A T L (bs.set k (blockA q' b).toList) rs ∧ BlockOk w' (List.range w.heap.size) q' b) ∧ Fr [gb] w w' := by
  have hb2 : Below w.heap.size w ((w.alloc (.cells (putA i ver word q b c21 c22 c23 c24 c25) 44)).alloc (.cells #[.bool false, .int .u64 0, .int .u64 0, .int .i64 0, .int .i64 0, .string ⟨#[]⟩, .string ⟨#[]⟩, .bool false, .int .i64 0, .slice none 0 0, .slice none 0 0, .slice none 0 0, .int .i64 0, .int .i64 0, .string ⟨#[]⟩, .int .u64 0, .slice none 0 0, .slice none 0 0, .slice none 0 0, .slice none 0 0, .int .i64 0, .string ⟨#[]⟩, .string ⟨#[]⟩, .int .u64 0, .int .i64 0] 46)) := by (repeat (first | exact Below.refl _ _ | assumption | refine below_alloc2 ?_ (by first | exact Nat.le_refl _ | omega) _ | refine Below.drew ?_ | refine below_drewN ?_ _ | refine below_push2 ?_ ‹_› (by first | exact Nat.le_refl _ | omega) | refine Below.setCell ?_ (by first | (simp; done) | (simp; omega) | omega) _))
  have BX := (Blk.new w (putA i ver word q b c21 c22 c23 c24 c25) 44).alloc (.cells #[.bool false, .int .u64 0, .int .u64 0, .int .i64 0, .int .i64 0, .string ⟨#[]⟩, .string ⟨#[]⟩, .bool false, .int .i64 0, .slice none 0 0, .slice none 0 0, .slice none 0 0, .int .i64 0, .int .i64 0, .string ⟨#[]⟩, .int .u64 0, .slice none 0 0, .slice none 0 0, .slice none 0 0, .slice none 0 0, .int .i64 0, .string ⟨#[]⟩, .string ⟨#[]⟩, .int .u64 0, .int .i64 0] 46)
  have BR : Blk ((w.alloc (.cells (putA i ver word q b c21 c22 c23 c24 c25) 44)).alloc (.cells #[.bool false, .int .u64 0, .int .u64 0, .int .i64 0, .int .i64 0, .string ⟨#[]⟩, .string ⟨#[]⟩, .bool false, .int .i64 0, .slice none 0 0, .slice none 0 0, .slice none 0 0, .int .i64 0, .int .i64 0, .string ⟨#[]⟩, .int .u64 0, .slice none 0 0, .slice none 0 0, .slice none 0 0, .slice none 0 0, .int .i64 0, .string ⟨#[]⟩, .string ⟨#[]⟩, .int .u64 0, .int .i64 0] 46)) (w.heap.size + 1) #[.bool false, .int .u64 0, .int .u64 0, .int .i64 0, .int .i64 0, .string ⟨#[]⟩, .string ⟨#[]⟩, .bool false, .int .i64 0, .slice none 0 0, .slice none 0 0, .slice none 0 0, .int .i64 0, .int .i64 0, .string ⟨#[]⟩, .int .u64 0, .slice none 0 0, .slice none 0 0, .slice none 0 0, .slice none 0 0, .int .i64 0, .string ⟨#[]⟩, .string ⟨#[]⟩, .int .u64 0, .int .i64 0] 46 := by
    have := Blk.new (w.alloc (.cells (putA i ver word q b c21 c22 c23 c24 c25) 44)) #[.bool false, .int .u64 0, .int .u64 0, .int .i64 0, .int .i64 0, .string ⟨#[]⟩, .string ⟨#[]⟩, .bool false, .int .i64 0, .slice none 0 0, .slice none 0 0, .slice none 0 0, .int .i64 0, .int .i64 0, .string ⟨#[]⟩, .int .u64 0, .slice none 0 0, .slice none 0 0, .slice none 0 0, .slice none 0 0, .int .i64 0, .string ⟨#[]⟩, .string ⟨#[]⟩, .int .u64 0, .int .i64 0] 46
    simpa using this
  have h2 := h.below hb2
  go_enter Try.func9, Try.ntmps9
  go_wp2_with fail
  generalize ((w.alloc (.cells (putA i ver word q b c21 c22 c23 c24 c25) 44)).alloc (.cells #[.bool false, .int .u64 0, .int .u64 0, .int .i64 0, .int .i64 0, .string ⟨#[]⟩, .string ⟨#[]⟩, .bool false, .int .i64 0, .slice none 0 0, .slice none 0 0, .slice none 0 0, .int .i64 0, .int .i64 0, .string ⟨#[]⟩, .int .u64 0, .slice none 0 0, .slice none 0 0, .slice none 0 0, .slice none 0 0, .int .i64 0, .string ⟨#[]⟩, .string ⟨#[]⟩, .int .u64 0, .int .i64 0] 46)) = wq at hb2 h2 BX BR ⊢
  have hl2 : w.heap.size + 2 ≤ wq.heap.size := BR.lt
  refine (none_any _ h2).mono ?_
  rintro e w1 ⟨rfl, rfl⟩
  have b0 := BX.at 0 rfl
  have b3 := BX.at 3 rfl
  go_wp2_with fail
  refine (named_any word _ h2 x0 x1).mono ?_
  rw [hN, hp]
  rintro e w3 ⟨rfl, hb3⟩
  have hB3 := below_push2 hb2 hb3 (Nat.le_refl _)
  have BR3 := BR.below hb3
  have BX3 := BX.below hb3
  have h3 := h2.below hb3
  have hl3 := hb3.size
  have hi' : (k : Int) < (A : Int) := by omega
  clear h2 BX BR b0 b3 hb2 hb3
  have d9 : w3.cell? ⟨o, 9, none⟩ = some (.slice (some ⟨gb, 0, none⟩) A A) := h3.head.at 9 rfl
  go_upto_region 14 with (fail)
  refine wp_region_held_drew (S := fun w' => w'.cell? ⟨o, 9, none⟩ = some (.slice (some ⟨gb, 0, none⟩) A A) ∧ w'.cell? ⟨w.heap.size, 4, none⟩ = some (.int .i64 b.kind) ∧ w'.cell? ⟨w.heap.size, 5, none⟩ = some (.int .i64 b.node.level) ∧ w'.cell? ⟨w.heap.size, 6, none⟩ = some (.string b.node.low) ∧ w'.cell? ⟨w.heap.size, 7, none⟩ = some (.string b.node.high) ∧ w'.cell? ⟨w.heap.size, 8, none⟩ = some (.bool b.node.last) ∧ w'.cell? ⟨w.heap.size, 9, none⟩ = some (.int .i64 b.node.next) ∧ w'.cell? ⟨w.heap.size, 10, none⟩ = some (.slice q.node.keys.a b.node.keys.length q.node.keys.c) ∧ w'.cell? ⟨w.heap.size, 11, none⟩ = some (.slice q.node.vals.a b.node.vals.length q.node.vals.c) ∧ w'.cell? ⟨w.heap.size, 12, none⟩ = some (.slice q.node.kids.a b.node.kids.length q.node.kids.c) ∧ w'.cell? ⟨w.heap.size, 13, none⟩ = some (.int .i64 b.plan.thread) ∧ w'.cell? ⟨w.heap.size, 14, none⟩ = some (.int .i64 b.plan.ans.code) ∧ w'.cell? ⟨w.heap.size, 15, none⟩ = some (.string b.plan.ans.key) ∧ w'.cell? ⟨w.heap.size, 16, none⟩ = some (.int .u64 b.plan.ans.val) ∧ w'.cell? ⟨w.heap.size, 17, none⟩ = some (.slice q.plan.pairs.a b.plan.ans.pairs.length q.plan.pairs.c) ∧ w'.cell? ⟨w.heap.size, 18, none⟩ = some (.slice q.plan.steps.a b.plan.steps.length q.plan.steps.c) ∧ w'.cell? ⟨w.heap.size, 19, none⟩ = some (.slice q.plan.extra.a b.plan.extra.length q.plan.extra.c) ∧ w'.cell? ⟨w.heap.size, 20, none⟩ = some (.slice q.pairs.a b.pairs.length q.pairs.c)) (by kernel_rfl) ?_ (fun hHeld => ?_)
  · exact ⟨h3.head.drew.at 9 rfl, BX3.drew.at 4 rfl, BX3.drew.at 5 rfl, BX3.drew.at 6 rfl, BX3.drew.at 7 rfl, BX3.drew.at 8 rfl, BX3.drew.at 9 rfl, BX3.drew.at 10 rfl, BX3.drew.at 11 rfl, BX3.drew.at 12 rfl, BX3.drew.at 13 rfl, BX3.drew.at 14 rfl, BX3.drew.at 15 rfl, BX3.drew.at 16 rfl, BX3.drew.at 17 rfl, BX3.drew.at 18 rfl, BX3.drew.at 19 rfl, BX3.drew.at 20 rfl⟩
  refine wpAnyH_take (i := 0) (oi := ⟨_, _, _, _, _, _⟩) (v := ?_) rfl (by kernel_rfl) (by kernel_rfl) (by kernel_rfl) (fun _ _ _ h => h) (Or.inl ⟨by rfl, ?_⟩) (by assumption) ?_
  rotate_left
  · intro wS hSw
    try dsimp only at hSw
    go_simp
    try with_reducible rfl
  try simp only [Act.put, List.setIfInBounds_toArray, List.set_cons_zero, List.set_cons_succ]
  refine wpAnyH_take (i := 1) (oi := ⟨_, _, _, _, _, _⟩) (v := ?_) rfl (by kernel_rfl) (by kernel_rfl) (by kernel_rfl) (fun _ _ _ h => h) (Or.inl ⟨by rfl, ?_⟩) (by assumption) ?_
  rotate_left
  · intro wS hSw
    try dsimp only at hSw
    go_simp
    try with_reducible rfl
  try simp only [Act.put, List.setIfInBounds_toArray, List.set_cons_zero, List.set_cons_succ]
  refine wpAnyH_take (i := 2) (oi := ⟨_, _, _, _, _, _⟩) (v := ?_) rfl (by kernel_rfl) (by kernel_rfl) (by kernel_rfl) (fun _ _ _ h => h) (Or.inl ⟨by rfl, ?_⟩) (by assumption) ?_
  rotate_left
  · intro wS hSw
    try dsimp only at hSw
    go_simp
    try with_reducible rfl
  try simp only [Act.put, List.setIfInBounds_toArray, List.set_cons_zero, List.set_cons_succ]
  refine wpAnyH_take (i := 3) (oi := ⟨_, _, _, _, _, _⟩) (v := ?_) rfl (by kernel_rfl) (by kernel_rfl) (by kernel_rfl) (fun _ _ _ h => h) (Or.inl ⟨by rfl, ?_⟩) (by assumption) ?_
  rotate_left
  · intro wS hSw
    try dsimp only at hSw
    go_simp
    try with_reducible rfl
  try simp only [Act.put, List.setIfInBounds_toArray, List.set_cons_zero, List.set_cons_succ]
  refine wpAnyH_take (i := 4) (oi := ⟨_, _, _, _, _, _⟩) (v := ?_) rfl (by kernel_rfl) (by kernel_rfl) (by kernel_rfl) (fun _ _ _ h => h) (Or.inl ⟨by rfl, ?_⟩) (by assumption) ?_
  rotate_left
  · intro wS hSw
    try dsimp only at hSw
    go_simp
    try with_reducible rfl
  try simp only [Act.put, List.setIfInBounds_toArray, List.set_cons_zero, List.set_cons_succ]
  refine wpAnyH_take (i := 5) (oi := ⟨_, _, _, _, _, _⟩) (v := ?_) rfl (by kernel_rfl) (by kernel_rfl) (by kernel_rfl) (fun _ _ _ h => h) (Or.inl ⟨by rfl, ?_⟩) (by assumption) ?_
  rotate_left
  · intro wS hSw
    try dsimp only at hSw
    go_simp
    try with_reducible rfl
  try simp only [Act.put, List.setIfInBounds_toArray, List.set_cons_zero, List.set_cons_succ]
  refine wpAnyH_take (i := 6) (oi := ⟨_, _, _, _, _, _⟩) (v := ?_) rfl (by kernel_rfl) (by kernel_rfl) (by kernel_rfl) (fun _ _ _ h => h) (Or.inl ⟨by rfl, ?_⟩) (by assumption) ?_
  rotate_left
  · intro wS hSw
    try dsimp only at hSw
    go_simp
    try with_reducible rfl
  try simp only [Act.put, List.setIfInBounds_toArray, List.set_cons_zero, List.set_cons_succ]
  refine wpAnyH_ready (rs := [7]) (by kernel_rfl) (by simp) ?_
  refine AllReadyH.cons rfl (fun K hK => ?_) AllReadyH.nil
  go_simp
  have hn := h.ne
  have hgbl := h.blocks.lt
  have hdB := hB3.drew
  have hd3 : w.heap.size + 2 ≤ w3.drew.heap.size := Nat.le_trans hl2 hl3
  refine (show Calls _ _ _ _ _ from copied_any S q b w3.drew (H.keep (Keeps.of_below hdB)) hf).mono ?_
  rintro e w4 ⟨⟨q', rfl, H4⟩, hb4⟩
  replace H4 := H4.more (S' := List.range (w.heap.size + 2)) (range_sub hd3)
  have hB4 := below_push2 hdB hb4 (Nat.le_refl _)
  have h4 := (h3.below (Below.refl _ _).drew).below hb4
  have BX4 := BX3.drew.below hb4
  have BR4 := BR3.drew.below hb4
  refine hK.out _ _ ?_ (fun hHeld => ?_)
  · exact ⟨h4.head.at 9 rfl, BX4.at 4 rfl, BX4.at 5 rfl, BX4.at 6 rfl, BX4.at 7 rfl, BX4.at 8 rfl, BX4.at 9 rfl, BX4.at 10 rfl, BX4.at 11 rfl, BX4.at 12 rfl, BX4.at 13 rfl, BX4.at 14 rfl, BX4.at 15 rfl, BX4.at 16 rfl, BX4.at 17 rfl, BX4.at 18 rfl, BX4.at 19 rfl, BX4.at 20 rfl⟩
  clear hK K hb4 hdB hd3 h3 BX3 BR3 d9
  refine wpAnyH_take (i := 8) (oi := ⟨_, _, _, _, _, _⟩) (v := ?_) rfl (by kernel_rfl) (by kernel_rfl) (by kernel_rfl) (fun _ _ _ h => h) (Or.inl ⟨by rfl, ?_⟩) (by assumption) ?_
  rotate_left
  · intro wS hSw
    try dsimp only at hSw
    go_simp
    try with_reducible rfl
  try simp only [Act.put, List.setIfInBounds_toArray, List.set_cons_zero, List.set_cons_succ]
  have hth := there_blk' (o := k * 17) (n := 17) h4.blocks (by rw [recA_size, h4.lb]; omega)
  have h5 := h4.putAt k hi (blockA q' b).toList rfl
  have F5 := fr_sets' (S := [gb]) (b := gb) (by simp) (blockA q' b).toList (k * 17) w4
  have BX5 := F5.blk BX4 (by simp; omega)
  have BR5 := F5.blk BR4 (by simp; omega)
  have H5 := H4.keep (F5.keeps.more (S' := List.range (w.heap.size + 2)) (by simp; omega))
  have F5' : Fr [gb] w (w4.setCells gb (k * 17) (blockA q' b).toList) := (Fr.of_below hB4).trans F5
  refine wpAnyH_ready (rs := [9]) (by kernel_rfl) (by simp) ?_
  refine AllReadyH.cons rfl (fun K hK => ?_) AllReadyH.nil
  rw [if_pos (by rfl)]
  refine wp_store_mid 40 _ _ rfl gb (k * 17) (blockA q' b) rfl rfl hth (by kernel_rfl) (by kernel_rfl) ?_
  refine hK.out _ _ ?_ (fun hHeld => ?_)
  · exact ⟨h5.head.at 9 rfl, BX5.at 4 rfl, BX5.at 5 rfl, BX5.at 6 rfl, BX5.at 7 rfl, BX5.at 8 rfl, BX5.at 9 rfl, BX5.at 10 rfl, BX5.at 11 rfl, BX5.at 12 rfl, BX5.at 13 rfl, BX5.at 14 rfl, BX5.at 15 rfl, BX5.at 16 rfl, BX5.at 17 rfl, BX5.at 18 rfl, BX5.at 19 rfl, BX5.at 20 rfl⟩
  clear hK K hth
  generalize w4.setCells gb (k * 17) (blockA q' b).toList = w5 at h5 F5 BX5 BR5 H5 F5' ⊢ hHeld
  refine wpAnyH_take (i := 10) (oi := ⟨_, _, _, _, _, _⟩) (v := ?_) rfl (by kernel_rfl) (by kernel_rfl) (by kernel_rfl) (fun _ _ _ h => h) (Or.inl ⟨by rfl, ?_⟩) (by assumption) ?_
  rotate_left
  · intro wS hSw
    try dsimp only at hSw
    go_simp
    try with_reducible rfl
  try simp only [Act.put, List.setIfInBounds_toArray, List.set_cons_zero, List.set_cons_succ]
  have c0 := BR5.at 0 rfl
  have f0 := BR5.free 0
  refine wpAnyH_ready (rs := [11]) (by kernel_rfl) (by simp) ?_
  refine AllReadyH.cons rfl (fun K hK => ?_) AllReadyH.nil
  go_simp
  have BX6 := BX5.far ⟨w.heap.size + 1, 0, none⟩ (.bool true) (by simp)
  have BR6 := BR5.set 0 (.bool true)
  simp only [List.setIfInBounds_toArray, List.set_cons_zero] at BR6
  have F6 : Fr [gb, w.heap.size + 1] w (w5.setCell ⟨w.heap.size + 1, 0, none⟩ (.bool true)) := (F5'.more (by simp)).set _ _ (.inl (by simp))
  have h6 := h5.off (Fr.set (S := [w.heap.size + 1]) (Fr.refl _ w5) ⟨w.heap.size + 1, 0, none⟩ (.bool true) (.inl (by simp))) (by have := h.head.lt; have := h.cells.head.lt; have := h.cells.rows.lt; have := h.records.lt; simp; omega)
  have H6 := H5.keep (Keeps.set (S := List.range (w.heap.size + 2)) (w := w5) ⟨w.heap.size + 1, 0, none⟩ (.bool true) (by simp))
  refine hK.out _ _ ?_ (fun hHeld => ?_)
  · exact ⟨h6.head.at 9 rfl, BX6.at 4 rfl, BX6.at 5 rfl, BX6.at 6 rfl, BX6.at 7 rfl, BX6.at 8 rfl, BX6.at 9 rfl, BX6.at 10 rfl, BX6.at 11 rfl, BX6.at 12 rfl, BX6.at 13 rfl, BX6.at 14 rfl, BX6.at 15 rfl, BX6.at 16 rfl, BX6.at 17 rfl, BX6.at 18 rfl, BX6.at 19 rfl, BX6.at 20 rfl⟩
  clear hK K
  refine wpAnyH_done (by kernel_rfl) ?_ _
  go_wp2_with (first
    | (refine wpList_load_row rfl 46 _ rfl (w.heap.size + 1) rfl 46 _ (0, 0) _ BR6.h Try.underlying46 rfl (by kernel_rfl) ?_)
    | (refine wpList_store_row rfl 46 _ _ rfl (w.heap.size + 1) _ rfl rfl 46 _ BR6.h (by kernel_rfl) (by rfl) (by kernel_rfl) ?_))
  refine bodyPost_ret (results_cell_row rfl _ _ (w.heap.size + 1) 46 #[.bool true, .int .u64 0, .int .u64 0, .int .i64 0, .int .i64 0, .string ⟨#[]⟩, .string ⟨#[]⟩, .bool false, .int .i64 0, .slice none 0 0, .slice none 0 0, .slice none 0 0, .int .i64 0, .int .i64 0, .string ⟨#[]⟩, .int .u64 0, .slice none 0 0, .slice none 0 0, .slice none 0 0, .slice none 0 0, .int .i64 0, .string ⟨#[]⟩, .string ⟨#[]⟩, .int .u64 0, .int .i64 0] (0, 0) _ rfl (Blk.row BR6 #[.bool true, .int .u64 0, .int .u64 0, .int .i64 0, .int .i64 0, .string ⟨#[]⟩, .string ⟨#[]⟩, .bool false, .int .i64 0, .slice none 0 0, .slice none 0 0, .slice none 0 0, .int .i64 0, .int .i64 0, .string ⟨#[]⟩, .int .u64 0, .slice none 0 0, .slice none 0 0, .slice none 0 0, .slice none 0 0, .int .i64 0, .string ⟨#[]⟩, .string ⟨#[]⟩, .int .u64 0, .int .i64 0]).h Try.underlying46 rfl (by kernel_rfl)) rfl ⟨rfl, ⟨q', ?_, ?_⟩, ?_⟩
  · exact h6.off (Fr.row (S := [w.heap.size + 1]) _ _ (by simp)) (by have := h.head.lt; have := h.cells.head.lt; have := h.cells.rows.lt; have := h.records.lt; simp; omega)
  · exact (H6.keep (Fr.row (S := List.range (w.heap.size + 2)) (w.heap.size + 1) _ (by simp)).keeps).more (range_sub (by omega))
  · have F7 := F6.trans (Fr.row (S := [gb, w.heap.size + 1]) (w.heap.size + 1) #[.bool true, .int .u64 0, .int .u64 0, .int .i64 0, .int .i64 0, .string ⟨#[]⟩, .string ⟨#[]⟩, .bool false, .int .i64 0, .slice none 0 0, .slice none 0 0, .slice none 0 0, .int .i64 0, .int .i64 0, .string ⟨#[]⟩, .int .u64 0, .slice none 0 0, .slice none 0 0, .slice none 0 0, .slice none 0 0, .int .i64 0, .string ⟨#[]⟩, .string ⟨#[]⟩, .int .u64 0, .int .i64 0] (by simp))
    exact ⟨F7.os, F7.tape, F7.output, F7.size, fun c hc hn' => F7.block c hc (by simp at hn' ⊢; omega)⟩
set_option maxRecDepth 100000 in
set_option maxHeartbeats 3200000 in
theorem do_put_no {o oc g gb gr A T : Nat} {L : List (Int × Int)} {bs rs : List (List Value)} (i ver word : Int) (c21 c22 c23 c24 c25 : Value) (q : BlockH) (b : BlockV) (w : World) (h : MemAt w o oc g gb gr A T L bs rs) (x0 : 0 ≤ word) (x1 : word ≤ 18446744073709551615) (hN : nameB A T L word = false) :
    Calls Try.prog 9 #[.pointer (some ⟨o, 0, none⟩), .agg (putA i ver word q b c21 c22 c23 c24 c25)] w fun e w' => e = .returned (.agg #[.bool false, .int .u64 0, .int .u64 0, .int .i64 0, .int .i64 0, .string ⟨#[]⟩, .string ⟨#[]⟩, .bool false, .int .i64 0, .slice none 0 0, .slice none 0 0, .slice none 0 0, .int .i64 0, .int .i64 0, .string ⟨#[]⟩, .int .u64 0, .slice none 0 0, .slice none 0 0, .slice none 0 0, .slice none 0 0, .int .i64 0, .string ⟨#[]⟩, .string ⟨#[]⟩, .int .u64 0, .int .i64 0]) ∧ Below w.heap.size w w' := by
  have hb2 : Below w.heap.size w ((w.alloc (.cells (putA i ver word q b c21 c22 c23 c24 c25) 44)).alloc (.cells #[.bool false, .int .u64 0, .int .u64 0, .int .i64 0, .int .i64 0, .string ⟨#[]⟩, .string ⟨#[]⟩, .bool false, .int .i64 0, .slice none 0 0, .slice none 0 0, .slice none 0 0, .int .i64 0, .int .i64 0, .string ⟨#[]⟩, .int .u64 0, .slice none 0 0, .slice none 0 0, .slice none 0 0, .slice none 0 0, .int .i64 0, .string ⟨#[]⟩, .string ⟨#[]⟩, .int .u64 0, .int .i64 0] 46)) := by (repeat (first | exact Below.refl _ _ | assumption | refine below_alloc2 ?_ (by first | exact Nat.le_refl _ | omega) _ | refine Below.drew ?_ | refine below_drewN ?_ _ | refine below_push2 ?_ ‹_› (by first | exact Nat.le_refl _ | omega) | refine Below.setCell ?_ (by first | (simp; done) | (simp; omega) | omega) _))
  have BX := (Blk.new w (putA i ver word q b c21 c22 c23 c24 c25) 44).alloc (.cells #[.bool false, .int .u64 0, .int .u64 0, .int .i64 0, .int .i64 0, .string ⟨#[]⟩, .string ⟨#[]⟩, .bool false, .int .i64 0, .slice none 0 0, .slice none 0 0, .slice none 0 0, .int .i64 0, .int .i64 0, .string ⟨#[]⟩, .int .u64 0, .slice none 0 0, .slice none 0 0, .slice none 0 0, .slice none 0 0, .int .i64 0, .string ⟨#[]⟩, .string ⟨#[]⟩, .int .u64 0, .int .i64 0] 46)
  have BR : Blk ((w.alloc (.cells (putA i ver word q b c21 c22 c23 c24 c25) 44)).alloc (.cells #[.bool false, .int .u64 0, .int .u64 0, .int .i64 0, .int .i64 0, .string ⟨#[]⟩, .string ⟨#[]⟩, .bool false, .int .i64 0, .slice none 0 0, .slice none 0 0, .slice none 0 0, .int .i64 0, .int .i64 0, .string ⟨#[]⟩, .int .u64 0, .slice none 0 0, .slice none 0 0, .slice none 0 0, .slice none 0 0, .int .i64 0, .string ⟨#[]⟩, .string ⟨#[]⟩, .int .u64 0, .int .i64 0] 46)) (w.heap.size + 1) #[.bool false, .int .u64 0, .int .u64 0, .int .i64 0, .int .i64 0, .string ⟨#[]⟩, .string ⟨#[]⟩, .bool false, .int .i64 0, .slice none 0 0, .slice none 0 0, .slice none 0 0, .int .i64 0, .int .i64 0, .string ⟨#[]⟩, .int .u64 0, .slice none 0 0, .slice none 0 0, .slice none 0 0, .slice none 0 0, .int .i64 0, .string ⟨#[]⟩, .string ⟨#[]⟩, .int .u64 0, .int .i64 0] 46 := by
    have := Blk.new (w.alloc (.cells (putA i ver word q b c21 c22 c23 c24 c25) 44)) #[.bool false, .int .u64 0, .int .u64 0, .int .i64 0, .int .i64 0, .string ⟨#[]⟩, .string ⟨#[]⟩, .bool false, .int .i64 0, .slice none 0 0, .slice none 0 0, .slice none 0 0, .int .i64 0, .int .i64 0, .string ⟨#[]⟩, .int .u64 0, .slice none 0 0, .slice none 0 0, .slice none 0 0, .slice none 0 0, .int .i64 0, .string ⟨#[]⟩, .string ⟨#[]⟩, .int .u64 0, .int .i64 0] 46
    simpa using this
  have h2 := h.below hb2
  go_enter Try.func9, Try.ntmps9
  go_wp2_with fail
  generalize ((w.alloc (.cells (putA i ver word q b c21 c22 c23 c24 c25) 44)).alloc (.cells #[.bool false, .int .u64 0, .int .u64 0, .int .i64 0, .int .i64 0, .string ⟨#[]⟩, .string ⟨#[]⟩, .bool false, .int .i64 0, .slice none 0 0, .slice none 0 0, .slice none 0 0, .int .i64 0, .int .i64 0, .string ⟨#[]⟩, .int .u64 0, .slice none 0 0, .slice none 0 0, .slice none 0 0, .slice none 0 0, .int .i64 0, .string ⟨#[]⟩, .string ⟨#[]⟩, .int .u64 0, .int .i64 0] 46)) = wq at hb2 h2 BX BR ⊢
  have hl2 : w.heap.size + 2 ≤ wq.heap.size := BR.lt
  refine (none_any _ h2).mono ?_
  rintro e w1 ⟨rfl, rfl⟩
  have b0 := BX.at 0 rfl
  have b3 := BX.at 3 rfl
  go_wp2_with fail
  refine (named_any word _ h2 x0 x1).mono ?_
  rw [hN]
  rintro e w3 ⟨rfl, hb3⟩
  have hB3 := below_push2 hb2 hb3 (Nat.le_refl _)
  have BR3 := BR.below hb3
  go_wp2_with (first
    | (refine wpList_load_row rfl 46 _ rfl (w.heap.size + 1) rfl 46 _ (0, 0) _ BR3.h Try.underlying46 rfl (by kernel_rfl) ?_)
    | (refine wpList_store_row rfl 46 _ _ rfl (w.heap.size + 1) _ rfl rfl 46 _ BR3.h (by kernel_rfl) (by rfl) (by kernel_rfl) ?_))
  refine bodyPost_ret (results_cell_row rfl _ _ (w.heap.size + 1) 46 #[.bool false, .int .u64 0, .int .u64 0, .int .i64 0, .int .i64 0, .string ⟨#[]⟩, .string ⟨#[]⟩, .bool false, .int .i64 0, .slice none 0 0, .slice none 0 0, .slice none 0 0, .int .i64 0, .int .i64 0, .string ⟨#[]⟩, .int .u64 0, .slice none 0 0, .slice none 0 0, .slice none 0 0, .slice none 0 0, .int .i64 0, .string ⟨#[]⟩, .string ⟨#[]⟩, .int .u64 0, .int .i64 0] (0, 0) _ rfl (Blk.row BR3 #[.bool false, .int .u64 0, .int .u64 0, .int .i64 0, .int .i64 0, .string ⟨#[]⟩, .string ⟨#[]⟩, .bool false, .int .i64 0, .slice none 0 0, .slice none 0 0, .slice none 0 0, .int .i64 0, .int .i64 0, .string ⟨#[]⟩, .int .u64 0, .slice none 0 0, .slice none 0 0, .slice none 0 0, .slice none 0 0, .int .i64 0, .string ⟨#[]⟩, .string ⟨#[]⟩, .int .u64 0, .int .i64 0]).h Try.underlying46 rfl (by kernel_rfl)) rfl ⟨rfl, below_setRow hB3 (by omega) _⟩
end Go.Proofs.Ytgdeiaholkmfeaa.MemP

/-
  A struct of many cells, loaded in a region that draws its order and whose calls make memory: one step, whatever its number of cells.
-/
namespace Go.Proofs.Ytgdeiaholkmfeaa.QuietRow
open Go.Sort Go.RowKit
theorem quiet_load_mid {P : Program} {C : World → Prop} {K : Act → Prop} {op : Oper} {a : Act} (ty : TypeId) (x : Operand) (ho : op.op = .load ty x)
    (b o : Nat) (hx : a.eval x = .pointer (some ⟨b, o, none⟩)) (cs : List Value) (d : TypeDesc) (hc : ∀ w, C w → w.rangeAt b o cs)
    (hu : P.underlying ty = some d) (hd : d.isRow = true) (hi : (P.info? ty).map (·.size) = some cs.length)
    (h : K (a.put op.dst (.agg cs.toArray))) : op.quiet P a C K :=
  ⟨_, fun w hw => by
    unfold Oper.quietAt execOp
    simp only [ho, hx, Instr.loadAt, Instr.sureAddr, Sem.run_bind, Sem.run_pure, Result.andThen_ok, run_loadVar_mid w b o ty cs d (hc w hw) hu hd hi]
    exact ⟨rfl, rfl⟩, h⟩
theorem quiet_load_arr {P : Program} {C : World → Prop} {K : Act → Prop} {op : Oper} {a : Act} (ty : TypeId) (x : Operand) (ho : op.op = .load ty x)
    (b o : Nat) (hx : a.eval x = .pointer (some ⟨b, o, none⟩)) (cs : Array Value) (d : TypeDesc) (hc : ∀ w, C w → w.rangeAt b o cs.toList)
    (hu : P.underlying ty = some d) (hd : d.isRow = true) (hi : (P.info? ty).map (·.size) = some cs.size)
    (h : K (a.put op.dst (.agg cs))) : op.quiet P a C K :=
  quiet_load_mid ty x ho b o hx cs.toList d hc hu hd (by simpa using hi) (by simpa using h)
theorem range_regrown {w : World} {b o : Nat} {cs : List Value} (h : w.rangeAt b o cs) : ∀ w', (∃ p : Regrown, w' = grow (redrawn w p.d) p.os) → w'.rangeAt b o cs := by
  rintro w' ⟨p, rfl⟩ j v hj
  exact cell_regrown (h j v hj) p.d p.os
/-- one world alone -/
theorem still_of_quiet {P : Program} {ops : Array Oper} {w : World} {Q : Act → Prop} : ∀ (l : List Oper) (a : Act), wpQuiet P ops (fun w' => w' = w) Q l a → wpStill P ops w Q l a
  | [], a, h => h
  | o :: rest, a, h => by
    unfold wpQuiet at h
    unfold wpStill
    by_cases hw : Region.wanted o (yielded ops a.tmps) = true
    · rw [if_pos hw] at h ⊢
      obtain ⟨v, h1, h2⟩ := h
      have h3 := h1 w rfl
      have h4 := still_of_quiet rest _ h2
      unfold Oper.quietAt at h3
      unfold Oper.still
      generalize (execOp a.eval o).run P w = r at h3 ⊢
      cases r with
      | ok n w' =>
        cases n with
        | value u =>
          obtain ⟨rfl, rfl⟩ := h3
          exact ⟨rfl, h4⟩
        | skip =>
          obtain ⟨rfl, rfl⟩ := h3
          exact ⟨rfl, h4⟩
        | enter f args =>
          obtain ⟨rfl, h5⟩ := h3
          exact ⟨rfl, v, h5, h4⟩
        | _ => exact h3.elim
      | _ => exact h3.elim
    · rw [if_neg hw] at h ⊢
      exact still_of_quiet rest _ h
theorem tail_quiet {P : Program} {id : Nat} {Q : Exit → Act → World → Prop} {a : Act} {w : World} {l : List Oper} (n : Nat) (hm : P.follows .mixedOrders = true) (hB : Region.lexTailB .any l.toArray n = true)
    (h : wpQuiet P l.toArray (fun w' => w' = w.drew) (fun a' => wpList P l.toArray Q (l.drop n) a' w.drew) (l.take n) a) : (Code.region id l.toArray true).wp P Q a w :=
  wp_region_still_tail n hm hB (still_of_quiet _ _ h)
end Go.Proofs.Ytgdeiaholkmfeaa.QuietRow

/-
  memory.Do: contracts, of accesses to records, and of none that is known.
-/
namespace Go.Proofs.Ytgdeiaholkmfeaa.MemP
open Go.RowKit RefP CellP Dp
set_option linter.unusedVariables false
set_option linter.unusedSimpArgs false
/-- a reply that holds an operation -/
abbrev replyO (x : OpV) : Array Value := #[.bool true, .int .u64 0, .int .u64 0, .int .i64 0, .int .i64 0, .string ⟨#[]⟩, .string ⟨#[]⟩, .bool false, .int .i64 0, .slice none 0 0, .slice none 0 0, .slice none 0 0, .int .i64 0, .int .i64 0, .string ⟨#[]⟩, .int .u64 0, .slice none 0 0, .slice none 0 0, .slice none 0 0, .slice none 0 0, .int .i64 x.kind, .string x.key, .string x.upto, .int .u64 x.val, .int .i64 x.limit]
abbrev opA (x : OpV) : Array Value := #[.int .i64 x.kind, .string x.key, .string x.upto, .int .u64 x.val, .int .i64 x.limit]
theorem sets_replyO (x : OpV) : sets' #[.bool true, .int .u64 0, .int .u64 0, .int .i64 0, .int .i64 0, .string ⟨#[]⟩, .string ⟨#[]⟩, .bool false, .int .i64 0, .slice none 0 0, .slice none 0 0, .slice none 0 0, .int .i64 0, .int .i64 0, .string ⟨#[]⟩, .int .u64 0, .slice none 0 0, .slice none 0 0, .slice none 0 0, .slice none 0 0, .int .i64 0, .string ⟨#[]⟩, .string ⟨#[]⟩, .int .u64 0, .int .i64 0] 20 (opA x).toList = replyO x := by simp [sets']
theorem sets_raw5 (bs : List (List Value)) (k : Nat) (vs : List Value) (hk : k < bs.length) (hv : vs.length = 5) : sets' (rawA 5 bs) (k * 5) vs = rawA 5 (bs.set k vs) := by
  have hs : (rawA 5 bs).size = bs.length * 5 := recA_size _ _ _ _
  have hle : k * 5 + 5 ≤ bs.length * 5 := by omega
  refine recA_set k vs hk (by rw [sets_size, hs]) (fun j hj => ?_) (fun i' j hne hi' hj => ?_)
  · rw [sets_at vs _ _ j (by omega) (by rw [hs, hv]; exact hle)]
    have : j < vs.length := by omega
    simp [rawF, List.getD, this]
  · exact sets_off vs _ _ _ (by rw [hv]; omega)
theorem MemAt.recAt {w : World} {o oc g gb gr A T : Nat} {L : List (Int × Int)} {bs rs : List (List Value)} (h : MemAt w o oc g gb gr A T L bs rs) (k : Nat) (hk : k < T) (vs : List Value) (hv : vs.length = 5) :
    MemAt (w.setCells gr (k * 5) vs) o oc g gb gr A T L bs (rs.set k vs) := by
  have F := fr_sets' (S := [gr]) (b := gr) (by simp) vs (k * 5) w
  have hB := blk_sets' vs (k * 5) _ _ h.records
  rw [sets_raw5 rs k vs (by rw [h.lr]; exact hk) hv] at hB
  have n := h.ne
  exact ⟨F.blk h.head (by simp; omega), ⟨F.blk h.cells.head (by simp; omega), F.blk h.cells.rows (by simp; omega), h.cells.ne, h.cells.rng, h.cells.len⟩, F.blk h.blocks (by simp; omega), hB, h.len, h.lb, by simpa using h.lr, h.a1, h.t1, h.ne⟩
theorem raw5_at (l : List (List Value)) (i j : Nat) (hi : i < l.length) (hj : j < 5) : (rawA 5 l)[i * 5 + j]? = some (rawF (l.getD i []) j) := recA_at rawF [] l i j hi hj
set_option maxRecDepth 100000 in
set_option maxHeartbeats 3200000 in
theorem do_else {o oc g gb gr A T : Nat} {L : List (Int × Int)} {bs rs : List (List Value)} (k i ver word : Int) (c4 c5 c6 c7 c8 c9 c10 c11 c12 c13 c14 c15 c16 c17 c18 c19 c20 c21 c22 c23 c24 c25 : Value) (w : World) (h : MemAt w o oc g gb gr A T L bs rs) (hk : k < 1 ∨ 7 < k) :
    Calls Try.prog 9 #[.pointer (some ⟨o, 0, none⟩), .agg #[.int .i64 k, .int .i64 i, .int .u64 ver, .int .u64 word, c4, c5, c6, c7, c8, c9, c10, c11, c12, c13, c14, c15, c16, c17, c18, c19, c20, c21, c22, c23, c24, c25]] w fun e w' => e = .returned (.agg #[.bool false, .int .u64 0, .int .u64 0, .int .i64 0, .int .i64 0, .string ⟨#[]⟩, .string ⟨#[]⟩, .bool false, .int .i64 0, .slice none 0 0, .slice none 0 0, .slice none 0 0, .int .i64 0, .int .i64 0, .string ⟨#[]⟩, .int .u64 0, .slice none 0 0, .slice none 0 0, .slice none 0 0, .slice none 0 0, .int .i64 0, .string ⟨#[]⟩, .string ⟨#[]⟩, .int .u64 0, .int .i64 0]) ∧ Below w.heap.size w w' := by
  have k1 : k ≠ 1 := by omega
  have k2 : k ≠ 2 := by omega
  have k3 : k ≠ 3 := by omega
  have k4 : k ≠ 4 := by omega
  have k5 : k ≠ 5 := by omega
  have k6 : k ≠ 6 := by omega
  have k7 : k ≠ 7 := by omega
  have hb2 : Below w.heap.size w ((w.alloc (.cells #[.int .i64 k, .int .i64 i, .int .u64 ver, .int .u64 word, c4, c5, c6, c7, c8, c9, c10, c11, c12, c13, c14, c15, c16, c17, c18, c19, c20, c21, c22, c23, c24, c25] 44)).alloc (.cells #[.bool false, .int .u64 0, .int .u64 0, .int .i64 0, .int .i64 0, .string ⟨#[]⟩, .string ⟨#[]⟩, .bool false, .int .i64 0, .slice none 0 0, .slice none 0 0, .slice none 0 0, .int .i64 0, .int .i64 0, .string ⟨#[]⟩, .int .u64 0, .slice none 0 0, .slice none 0 0, .slice none 0 0, .slice none 0 0, .int .i64 0, .string ⟨#[]⟩, .string ⟨#[]⟩, .int .u64 0, .int .i64 0] 46)) := by (repeat (first | exact Below.refl _ _ | assumption | refine below_alloc2 ?_ (by first | exact Nat.le_refl _ | omega) _ | refine Below.drew ?_ | refine below_drewN ?_ _ | refine below_push2 ?_ ‹_› (by first | exact Nat.le_refl _ | omega) | refine Below.setCell ?_ (by first | (simp; done) | (simp; omega) | omega) _))
  have BX := (Blk.new w #[.int .i64 k, .int .i64 i, .int .u64 ver, .int .u64 word, c4, c5, c6, c7, c8, c9, c10, c11, c12, c13, c14, c15, c16, c17, c18, c19, c20, c21, c22, c23, c24, c25] 44).alloc (.cells #[.bool false, .int .u64 0, .int .u64 0, .int .i64 0, .int .i64 0, .string ⟨#[]⟩, .string ⟨#[]⟩, .bool false, .int .i64 0, .slice none 0 0, .slice none 0 0, .slice none 0 0, .int .i64 0, .int .i64 0, .string ⟨#[]⟩, .int .u64 0, .slice none 0 0, .slice none 0 0, .slice none 0 0, .slice none 0 0, .int .i64 0, .string ⟨#[]⟩, .string ⟨#[]⟩, .int .u64 0, .int .i64 0] 46)
  have BR : Blk ((w.alloc (.cells #[.int .i64 k, .int .i64 i, .int .u64 ver, .int .u64 word, c4, c5, c6, c7, c8, c9, c10, c11, c12, c13, c14, c15, c16, c17, c18, c19, c20, c21, c22, c23, c24, c25] 44)).alloc (.cells #[.bool false, .int .u64 0, .int .u64 0, .int .i64 0, .int .i64 0, .string ⟨#[]⟩, .string ⟨#[]⟩, .bool false, .int .i64 0, .slice none 0 0, .slice none 0 0, .slice none 0 0, .int .i64 0, .int .i64 0, .string ⟨#[]⟩, .int .u64 0, .slice none 0 0, .slice none 0 0, .slice none 0 0, .slice none 0 0, .int .i64 0, .string ⟨#[]⟩, .string ⟨#[]⟩, .int .u64 0, .int .i64 0] 46)) (w.heap.size + 1) #[.bool false, .int .u64 0, .int .u64 0, .int .i64 0, .int .i64 0, .string ⟨#[]⟩, .string ⟨#[]⟩, .bool false, .int .i64 0, .slice none 0 0, .slice none 0 0, .slice none 0 0, .int .i64 0, .int .i64 0, .string ⟨#[]⟩, .int .u64 0, .slice none 0 0, .slice none 0 0, .slice none 0 0, .slice none 0 0, .int .i64 0, .string ⟨#[]⟩, .string ⟨#[]⟩, .int .u64 0, .int .i64 0] 46 := by
    have := Blk.new (w.alloc (.cells #[.int .i64 k, .int .i64 i, .int .u64 ver, .int .u64 word, c4, c5, c6, c7, c8, c9, c10, c11, c12, c13, c14, c15, c16, c17, c18, c19, c20, c21, c22, c23, c24, c25] 44)) #[.bool false, .int .u64 0, .int .u64 0, .int .i64 0, .int .i64 0, .string ⟨#[]⟩, .string ⟨#[]⟩, .bool false, .int .i64 0, .slice none 0 0, .slice none 0 0, .slice none 0 0, .int .i64 0, .int .i64 0, .string ⟨#[]⟩, .int .u64 0, .slice none 0 0, .slice none 0 0, .slice none 0 0, .slice none 0 0, .int .i64 0, .string ⟨#[]⟩, .string ⟨#[]⟩, .int .u64 0, .int .i64 0] 46
    simpa using this
  have h2 := h.below hb2
  generalize hW : ((w.alloc (.cells #[.int .i64 k, .int .i64 i, .int .u64 ver, .int .u64 word, c4, c5, c6, c7, c8, c9, c10, c11, c12, c13, c14, c15, c16, c17, c18, c19, c20, c21, c22, c23, c24, c25] 44)).alloc (.cells #[.bool false, .int .u64 0, .int .u64 0, .int .i64 0, .int .i64 0, .string ⟨#[]⟩, .string ⟨#[]⟩, .bool false, .int .i64 0, .slice none 0 0, .slice none 0 0, .slice none 0 0, .int .i64 0, .int .i64 0, .string ⟨#[]⟩, .int .u64 0, .slice none 0 0, .slice none 0 0, .slice none 0 0, .slice none 0 0, .int .i64 0, .string ⟨#[]⟩, .string ⟨#[]⟩, .int .u64 0, .int .i64 0] 46)) = wq at hb2 h2 BX BR
  have b0 := BX.at 0 rfl
  have b1 := BX.at 1 rfl
  go_enter Try.func9, Try.ntmps9
  go_wp2_with fail
  refine (none_any _ h2).mono ?_
  rintro e w1 ⟨rfl, rfl⟩
  clear hW
  go_wp2_with (first
    | (refine wpList_load_row rfl 46 _ rfl (w.heap.size + 1) rfl 46 _ (0, 0) _ (BR).h Try.underlying46 rfl (by kernel_rfl) ?_)
    | (refine wpList_store_row rfl 46 _ _ rfl (w.heap.size + 1) _ rfl rfl 46 _ (BR).h (by kernel_rfl) (by rfl) (by kernel_rfl) ?_))
  refine bodyPost_ret (results_cell_row rfl _ _ (w.heap.size + 1) 46 #[.bool false, .int .u64 0, .int .u64 0, .int .i64 0, .int .i64 0, .string ⟨#[]⟩, .string ⟨#[]⟩, .bool false, .int .i64 0, .slice none 0 0, .slice none 0 0, .slice none 0 0, .int .i64 0, .int .i64 0, .string ⟨#[]⟩, .int .u64 0, .slice none 0 0, .slice none 0 0, .slice none 0 0, .slice none 0 0, .int .i64 0, .string ⟨#[]⟩, .string ⟨#[]⟩, .int .u64 0, .int .i64 0] (0, 0) _ rfl (Blk.row BR #[.bool false, .int .u64 0, .int .u64 0, .int .i64 0, .int .i64 0, .string ⟨#[]⟩, .string ⟨#[]⟩, .bool false, .int .i64 0, .slice none 0 0, .slice none 0 0, .slice none 0 0, .int .i64 0, .int .i64 0, .string ⟨#[]⟩, .int .u64 0, .slice none 0 0, .slice none 0 0, .slice none 0 0, .slice none 0 0, .int .i64 0, .string ⟨#[]⟩, .string ⟨#[]⟩, .int .u64 0, .int .i64 0]).h Try.underlying46 rfl (by kernel_rfl)) rfl ⟨rfl, below_setRow hb2 (by omega) _⟩
set_option maxRecDepth 100000 in
set_option maxHeartbeats 3200000 in
theorem do_read_no {o oc g gb gr A T : Nat} {L : List (Int × Int)} {bs rs : List (List Value)} (i ver word : Int) (c4 c5 c6 c7 c8 c9 c10 c11 c12 c13 c14 c15 c16 c17 c18 c19 c20 c21 c22 c23 c24 c25 : Value) (w : World) (h : MemAt w o oc g gb gr A T L bs rs) (hi : ¬ (0 ≤ i ∧ i < (T : Int))) :
    Calls Try.prog 9 #[.pointer (some ⟨o, 0, none⟩), .agg #[.int .i64 6, .int .i64 i, .int .u64 ver, .int .u64 word, c4, c5, c6, c7, c8, c9, c10, c11, c12, c13, c14, c15, c16, c17, c18, c19, c20, c21, c22, c23, c24, c25]] w fun e w' => e = .returned (.agg #[.bool false, .int .u64 0, .int .u64 0, .int .i64 0, .int .i64 0, .string ⟨#[]⟩, .string ⟨#[]⟩, .bool false, .int .i64 0, .slice none 0 0, .slice none 0 0, .slice none 0 0, .int .i64 0, .int .i64 0, .string ⟨#[]⟩, .int .u64 0, .slice none 0 0, .slice none 0 0, .slice none 0 0, .slice none 0 0, .int .i64 0, .string ⟨#[]⟩, .string ⟨#[]⟩, .int .u64 0, .int .i64 0]) ∧ Below w.heap.size w w' := by
  have hb2 : Below w.heap.size w ((w.alloc (.cells #[.int .i64 6, .int .i64 i, .int .u64 ver, .int .u64 word, c4, c5, c6, c7, c8, c9, c10, c11, c12, c13, c14, c15, c16, c17, c18, c19, c20, c21, c22, c23, c24, c25] 44)).alloc (.cells #[.bool false, .int .u64 0, .int .u64 0, .int .i64 0, .int .i64 0, .string ⟨#[]⟩, .string ⟨#[]⟩, .bool false, .int .i64 0, .slice none 0 0, .slice none 0 0, .slice none 0 0, .int .i64 0, .int .i64 0, .string ⟨#[]⟩, .int .u64 0, .slice none 0 0, .slice none 0 0, .slice none 0 0, .slice none 0 0, .int .i64 0, .string ⟨#[]⟩, .string ⟨#[]⟩, .int .u64 0, .int .i64 0] 46)) := by (repeat (first | exact Below.refl _ _ | assumption | refine below_alloc2 ?_ (by first | exact Nat.le_refl _ | omega) _ | refine Below.drew ?_ | refine below_drewN ?_ _ | refine below_push2 ?_ ‹_› (by first | exact Nat.le_refl _ | omega) | refine Below.setCell ?_ (by first | (simp; done) | (simp; omega) | omega) _))
  have BX := (Blk.new w #[.int .i64 6, .int .i64 i, .int .u64 ver, .int .u64 word, c4, c5, c6, c7, c8, c9, c10, c11, c12, c13, c14, c15, c16, c17, c18, c19, c20, c21, c22, c23, c24, c25] 44).alloc (.cells #[.bool false, .int .u64 0, .int .u64 0, .int .i64 0, .int .i64 0, .string ⟨#[]⟩, .string ⟨#[]⟩, .bool false, .int .i64 0, .slice none 0 0, .slice none 0 0, .slice none 0 0, .int .i64 0, .int .i64 0, .string ⟨#[]⟩, .int .u64 0, .slice none 0 0, .slice none 0 0, .slice none 0 0, .slice none 0 0, .int .i64 0, .string ⟨#[]⟩, .string ⟨#[]⟩, .int .u64 0, .int .i64 0] 46)
  have BR : Blk ((w.alloc (.cells #[.int .i64 6, .int .i64 i, .int .u64 ver, .int .u64 word, c4, c5, c6, c7, c8, c9, c10, c11, c12, c13, c14, c15, c16, c17, c18, c19, c20, c21, c22, c23, c24, c25] 44)).alloc (.cells #[.bool false, .int .u64 0, .int .u64 0, .int .i64 0, .int .i64 0, .string ⟨#[]⟩, .string ⟨#[]⟩, .bool false, .int .i64 0, .slice none 0 0, .slice none 0 0, .slice none 0 0, .int .i64 0, .int .i64 0, .string ⟨#[]⟩, .int .u64 0, .slice none 0 0, .slice none 0 0, .slice none 0 0, .slice none 0 0, .int .i64 0, .string ⟨#[]⟩, .string ⟨#[]⟩, .int .u64 0, .int .i64 0] 46)) (w.heap.size + 1) #[.bool false, .int .u64 0, .int .u64 0, .int .i64 0, .int .i64 0, .string ⟨#[]⟩, .string ⟨#[]⟩, .bool false, .int .i64 0, .slice none 0 0, .slice none 0 0, .slice none 0 0, .int .i64 0, .int .i64 0, .string ⟨#[]⟩, .int .u64 0, .slice none 0 0, .slice none 0 0, .slice none 0 0, .slice none 0 0, .int .i64 0, .string ⟨#[]⟩, .string ⟨#[]⟩, .int .u64 0, .int .i64 0] 46 := by
    have := Blk.new (w.alloc (.cells #[.int .i64 6, .int .i64 i, .int .u64 ver, .int .u64 word, c4, c5, c6, c7, c8, c9, c10, c11, c12, c13, c14, c15, c16, c17, c18, c19, c20, c21, c22, c23, c24, c25] 44)) #[.bool false, .int .u64 0, .int .u64 0, .int .i64 0, .int .i64 0, .string ⟨#[]⟩, .string ⟨#[]⟩, .bool false, .int .i64 0, .slice none 0 0, .slice none 0 0, .slice none 0 0, .int .i64 0, .int .i64 0, .string ⟨#[]⟩, .int .u64 0, .slice none 0 0, .slice none 0 0, .slice none 0 0, .slice none 0 0, .int .i64 0, .string ⟨#[]⟩, .string ⟨#[]⟩, .int .u64 0, .int .i64 0] 46
    simpa using this
  have h2 := h.below hb2
  generalize hW : ((w.alloc (.cells #[.int .i64 6, .int .i64 i, .int .u64 ver, .int .u64 word, c4, c5, c6, c7, c8, c9, c10, c11, c12, c13, c14, c15, c16, c17, c18, c19, c20, c21, c22, c23, c24, c25] 44)).alloc (.cells #[.bool false, .int .u64 0, .int .u64 0, .int .i64 0, .int .i64 0, .string ⟨#[]⟩, .string ⟨#[]⟩, .bool false, .int .i64 0, .slice none 0 0, .slice none 0 0, .slice none 0 0, .int .i64 0, .int .i64 0, .string ⟨#[]⟩, .int .u64 0, .slice none 0 0, .slice none 0 0, .slice none 0 0, .slice none 0 0, .int .i64 0, .string ⟨#[]⟩, .string ⟨#[]⟩, .int .u64 0, .int .i64 0] 46)) = wq at hb2 h2 BX BR
  have b0 := BX.at 0 rfl
  have b1 := BX.at 1 rfl
  go_enter Try.func9, Try.ntmps9
  go_wp2_with fail
  refine (none_any _ h2).mono ?_
  rintro e w1 ⟨rfl, rfl⟩
  clear hW
  have d10 : wq.cell? ⟨o, 10, none⟩ = some (.slice (some ⟨gr, 0, none⟩) T T) := h2.head.at 10 rfl
  have hT := h.t1
  have r0 := BR.at 0 rfl
  have fr0 := BR.free 0
  by_cases h0 : 0 ≤ i
  · have h1 : ¬ i < (T : Int) := by omega
    have g0 : decide (0 ≤ i) = true := by simpa using h0
    have g1 : decide (i < (T : Int)) = false := by simpa using h1
    go_upto_region 16 with (fail)
    refine QuietRow.tail_quiet 14 (by kernel_rfl) (by kernel_rfl) ?_
    simp only [List.take_succ_cons, List.take_zero, List.drop_succ_cons, List.drop_zero]
    iterate 14 (go_big_quiet_step (fail))
    refine wpQuiet_nil ?_
    have BR3 := (BR.drew).set 0 (.bool false)
    simp only [List.setIfInBounds_toArray, List.set_cons_zero] at BR3
    go_wp2_with (first
      | (refine wpList_load_row rfl 46 _ rfl (w.heap.size + 1) rfl 46 _ (0, 0) _ (BR3).h Try.underlying46 rfl (by kernel_rfl) ?_)
      | (refine wpList_store_row rfl 46 _ _ rfl (w.heap.size + 1) _ rfl rfl 46 _ (BR3).h (by kernel_rfl) (by rfl) (by kernel_rfl) ?_))
    refine bodyPost_ret (results_cell_row rfl _ _ (w.heap.size + 1) 46 #[.bool false, .int .u64 0, .int .u64 0, .int .i64 0, .int .i64 0, .string ⟨#[]⟩, .string ⟨#[]⟩, .bool false, .int .i64 0, .slice none 0 0, .slice none 0 0, .slice none 0 0, .int .i64 0, .int .i64 0, .string ⟨#[]⟩, .int .u64 0, .slice none 0 0, .slice none 0 0, .slice none 0 0, .slice none 0 0, .int .i64 0, .string ⟨#[]⟩, .string ⟨#[]⟩, .int .u64 0, .int .i64 0] (0, 0) _ rfl (Blk.row BR3 #[.bool false, .int .u64 0, .int .u64 0, .int .i64 0, .int .i64 0, .string ⟨#[]⟩, .string ⟨#[]⟩, .bool false, .int .i64 0, .slice none 0 0, .slice none 0 0, .slice none 0 0, .int .i64 0, .int .i64 0, .string ⟨#[]⟩, .int .u64 0, .slice none 0 0, .slice none 0 0, .slice none 0 0, .slice none 0 0, .int .i64 0, .string ⟨#[]⟩, .string ⟨#[]⟩, .int .u64 0, .int .i64 0]).h Try.underlying46 rfl (by kernel_rfl)) rfl ⟨rfl, below_setRow (hb2.drew.setCell (by simp) _) (by omega) _⟩
  · have g0 : decide (0 ≤ i) = false := by simpa using h0
    go_upto_region 16 with (fail)
    refine QuietRow.tail_quiet 14 (by kernel_rfl) (by kernel_rfl) ?_
    simp only [List.take_succ_cons, List.take_zero, List.drop_succ_cons, List.drop_zero]
    iterate 14 (go_big_quiet_step (fail))
    refine wpQuiet_nil ?_
    have BR3 := (BR.drew).set 0 (.bool false)
    simp only [List.setIfInBounds_toArray, List.set_cons_zero] at BR3
    go_wp2_with (first
      | (refine wpList_load_row rfl 46 _ rfl (w.heap.size + 1) rfl 46 _ (0, 0) _ (BR3).h Try.underlying46 rfl (by kernel_rfl) ?_)
      | (refine wpList_store_row rfl 46 _ _ rfl (w.heap.size + 1) _ rfl rfl 46 _ (BR3).h (by kernel_rfl) (by rfl) (by kernel_rfl) ?_))
    refine bodyPost_ret (results_cell_row rfl _ _ (w.heap.size + 1) 46 #[.bool false, .int .u64 0, .int .u64 0, .int .i64 0, .int .i64 0, .string ⟨#[]⟩, .string ⟨#[]⟩, .bool false, .int .i64 0, .slice none 0 0, .slice none 0 0, .slice none 0 0, .int .i64 0, .int .i64 0, .string ⟨#[]⟩, .int .u64 0, .slice none 0 0, .slice none 0 0, .slice none 0 0, .slice none 0 0, .int .i64 0, .string ⟨#[]⟩, .string ⟨#[]⟩, .int .u64 0, .int .i64 0] (0, 0) _ rfl (Blk.row BR3 #[.bool false, .int .u64 0, .int .u64 0, .int .i64 0, .int .i64 0, .string ⟨#[]⟩, .string ⟨#[]⟩, .bool false, .int .i64 0, .slice none 0 0, .slice none 0 0, .slice none 0 0, .int .i64 0, .int .i64 0, .string ⟨#[]⟩, .int .u64 0, .slice none 0 0, .slice none 0 0, .slice none 0 0, .slice none 0 0, .int .i64 0, .string ⟨#[]⟩, .string ⟨#[]⟩, .int .u64 0, .int .i64 0]).h Try.underlying46 rfl (by kernel_rfl)) rfl ⟨rfl, below_setRow (hb2.drew.setCell (by simp) _) (by omega) _⟩
set_option maxRecDepth 100000 in
set_option maxHeartbeats 3200000 in
theorem do_write_no {o oc g gb gr A T : Nat} {L : List (Int × Int)} {bs rs : List (List Value)} (i ver word : Int) (c4 c5 c6 c7 c8 c9 c10 c11 c12 c13 c14 c15 c16 c17 c18 c19 c20 c21 c22 c23 c24 c25 : Value) (w : World) (h : MemAt w o oc g gb gr A T L bs rs) (hi : ¬ (0 ≤ i ∧ i < (T : Int))) :
    Calls Try.prog 9 #[.pointer (some ⟨o, 0, none⟩), .agg #[.int .i64 7, .int .i64 i, .int .u64 ver, .int .u64 word, c4, c5, c6, c7, c8, c9, c10, c11, c12, c13, c14, c15, c16, c17, c18, c19, c20, c21, c22, c23, c24, c25]] w fun e w' => e = .returned (.agg #[.bool false, .int .u64 0, .int .u64 0, .int .i64 0, .int .i64 0, .string ⟨#[]⟩, .string ⟨#[]⟩, .bool false, .int .i64 0, .slice none 0 0, .slice none 0 0, .slice none 0 0, .int .i64 0, .int .i64 0, .string ⟨#[]⟩, .int .u64 0, .slice none 0 0, .slice none 0 0, .slice none 0 0, .slice none 0 0, .int .i64 0, .string ⟨#[]⟩, .string ⟨#[]⟩, .int .u64 0, .int .i64 0]) ∧ Below w.heap.size w w' := by
  have hb2 : Below w.heap.size w ((w.alloc (.cells #[.int .i64 7, .int .i64 i, .int .u64 ver, .int .u64 word, c4, c5, c6, c7, c8, c9, c10, c11, c12, c13, c14, c15, c16, c17, c18, c19, c20, c21, c22, c23, c24, c25] 44)).alloc (.cells #[.bool false, .int .u64 0, .int .u64 0, .int .i64 0, .int .i64 0, .string ⟨#[]⟩, .string ⟨#[]⟩, .bool false, .int .i64 0, .slice none 0 0, .slice none 0 0, .slice none 0 0, .int .i64 0, .int .i64 0, .string ⟨#[]⟩, .int .u64 0, .slice none 0 0, .slice none 0 0, .slice none 0 0, .slice none 0 0, .int .i64 0, .string ⟨#[]⟩, .string ⟨#[]⟩, .int .u64 0, .int .i64 0] 46)) := by (repeat (first | exact Below.refl _ _ | assumption | refine below_alloc2 ?_ (by first | exact Nat.le_refl _ | omega) _ | refine Below.drew ?_ | refine below_drewN ?_ _ | refine below_push2 ?_ ‹_› (by first | exact Nat.le_refl _ | omega) | refine Below.setCell ?_ (by first | (simp; done) | (simp; omega) | omega) _))
  have BX := (Blk.new w #[.int .i64 7, .int .i64 i, .int .u64 ver, .int .u64 word, c4, c5, c6, c7, c8, c9, c10, c11, c12, c13, c14, c15, c16, c17, c18, c19, c20, c21, c22, c23, c24, c25] 44).alloc (.cells #[.bool false, .int .u64 0, .int .u64 0, .int .i64 0, .int .i64 0, .string ⟨#[]⟩, .string ⟨#[]⟩, .bool false, .int .i64 0, .slice none 0 0, .slice none 0 0, .slice none 0 0, .int .i64 0, .int .i64 0, .string ⟨#[]⟩, .int .u64 0, .slice none 0 0, .slice none 0 0, .slice none 0 0, .slice none 0 0, .int .i64 0, .string ⟨#[]⟩, .string ⟨#[]⟩, .int .u64 0, .int .i64 0] 46)
  have BR : Blk ((w.alloc (.cells #[.int .i64 7, .int .i64 i, .int .u64 ver, .int .u64 word, c4, c5, c6, c7, c8, c9, c10, c11, c12, c13, c14, c15, c16, c17, c18, c19, c20, c21, c22, c23, c24, c25] 44)).alloc (.cells #[.bool false, .int .u64 0, .int .u64 0, .int .i64 0, .int .i64 0, .string ⟨#[]⟩, .string ⟨#[]⟩, .bool false, .int .i64 0, .slice none 0 0, .slice none 0 0, .slice none 0 0, .int .i64 0, .int .i64 0, .string ⟨#[]⟩, .int .u64 0, .slice none 0 0, .slice none 0 0, .slice none 0 0, .slice none 0 0, .int .i64 0, .string ⟨#[]⟩, .string ⟨#[]⟩, .int .u64 0, .int .i64 0] 46)) (w.heap.size + 1) #[.bool false, .int .u64 0, .int .u64 0, .int .i64 0, .int .i64 0, .string ⟨#[]⟩, .string ⟨#[]⟩, .bool false, .int .i64 0, .slice none 0 0, .slice none 0 0, .slice none 0 0, .int .i64 0, .int .i64 0, .string ⟨#[]⟩, .int .u64 0, .slice none 0 0, .slice none 0 0, .slice none 0 0, .slice none 0 0, .int .i64 0, .string ⟨#[]⟩, .string ⟨#[]⟩, .int .u64 0, .int .i64 0] 46 := by
    have := Blk.new (w.alloc (.cells #[.int .i64 7, .int .i64 i, .int .u64 ver, .int .u64 word, c4, c5, c6, c7, c8, c9, c10, c11, c12, c13, c14, c15, c16, c17, c18, c19, c20, c21, c22, c23, c24, c25] 44)) #[.bool false, .int .u64 0, .int .u64 0, .int .i64 0, .int .i64 0, .string ⟨#[]⟩, .string ⟨#[]⟩, .bool false, .int .i64 0, .slice none 0 0, .slice none 0 0, .slice none 0 0, .int .i64 0, .int .i64 0, .string ⟨#[]⟩, .int .u64 0, .slice none 0 0, .slice none 0 0, .slice none 0 0, .slice none 0 0, .int .i64 0, .string ⟨#[]⟩, .string ⟨#[]⟩, .int .u64 0, .int .i64 0] 46
    simpa using this
  have h2 := h.below hb2
  generalize hW : ((w.alloc (.cells #[.int .i64 7, .int .i64 i, .int .u64 ver, .int .u64 word, c4, c5, c6, c7, c8, c9, c10, c11, c12, c13, c14, c15, c16, c17, c18, c19, c20, c21, c22, c23, c24, c25] 44)).alloc (.cells #[.bool false, .int .u64 0, .int .u64 0, .int .i64 0, .int .i64 0, .string ⟨#[]⟩, .string ⟨#[]⟩, .bool false, .int .i64 0, .slice none 0 0, .slice none 0 0, .slice none 0 0, .int .i64 0, .int .i64 0, .string ⟨#[]⟩, .int .u64 0, .slice none 0 0, .slice none 0 0, .slice none 0 0, .slice none 0 0, .int .i64 0, .string ⟨#[]⟩, .string ⟨#[]⟩, .int .u64 0, .int .i64 0] 46)) = wq at hb2 h2 BX BR
  have b0 := BX.at 0 rfl
  have b1 := BX.at 1 rfl
  go_enter Try.func9, Try.ntmps9
  go_wp2_with fail
  refine (none_any _ h2).mono ?_
  rintro e w1 ⟨rfl, rfl⟩
  clear hW
  have d10 : wq.cell? ⟨o, 10, none⟩ = some (.slice (some ⟨gr, 0, none⟩) T T) := h2.head.at 10 rfl
  have hT := h.t1
  have r0 := BR.at 0 rfl
  have fr0 := BR.free 0
  by_cases h0 : 0 ≤ i
  · have h1 : ¬ i < (T : Int) := by omega
    have g0 : decide (0 ≤ i) = true := by simpa using h0
    have g1 : decide (i < (T : Int)) = false := by simpa using h1
    go_upto_region 20 with (fail)
    refine QuietRow.tail_quiet 14 (by kernel_rfl) (by kernel_rfl) ?_
    simp only [List.take_succ_cons, List.take_zero, List.drop_succ_cons, List.drop_zero]
    iterate 14 (go_big_quiet_step (fail))
    refine wpQuiet_nil ?_
    have BR3 := (BR.drew).set 0 (.bool false)
    simp only [List.setIfInBounds_toArray, List.set_cons_zero] at BR3
    go_wp2_with (first
      | (refine wpList_load_row rfl 46 _ rfl (w.heap.size + 1) rfl 46 _ (0, 0) _ (BR3).h Try.underlying46 rfl (by kernel_rfl) ?_)
      | (refine wpList_store_row rfl 46 _ _ rfl (w.heap.size + 1) _ rfl rfl 46 _ (BR3).h (by kernel_rfl) (by rfl) (by kernel_rfl) ?_))
    refine bodyPost_ret (results_cell_row rfl _ _ (w.heap.size + 1) 46 #[.bool false, .int .u64 0, .int .u64 0, .int .i64 0, .int .i64 0, .string ⟨#[]⟩, .string ⟨#[]⟩, .bool false, .int .i64 0, .slice none 0 0, .slice none 0 0, .slice none 0 0, .int .i64 0, .int .i64 0, .string ⟨#[]⟩, .int .u64 0, .slice none 0 0, .slice none 0 0, .slice none 0 0, .slice none 0 0, .int .i64 0, .string ⟨#[]⟩, .string ⟨#[]⟩, .int .u64 0, .int .i64 0] (0, 0) _ rfl (Blk.row BR3 #[.bool false, .int .u64 0, .int .u64 0, .int .i64 0, .int .i64 0, .string ⟨#[]⟩, .string ⟨#[]⟩, .bool false, .int .i64 0, .slice none 0 0, .slice none 0 0, .slice none 0 0, .int .i64 0, .int .i64 0, .string ⟨#[]⟩, .int .u64 0, .slice none 0 0, .slice none 0 0, .slice none 0 0, .slice none 0 0, .int .i64 0, .string ⟨#[]⟩, .string ⟨#[]⟩, .int .u64 0, .int .i64 0]).h Try.underlying46 rfl (by kernel_rfl)) rfl ⟨rfl, below_setRow (hb2.drew.setCell (by simp) _) (by omega) _⟩
  · have g0 : decide (0 ≤ i) = false := by simpa using h0
    go_upto_region 20 with (fail)
    refine QuietRow.tail_quiet 14 (by kernel_rfl) (by kernel_rfl) ?_
    simp only [List.take_succ_cons, List.take_zero, List.drop_succ_cons, List.drop_zero]
    iterate 14 (go_big_quiet_step (fail))
    refine wpQuiet_nil ?_
    have BR3 := (BR.drew).set 0 (.bool false)
    simp only [List.setIfInBounds_toArray, List.set_cons_zero] at BR3
    go_wp2_with (first
      | (refine wpList_load_row rfl 46 _ rfl (w.heap.size + 1) rfl 46 _ (0, 0) _ (BR3).h Try.underlying46 rfl (by kernel_rfl) ?_)
      | (refine wpList_store_row rfl 46 _ _ rfl (w.heap.size + 1) _ rfl rfl 46 _ (BR3).h (by kernel_rfl) (by rfl) (by kernel_rfl) ?_))
    refine bodyPost_ret (results_cell_row rfl _ _ (w.heap.size + 1) 46 #[.bool false, .int .u64 0, .int .u64 0, .int .i64 0, .int .i64 0, .string ⟨#[]⟩, .string ⟨#[]⟩, .bool false, .int .i64 0, .slice none 0 0, .slice none 0 0, .slice none 0 0, .int .i64 0, .int .i64 0, .string ⟨#[]⟩, .int .u64 0, .slice none 0 0, .slice none 0 0, .slice none 0 0, .slice none 0 0, .int .i64 0, .string ⟨#[]⟩, .string ⟨#[]⟩, .int .u64 0, .int .i64 0] (0, 0) _ rfl (Blk.row BR3 #[.bool false, .int .u64 0, .int .u64 0, .int .i64 0, .int .i64 0, .string ⟨#[]⟩, .string ⟨#[]⟩, .bool false, .int .i64 0, .slice none 0 0, .slice none 0 0, .slice none 0 0, .int .i64 0, .int .i64 0, .string ⟨#[]⟩, .int .u64 0, .slice none 0 0, .slice none 0 0, .slice none 0 0, .slice none 0 0, .int .i64 0, .string ⟨#[]⟩, .string ⟨#[]⟩, .int .u64 0, .int .i64 0]).h Try.underlying46 rfl (by kernel_rfl)) rfl ⟨rfl, below_setRow (hb2.drew.setCell (by simp) _) (by omega) _⟩
set_option maxRecDepth 100000 in
set_option maxHeartbeats 3200000 in
theorem do_read_yes {o oc g gb gr A T : Nat} {L : List (Int × Int)} {bs rs : List (List Value)} (i ver word : Int) (c4 c5 c6 c7 c8 c9 c10 c11 c12 c13 c14 c15 c16 c17 c18 c19 c20 c21 c22 c23 c24 c25 : Value) (k : Nat) (x : OpV) (w : World) (h : MemAt w o oc g gb gr A T L bs rs) (hi : i = (k : Int)) (hk : k < T) (hx : rs.getD k [] = opL x) :
    Calls Try.prog 9 #[.pointer (some ⟨o, 0, none⟩), .agg #[.int .i64 6, .int .i64 i, .int .u64 ver, .int .u64 word, c4, c5, c6, c7, c8, c9, c10, c11, c12, c13, c14, c15, c16, c17, c18, c19, c20, c21, c22, c23, c24, c25]] w fun e w' => e = .returned (.agg (replyO x)) ∧ Below w.heap.size w w' := by
  subst hi
  have hb2 : Below w.heap.size w ((w.alloc (.cells #[.int .i64 6, .int .i64 (k : Int), .int .u64 ver, .int .u64 word, c4, c5, c6, c7, c8, c9, c10, c11, c12, c13, c14, c15, c16, c17, c18, c19, c20, c21, c22, c23, c24, c25] 44)).alloc (.cells #[.bool false, .int .u64 0, .int .u64 0, .int .i64 0, .int .i64 0, .string ⟨#[]⟩, .string ⟨#[]⟩, .bool false, .int .i64 0, .slice none 0 0, .slice none 0 0, .slice none 0 0, .int .i64 0, .int .i64 0, .string ⟨#[]⟩, .int .u64 0, .slice none 0 0, .slice none 0 0, .slice none 0 0, .slice none 0 0, .int .i64 0, .string ⟨#[]⟩, .string ⟨#[]⟩, .int .u64 0, .int .i64 0] 46)) := by (repeat (first | exact Below.refl _ _ | assumption | refine below_alloc2 ?_ (by first | exact Nat.le_refl _ | omega) _ | refine Below.drew ?_ | refine below_drewN ?_ _ | refine below_push2 ?_ ‹_› (by first | exact Nat.le_refl _ | omega) | refine Below.setCell ?_ (by first | (simp; done) | (simp; omega) | omega) _))
  have BX := (Blk.new w #[.int .i64 6, .int .i64 (k : Int), .int .u64 ver, .int .u64 word, c4, c5, c6, c7, c8, c9, c10, c11, c12, c13, c14, c15, c16, c17, c18, c19, c20, c21, c22, c23, c24, c25] 44).alloc (.cells #[.bool false, .int .u64 0, .int .u64 0, .int .i64 0, .int .i64 0, .string ⟨#[]⟩, .string ⟨#[]⟩, .bool false, .int .i64 0, .slice none 0 0, .slice none 0 0, .slice none 0 0, .int .i64 0, .int .i64 0, .string ⟨#[]⟩, .int .u64 0, .slice none 0 0, .slice none 0 0, .slice none 0 0, .slice none 0 0, .int .i64 0, .string ⟨#[]⟩, .string ⟨#[]⟩, .int .u64 0, .int .i64 0] 46)
  have BR : Blk ((w.alloc (.cells #[.int .i64 6, .int .i64 (k : Int), .int .u64 ver, .int .u64 word, c4, c5, c6, c7, c8, c9, c10, c11, c12, c13, c14, c15, c16, c17, c18, c19, c20, c21, c22, c23, c24, c25] 44)).alloc (.cells #[.bool false, .int .u64 0, .int .u64 0, .int .i64 0, .int .i64 0, .string ⟨#[]⟩, .string ⟨#[]⟩, .bool false, .int .i64 0, .slice none 0 0, .slice none 0 0, .slice none 0 0, .int .i64 0, .int .i64 0, .string ⟨#[]⟩, .int .u64 0, .slice none 0 0, .slice none 0 0, .slice none 0 0, .slice none 0 0, .int .i64 0, .string ⟨#[]⟩, .string ⟨#[]⟩, .int .u64 0, .int .i64 0] 46)) (w.heap.size + 1) #[.bool false, .int .u64 0, .int .u64 0, .int .i64 0, .int .i64 0, .string ⟨#[]⟩, .string ⟨#[]⟩, .bool false, .int .i64 0, .slice none 0 0, .slice none 0 0, .slice none 0 0, .int .i64 0, .int .i64 0, .string ⟨#[]⟩, .int .u64 0, .slice none 0 0, .slice none 0 0, .slice none 0 0, .slice none 0 0, .int .i64 0, .string ⟨#[]⟩, .string ⟨#[]⟩, .int .u64 0, .int .i64 0] 46 := by
    have := Blk.new (w.alloc (.cells #[.int .i64 6, .int .i64 (k : Int), .int .u64 ver, .int .u64 word, c4, c5, c6, c7, c8, c9, c10, c11, c12, c13, c14, c15, c16, c17, c18, c19, c20, c21, c22, c23, c24, c25] 44)) #[.bool false, .int .u64 0, .int .u64 0, .int .i64 0, .int .i64 0, .string ⟨#[]⟩, .string ⟨#[]⟩, .bool false, .int .i64 0, .slice none 0 0, .slice none 0 0, .slice none 0 0, .int .i64 0, .int .i64 0, .string ⟨#[]⟩, .int .u64 0, .slice none 0 0, .slice none 0 0, .slice none 0 0, .slice none 0 0, .int .i64 0, .string ⟨#[]⟩, .string ⟨#[]⟩, .int .u64 0, .int .i64 0] 46
    simpa using this
  have h2 := h.below hb2
  generalize hW : ((w.alloc (.cells #[.int .i64 6, .int .i64 (k : Int), .int .u64 ver, .int .u64 word, c4, c5, c6, c7, c8, c9, c10, c11, c12, c13, c14, c15, c16, c17, c18, c19, c20, c21, c22, c23, c24, c25] 44)).alloc (.cells #[.bool false, .int .u64 0, .int .u64 0, .int .i64 0, .int .i64 0, .string ⟨#[]⟩, .string ⟨#[]⟩, .bool false, .int .i64 0, .slice none 0 0, .slice none 0 0, .slice none 0 0, .int .i64 0, .int .i64 0, .string ⟨#[]⟩, .int .u64 0, .slice none 0 0, .slice none 0 0, .slice none 0 0, .slice none 0 0, .int .i64 0, .string ⟨#[]⟩, .string ⟨#[]⟩, .int .u64 0, .int .i64 0] 46)) = wq at hb2 h2 BX BR
  have b0 := BX.at 0 rfl
  have b1 := BX.at 1 rfl
  go_enter Try.func9, Try.ntmps9
  go_wp2_with fail
  refine (none_any _ h2).mono ?_
  rintro e w1 ⟨rfl, rfl⟩
  clear hW
  have d10 : wq.cell? ⟨o, 10, none⟩ = some (.slice (some ⟨gr, 0, none⟩) T T) := h2.head.at 10 rfl
  have hT := h.t1
  have hlr := h.lr
  have r0 := BR.at 0 rfl
  have fr0 := BR.free 0
  have h0 : (0 : Int) ≤ (k : Int) := by omega
  have h1 : (k : Int) < (T : Int) := by omega
  have g0 : decide ((0 : Int) ≤ (k : Int)) = true := by simp
  have g1 : decide (k < T) = true := by simpa using hk
  go_upto_region 16 with (fail)
  refine QuietRow.tail_quiet 14 (by kernel_rfl) (by kernel_rfl) ?_
  simp only [List.take_succ_cons, List.take_zero, List.drop_succ_cons, List.drop_zero]
  iterate 14 (go_big_quiet_step (fail))
  refine wpQuiet_nil ?_
  have BR3 := (BR.set 0 (.bool true)).drew
  simp only [List.setIfInBounds_toArray, List.set_cons_zero] at BR3
  have F3 : Fr [w.heap.size + 1] wq ((wq.setCell ⟨w.heap.size + 1, 0, none⟩ (.bool true)).drew) := ((Fr.refl _ wq).set _ _ (.inl (by simp))).trans (Fr.of_below ((Below.refl _ _).drew))
  have B3 := (hb2.setCell (p := ⟨w.heap.size + 1, 0, none⟩) (by simp) (.bool true)).drew
  have hol := h.head.lt
  have hocl := h.cells.head.lt
  have hgl := h.cells.rows.lt
  have hgbl := h.blocks.lt
  have hgrl := h.records.lt
  have M3 := h2.off F3 (by simp; omega)
  have BX3 := F3.blk BX (by simp)
  go_upto_region 18 with (fail)
  generalize hW : (wq.setCell ⟨w.heap.size + 1, 0, none⟩ (.bool true)).drew = w3 at BR3 M3 BX3 B3 ⊢
  clear b0 b1 r0 fr0 d10 F3 BR BX
  have b1 := BX3.at 1 rfl
  have d10 : w3.cell? ⟨o, 10, none⟩ = some (.slice (some ⟨gr, 0, none⟩) T T) := M3.head.at 10 rfl
  have e0 : w3.cell? ⟨gr, k * 5, none⟩ = some (.int .i64 x.kind) := (M3.records.at _ (raw5_at rs k 0 (by omega) (by omega))).trans (by rw [hx]; rfl)
  have e1 : w3.cell? ⟨gr, k * 5 + 1, none⟩ = some (.string x.key) := (M3.records.at _ (raw5_at rs k 1 (by omega) (by omega))).trans (by rw [hx]; rfl)
  have e2 : w3.cell? ⟨gr, k * 5 + 2, none⟩ = some (.string x.upto) := (M3.records.at _ (raw5_at rs k 2 (by omega) (by omega))).trans (by rw [hx]; rfl)
  have e3 : w3.cell? ⟨gr, k * 5 + 3, none⟩ = some (.int .u64 x.val) := (M3.records.at _ (raw5_at rs k 3 (by omega) (by omega))).trans (by rw [hx]; rfl)
  have e4 : w3.cell? ⟨gr, k * 5 + 4, none⟩ = some (.int .i64 x.limit) := (M3.records.at _ (raw5_at rs k 4 (by omega) (by omega))).trans (by rw [hx]; rfl)
  clear hx hW h h2 hb2
  refine QuietRow.tail_quiet 9 (by kernel_rfl) (by kernel_rfl) ?_
  simp only [List.take_succ_cons, List.take_zero, List.drop_succ_cons, List.drop_zero]
  iterate 9 (go_big_quiet_step (fail))
  refine wpQuiet_nil ?_
  have hth := there_blk' (o := 20) (n := 5) BR3.drew (by decide)
  have BR4 := blk_sets' (opA x).toList 20 _ _ BR3.drew
  rw [sets_replyO] at BR4
  have B4 := below_sets' (b := w.heap.size + 1) (by omega) (opA x).toList 20 _ B3.drew
  generalize hX : w3.drew.setCells (w.heap.size + 1) 20 (opA x).toList = w4 at BR4 B4
  replace hX := Lib.hid hX
  go_wp2_with (first
    | (refine wpList_store_mid rfl 42 _ _ rfl (w.heap.size + 1) 20 (opA x) rfl rfl hth (by kernel_rfl) (by kernel_rfl) ?_; rw [hX.out])
    | (refine wpList_load_row rfl 46 _ rfl (w.heap.size + 1) rfl 46 _ (0, 0) _ BR4.h Try.underlying46 rfl (by kernel_rfl) ?_)
    | (refine wpList_store_row rfl 46 _ _ rfl (w.heap.size + 1) _ rfl rfl 46 _ BR4.h (by kernel_rfl) (by rfl) (by kernel_rfl) ?_))
  refine bodyPost_ret (results_cell_row rfl _ _ (w.heap.size + 1) 46 (replyO x) (0, 0) _ rfl (Blk.row BR4 (replyO x)).h Try.underlying46 rfl (by kernel_rfl)) rfl ⟨rfl, below_setRow B4 (by omega) _⟩
/-- the cells of an access that holds an operation -/
abbrev opacc (i ver word : Int) (c4 c5 c6 c7 c8 c9 c10 c11 c12 c13 c14 c15 c16 c17 c18 c19 c20 : Value) (x : OpV) : Array Value := #[.int .i64 7, .int .i64 i, .int .u64 ver, .int .u64 word, c4, c5, c6, c7, c8, c9, c10, c11, c12, c13, c14, c15, c16, c17, c18, c19, c20, .int .i64 x.kind, .string x.key, .string x.upto, .int .u64 x.val, .int .i64 x.limit]
set_option maxRecDepth 100000 in
set_option maxHeartbeats 3200000 in
theorem do_write_yes {o oc g gb gr A T : Nat} {L : List (Int × Int)} {bs rs : List (List Value)} (i ver word : Int) (c4 c5 c6 c7 c8 c9 c10 c11 c12 c13 c14 c15 c16 c17 c18 c19 c20 : Value) (k : Nat) (x : OpV) (w : World) (h : MemAt w o oc g gb gr A T L bs rs) (hi : i = (k : Int)) (hk : k < T) :
    Calls Try.prog 9 #[.pointer (some ⟨o, 0, none⟩), .agg (opacc i ver word c4 c5 c6 c7 c8 c9 c10 c11 c12 c13 c14 c15 c16 c17 c18 c19 c20 x)] w fun e w' => e = .returned (.agg #[.bool true, .int .u64 0, .int .u64 0, .int .i64 0, .int .i64 0, .string ⟨#[]⟩, .string ⟨#[]⟩, .bool false, .int .i64 0, .slice none 0 0, .slice none 0 0, .slice none 0 0, .int .i64 0, .int .i64 0, .string ⟨#[]⟩, .int .u64 0, .slice none 0 0, .slice none 0 0, .slice none 0 0, .slice none 0 0, .int .i64 0, .string ⟨#[]⟩, .string ⟨#[]⟩, .int .u64 0, .int .i64 0]) ∧ MemAt w' o oc g gb gr A T L bs (rs.set k (opL x)) ∧ Fr [gr] w w' := by
  subst hi
  have hb2 : Below w.heap.size w ((w.alloc (.cells (opacc k ver word c4 c5 c6 c7 c8 c9 c10 c11 c12 c13 c14 c15 c16 c17 c18 c19 c20 x) 44)).alloc (.cells #[.bool false, .int .u64 0, .int .u64 0, .int .i64 0, .int .i64 0, .string ⟨#[]⟩, .string ⟨#[]⟩, .bool false, .int .i64 0, .slice none 0 0, .slice none 0 0, .slice none 0 0, .int .i64 0, .int .i64 0, .string ⟨#[]⟩, .int .u64 0, .slice none 0 0, .slice none 0 0, .slice none 0 0, .slice none 0 0, .int .i64 0, .string ⟨#[]⟩, .string ⟨#[]⟩, .int .u64 0, .int .i64 0] 46)) := by (repeat (first | exact Below.refl _ _ | assumption | refine below_alloc2 ?_ (by first | exact Nat.le_refl _ | omega) _ | refine Below.drew ?_ | refine below_drewN ?_ _ | refine below_push2 ?_ ‹_› (by first | exact Nat.le_refl _ | omega) | refine Below.setCell ?_ (by first | (simp; done) | (simp; omega) | omega) _))
  have BX := (Blk.new w (opacc k ver word c4 c5 c6 c7 c8 c9 c10 c11 c12 c13 c14 c15 c16 c17 c18 c19 c20 x) 44).alloc (.cells #[.bool false, .int .u64 0, .int .u64 0, .int .i64 0, .int .i64 0, .string ⟨#[]⟩, .string ⟨#[]⟩, .bool false, .int .i64 0, .slice none 0 0, .slice none 0 0, .slice none 0 0, .int .i64 0, .int .i64 0, .string ⟨#[]⟩, .int .u64 0, .slice none 0 0, .slice none 0 0, .slice none 0 0, .slice none 0 0, .int .i64 0, .string ⟨#[]⟩, .string ⟨#[]⟩, .int .u64 0, .int .i64 0] 46)
  have BR : Blk ((w.alloc (.cells (opacc k ver word c4 c5 c6 c7 c8 c9 c10 c11 c12 c13 c14 c15 c16 c17 c18 c19 c20 x) 44)).alloc (.cells #[.bool false, .int .u64 0, .int .u64 0, .int .i64 0, .int .i64 0, .string ⟨#[]⟩, .string ⟨#[]⟩, .bool false, .int .i64 0, .slice none 0 0, .slice none 0 0, .slice none 0 0, .int .i64 0, .int .i64 0, .string ⟨#[]⟩, .int .u64 0, .slice none 0 0, .slice none 0 0, .slice none 0 0, .slice none 0 0, .int .i64 0, .string ⟨#[]⟩, .string ⟨#[]⟩, .int .u64 0, .int .i64 0] 46)) (w.heap.size + 1) #[.bool false, .int .u64 0, .int .u64 0, .int .i64 0, .int .i64 0, .string ⟨#[]⟩, .string ⟨#[]⟩, .bool false, .int .i64 0, .slice none 0 0, .slice none 0 0, .slice none 0 0, .int .i64 0, .int .i64 0, .string ⟨#[]⟩, .int .u64 0, .slice none 0 0, .slice none 0 0, .slice none 0 0, .slice none 0 0, .int .i64 0, .string ⟨#[]⟩, .string ⟨#[]⟩, .int .u64 0, .int .i64 0] 46 := by
    have := Blk.new (w.alloc (.cells (opacc k ver word c4 c5 c6 c7 c8 c9 c10 c11 c12 c13 c14 c15 c16 c17 c18 c19 c20 x) 44)) #[.bool false, .int .u64 0, .int .u64 0, .int .i64 0, .int .i64 0, .string ⟨#[]⟩, .string ⟨#[]⟩, .bool false, .int .i64 0, .slice none 0 0, .slice none 0 0, .slice none 0 0, .int .i64 0, .int .i64 0, .string ⟨#[]⟩, .int .u64 0, .slice none 0 0, .slice none 0 0, .slice none 0 0, .slice none 0 0, .int .i64 0, .string ⟨#[]⟩, .string ⟨#[]⟩, .int .u64 0, .int .i64 0] 46
    simpa using this
  have h2 := h.below hb2
  generalize hW : ((w.alloc (.cells (opacc k ver word c4 c5 c6 c7 c8 c9 c10 c11 c12 c13 c14 c15 c16 c17 c18 c19 c20 x) 44)).alloc (.cells #[.bool false, .int .u64 0, .int .u64 0, .int .i64 0, .int .i64 0, .string ⟨#[]⟩, .string ⟨#[]⟩, .bool false, .int .i64 0, .slice none 0 0, .slice none 0 0, .slice none 0 0, .int .i64 0, .int .i64 0, .string ⟨#[]⟩, .int .u64 0, .slice none 0 0, .slice none 0 0, .slice none 0 0, .slice none 0 0, .int .i64 0, .string ⟨#[]⟩, .string ⟨#[]⟩, .int .u64 0, .int .i64 0] 46)) = wq at hb2 h2 BX BR
  have b0 := BX.at 0 rfl
  have b1 := BX.at 1 rfl
  go_enter Try.func9, Try.ntmps9
  go_wp2_with fail
  refine (none_any _ h2).mono ?_
  rintro e w1 ⟨rfl, rfl⟩
  clear hW
  have d10 : wq.cell? ⟨o, 10, none⟩ = some (.slice (some ⟨gr, 0, none⟩) T T) := h2.head.at 10 rfl
  have hT := h.t1
  have hlr := h.lr
  have r0 := BR.at 0 rfl
  have fr0 := BR.free 0
  have h0 : (0 : Int) ≤ (k : Int) := by omega
  have h1 : (k : Int) < (T : Int) := by omega
  have g0 : decide ((0 : Int) ≤ (k : Int)) = true := by simp
  have g1 : decide (k < T) = true := by simpa using hk
  go_upto_region 20 with (fail)
  refine QuietRow.tail_quiet 14 (by kernel_rfl) (by kernel_rfl) ?_
  simp only [List.take_succ_cons, List.take_zero, List.drop_succ_cons, List.drop_zero]
  iterate 14 (go_big_quiet_step (fail))
  refine wpQuiet_nil ?_
  have BR3 := (BR.set 0 (.bool true)).drew
  simp only [List.setIfInBounds_toArray, List.set_cons_zero] at BR3
  have F3 : Fr [w.heap.size + 1] wq ((wq.setCell ⟨w.heap.size + 1, 0, none⟩ (.bool true)).drew) := ((Fr.refl _ wq).set _ _ (.inl (by simp))).trans (Fr.of_below ((Below.refl _ _).drew))
  have B3 := (hb2.setCell (p := ⟨w.heap.size + 1, 0, none⟩) (by simp) (.bool true)).drew
  have hol := h.head.lt
  have hocl := h.cells.head.lt
  have hgl := h.cells.rows.lt
  have hgbl := h.blocks.lt
  have hgrl := h.records.lt
  have M3 := h2.off F3 (by simp; omega)
  have BX3 := F3.blk BX (by simp)
  have hS3 := (Fr.of_below (S := [w.heap.size + 1]) hb2).trans (F3.more (S' := [w.heap.size + 1]) (by simp))
  go_upto_region 22 with (fail)
  generalize hW : (wq.setCell ⟨w.heap.size + 1, 0, none⟩ (.bool true)).drew = w3 at BR3 M3 BX3 B3 hS3 ⊢
  clear b0 b1 r0 fr0 d10 F3 BR BX
  have b1 := BX3.at 1 rfl
  have x21 := BX3.at 21 rfl
  have x22 := BX3.at 22 rfl
  have x23 := BX3.at 23 rfl
  have x24 := BX3.at 24 rfl
  have x25 := BX3.at 25 rfl
  have d10 : w3.cell? ⟨o, 10, none⟩ = some (.slice (some ⟨gr, 0, none⟩) T T) := M3.head.at 10 rfl
  clear hW h2 hb2
  refine QuietRow.tail_quiet 9 (by kernel_rfl) (by kernel_rfl) ?_
  simp only [List.take_succ_cons, List.take_zero, List.drop_succ_cons, List.drop_zero]
  iterate 9 (go_big_quiet_step (fail))
  refine wpQuiet_nil ?_
  have hth := there_blk' (o := k * 5) (n := 5) M3.records.drew (by rw [recA_size, hlr]; omega)
  have M4 := (M3.below (Below.refl _ w3).drew).recAt k hk (opA x).toList rfl
  have F4 := fr_sets' (S := [gr]) (b := gr) (by simp) (opA x).toList (k * 5) w3.drew
  have hl3 := hS3.size
  have BR4 := F4.blk BR3.drew (by simp; omega)
  have hS4 := ((hS3.more (S' := [gr, w.heap.size + 1]) (by simp)).trans (Fr.of_below ((Below.refl _ w3).drew))).trans (F4.more (by simp))
  generalize hX : w3.drew.setCells gr (k * 5) (opA x).toList = w4 at BR4 M4 hS4
  replace hX := Lib.hid hX
  go_wp2_with (first
    | (refine wpList_store_mid rfl 42 _ _ rfl gr (k * 5) (opA x) rfl rfl hth (by kernel_rfl) (by kernel_rfl) ?_; rw [hX.out])
    | (refine wpList_load_row rfl 46 _ rfl (w.heap.size + 1) rfl 46 _ (0, 0) _ BR4.h Try.underlying46 rfl (by kernel_rfl) ?_)
    | (refine wpList_store_row rfl 46 _ _ rfl (w.heap.size + 1) _ rfl rfl 46 _ BR4.h (by kernel_rfl) (by rfl) (by kernel_rfl) ?_))
  refine bodyPost_ret (results_cell_row rfl _ _ (w.heap.size + 1) 46 #[.bool true, .int .u64 0, .int .u64 0, .int .i64 0, .int .i64 0, .string ⟨#[]⟩, .string ⟨#[]⟩, .bool false, .int .i64 0, .slice none 0 0, .slice none 0 0, .slice none 0 0, .int .i64 0, .int .i64 0, .string ⟨#[]⟩, .int .u64 0, .slice none 0 0, .slice none 0 0, .slice none 0 0, .slice none 0 0, .int .i64 0, .string ⟨#[]⟩, .string ⟨#[]⟩, .int .u64 0, .int .i64 0] (0, 0) _ rfl (Blk.row BR4 #[.bool true, .int .u64 0, .int .u64 0, .int .i64 0, .int .i64 0, .string ⟨#[]⟩, .string ⟨#[]⟩, .bool false, .int .i64 0, .slice none 0 0, .slice none 0 0, .slice none 0 0, .int .i64 0, .int .i64 0, .string ⟨#[]⟩, .int .u64 0, .slice none 0 0, .slice none 0 0, .slice none 0 0, .slice none 0 0, .int .i64 0, .string ⟨#[]⟩, .string ⟨#[]⟩, .int .u64 0, .int .i64 0]).h Try.underlying46 rfl (by kernel_rfl)) rfl ⟨rfl, ?_, ?_⟩
  · exact M4.off (Fr.row (S := [w.heap.size + 1]) _ _ (by simp)) (by simp; omega)
  · have F7 := hS4.trans (Fr.row (S := [gr, w.heap.size + 1]) (w.heap.size + 1) #[.bool true, .int .u64 0, .int .u64 0, .int .i64 0, .int .i64 0, .string ⟨#[]⟩, .string ⟨#[]⟩, .bool false, .int .i64 0, .slice none 0 0, .slice none 0 0, .slice none 0 0, .int .i64 0, .int .i64 0, .string ⟨#[]⟩, .int .u64 0, .slice none 0 0, .slice none 0 0, .slice none 0 0, .slice none 0 0, .int .i64 0, .string ⟨#[]⟩, .string ⟨#[]⟩, .int .u64 0, .int .i64 0] (by simp))
    exact ⟨F7.os, F7.tape, F7.output, F7.size, fun c hc hn' => F7.block c hc (by simp at hn' ⊢; omega)⟩
end Go.Proofs.Ytgdeiaholkmfeaa.MemP

/-
  A memory whose blocks are known in depth; Do of any access, in general: contract.
-/
namespace Go.Proofs.Ytgdeiaholkmfeaa.MemP
open Go.RowKit RefP CellP Dp
set_option linter.unusedVariables false
set_option linter.unusedSimpArgs false
def nodeZ : NodeV := ⟨0, ⟨#[]⟩, ⟨#[]⟩, false, 0, [], [], []⟩
def planZ : PlanV := ⟨0, ⟨0, ⟨#[]⟩, 0, []⟩, [], []⟩
def blockZ : BlockV := ⟨0, ⟨0, ⟨#[]⟩, ⟨#[]⟩, false, 0, [], [], []⟩, ⟨0, ⟨0, ⟨#[]⟩, 0, []⟩, [], []⟩, []⟩
def blockE : BlockV := ⟨1, ⟨0, ⟨#[]⟩, ⟨#[]⟩, true, -1, [], [], []⟩, ⟨0, ⟨0, ⟨#[]⟩, 0, []⟩, [], []⟩, []⟩
def opZ : OpV := ⟨0, ⟨#[]⟩, ⟨#[]⟩, 0, 0⟩
def nilH : BlockH := ⟨⟨Hd.nil, Hd.nil, Hd.nil⟩, ⟨Hd.nil, Hd.nil, Hd.nil⟩, Hd.nil⟩
theorem blockZ_ok (w : World) (S : List Nat) : BlockOk w S nilH blockZ :=
  ⟨⟨by decide, by decide⟩, ⟨⟨by decide, by decide⟩, Nat.zero_le _, Nat.zero_le _, ⟨by decide, by decide⟩, HRow.nil _ _ _, HRow.nil _ _ _, HRow.nil _ _ _⟩, ⟨⟨by decide, by decide⟩, ⟨⟨by decide, by decide⟩, Nat.zero_le _, ⟨by decide, by decide⟩, HRow.nil _ _ _⟩, HRow.nil _ _ _, HRow.nil _ _ _⟩, HRow.nil _ _ _⟩
theorem blockE_ok (w : World) (S : List Nat) : BlockOk w S nilH blockE :=
  ⟨⟨by decide, by decide⟩, ⟨⟨by decide, by decide⟩, Nat.zero_le _, Nat.zero_le _, ⟨by decide, by decide⟩, HRow.nil _ _ _, HRow.nil _ _ _, HRow.nil _ _ _⟩, ⟨⟨by decide, by decide⟩, ⟨⟨by decide, by decide⟩, Nat.zero_le _, ⟨by decide, by decide⟩, HRow.nil _ _ _⟩, HRow.nil _ _ _, HRow.nil _ _ _⟩, HRow.nil _ _ _⟩
theorem opZ_ok : OpOk opZ := ⟨⟨by decide, by decide⟩, Nat.zero_le _, Nat.zero_le _, ⟨by decide, by decide⟩, ⟨by decide, by decide⟩⟩
theorem fewZ : Few blockZ := ⟨by decide, by decide, by decide, by decide, by decide, by decide, by decide⟩
theorem fewE : Few blockE := ⟨by decide, by decide, by decide, by decide, by decide, by decide, by decide⟩
/-- a block that lies somewhere, with its rows in none of S -/
def IsB (w : World) (S : List Nat) (cs : List Value) (b : BlockV) : Prop := ∃ q, cs = (blockA q b).toList ∧ BlockOk w S q b ∧ Few b
theorem IsB.keep {w w' : World} {S : List Nat} {cs : List Value} {b : BlockV} (h : IsB w S cs b) (k : Keeps S w w') : IsB w' S cs b := by
  obtain ⟨q, e, H, f⟩ := h
  exact ⟨q, e, H.keep k, f⟩
theorem IsB.more {w : World} {S S' : List Nat} {cs : List Value} {b : BlockV} (h : IsB w S cs b) (k : ∀ b ∈ S', b ∈ S ∨ w.heap.size ≤ b) : IsB w S' cs b := by
  obtain ⟨q, e, H, f⟩ := h
  exact ⟨q, e, H.more k, f⟩
theorem isB_zb (w : World) (S : List Nat) : IsB w S zb blockZ := ⟨nilH, rfl, blockZ_ok w S, fewZ⟩
theorem isB_eb (w : World) (S : List Nat) : IsB w S eb blockE := ⟨nilH, rfl, blockE_ok w S, fewE⟩
/-- the own blocks of a memory -/
structure MemId where
  o : Nat
  oc : Nat
  g : Nat
  gb : Nat
  gr : Nat
def MemId.own (m : MemId) : List Nat := [m.o, m.oc, m.g, m.gb, m.gr]
/-- what a memory has -/
structure MemV where
  A : Nat
  T : Nat
  L : List (Int × Int)
  B : List BlockV
  R : List OpV
structure MemIs (w : World) (S : List Nat) (m : MemId) (M : MemV) : Prop where
  mem : ∃ bs, MemAt w m.o m.oc m.g m.gb m.gr M.A M.T M.L bs (M.R.map opL) ∧ ∀ i, i < M.A → IsB w S (bs.getD i []) (M.B.getD i blockZ)
  len : M.B.length = M.A
  recs : ∀ x ∈ M.R, OpOk x
  own : ∀ b ∈ m.own, b ∈ S
theorem MemIs.keep {w w' : World} {S S' : List Nat} {m : MemId} {M : MemV} (h : MemIs w S m M) (F : Fr S' w w') (h1 : ∀ b ∈ S', b ∈ S) (h2 : ∀ b ∈ m.own, b ∉ S') : MemIs w' S m M := by
  obtain ⟨⟨bs, h0, hB⟩, hl, hr, ho⟩ := h
  refine ⟨⟨bs, h0.off F ?_, fun i hi => (hB i hi).keep (F.keeps.more h1)⟩, hl, hr, ho⟩
  simp only [MemId.own, List.mem_cons, List.not_mem_nil, or_false, forall_eq_or_imp, forall_eq] at h2
  exact h2
theorem MemIs.below {w w' : World} {S : List Nat} {m : MemId} {M : MemV} (h : MemIs w S m M) (hb : Below w.heap.size w w') : MemIs w' S m M :=
  h.keep (Fr.of_below (S := []) hb) (by simp) (by simp)
theorem MemIs.more {w : World} {S S' : List Nat} {m : MemId} {M : MemV} (h : MemIs w S m M) (k : ∀ b ∈ S', b ∈ S ∨ w.heap.size ≤ b) (ho : ∀ b ∈ m.own, b ∈ S') : MemIs w S' m M := by
  obtain ⟨⟨bs, h0, hB⟩, hl, hr, _⟩ := h
  exact ⟨⟨bs, h0, fun i hi => (hB i hi).more k⟩, hl, hr, ho⟩
theorem MemIs.lt {w : World} {S : List Nat} {m : MemId} {M : MemV} (h : MemIs w S m M) : ∀ b ∈ m.own, b < w.heap.size := by
  obtain ⟨⟨bs, h0, hB⟩, _⟩ := h
  have a1 := h0.head.lt
  have a2 := h0.cells.head.lt
  have a3 := h0.cells.rows.lt
  have a4 := h0.blocks.lt
  have a5 := h0.records.lt
  simp only [MemId.own, List.mem_cons, List.not_mem_nil, or_false, forall_eq_or_imp, forall_eq]
  exact ⟨a1, a2, a3, a4, a5⟩
theorem MemIs.at_ {w : World} {S : List Nat} {m : MemId} {M : MemV} (h : MemIs w S m M) : ∃ bs, MemAt w m.o m.oc m.g m.gb m.gr M.A M.T M.L bs (M.R.map opL) := by
  obtain ⟨⟨bs, h0, hB⟩, _⟩ := h
  exact ⟨bs, h0⟩
def clearV (B : List BlockV) (A : Nat) (c : Int) : List BlockV := if (A : Int) ≤ c ∧ c < 2 * A then B.set (c - A).toNat blockZ else B
/-- what an access does -/
def doV (M : MemV) (a : AccV) : MemV :=
  if a.kind = 2 then (if inB M.L.length a.at_ = true then { M with L := storeL M.L a.at_ a.word, B := clearV M.B M.A a.at_ } else M)
  else if a.kind = 3 then (if casB M.L a.at_ a.ver = true then { M with L := casL M.L a.at_ a.ver a.word, B := clearV M.B M.A a.at_ } else M)
  else if a.kind = 5 then (if nameB M.A M.T M.L a.word = true then { M with B := M.B.set (nameP M.A a.word).toNat a.block } else M)
  else if a.kind = 7 then (if 0 ≤ a.at_ ∧ a.at_ < (M.T : Int) then { M with R := M.R.set a.at_.toNat a.op } else M)
  else M
/-- what it answers -/
def repV (M : MemV) (a : AccV) : ReplyV :=
  if a.kind = 1 then ⟨inB M.L.length a.at_, loadW M.L a.at_, loadV M.L a.at_, blockZ, opZ⟩
  else if a.kind = 2 then ⟨inB M.L.length a.at_, 0, 0, blockZ, opZ⟩
  else if a.kind = 3 then ⟨casB M.L a.at_ a.ver, 0, 0, blockZ, opZ⟩
  else if a.kind = 4 then (if nameB M.A M.T M.L a.word = true then ⟨true, 0, 0, M.B.getD (nameP M.A a.word).toNat blockZ, opZ⟩ else ⟨false, 0, 0, blockZ, opZ⟩)
  else if a.kind = 5 then ⟨nameB M.A M.T M.L a.word, 0, 0, blockZ, opZ⟩
  else if a.kind = 6 then (if 0 ≤ a.at_ ∧ a.at_ < (M.T : Int) then ⟨true, 0, 0, blockZ, M.R.getD a.at_.toNat opZ⟩ else ⟨false, 0, 0, blockZ, opZ⟩)
  else if a.kind = 7 then ⟨decide (0 ≤ a.at_ ∧ a.at_ < (M.T : Int)), 0, 0, blockZ, opZ⟩
  else ⟨false, 0, 0, blockZ, opZ⟩
/-- the cells of a reply -/
abbrev repA (q : BlockH) (r : ReplyV) : Array Value := #[.bool r.ok, .int .u64 r.word, .int .u64 r.ver, .int .i64 r.block.kind, .int .i64 r.block.node.level, .string r.block.node.low, .string r.block.node.high, .bool r.block.node.last, .int .i64 r.block.node.next, .slice q.node.keys.a r.block.node.keys.length q.node.keys.c, .slice q.node.vals.a r.block.node.vals.length q.node.vals.c, .slice q.node.kids.a r.block.node.kids.length q.node.kids.c, .int .i64 r.block.plan.thread, .int .i64 r.block.plan.ans.code, .string r.block.plan.ans.key, .int .u64 r.block.plan.ans.val, .slice q.plan.pairs.a r.block.plan.ans.pairs.length q.plan.pairs.c, .slice q.plan.steps.a r.block.plan.steps.length q.plan.steps.c, .slice q.plan.extra.a r.block.plan.extra.length q.plan.extra.c, .slice q.pairs.a r.block.pairs.length q.pairs.c, .int .i64 r.op.kind, .string r.op.key, .string r.op.upto, .int .u64 r.op.val, .int .i64 r.op.limit]
structure RepOk (w : World) (S : List Nat) (q : BlockH) (r : ReplyV) : Prop where
  word : 0 ≤ r.word ∧ r.word ≤ 18446744073709551615
  ver : 0 ≤ r.ver ∧ r.ver ≤ 18446744073709551615
  block : BlockOk w S q r.block
  few : Few r.block
  op : OpOk r.op
/-- an access did what it does, in memory -/
structure Did (w : World) (S : List Nat) (m : MemId) (M : MemV) (a : AccV) (e : Ending) (w' : World) : Prop where
  rep : ∃ q, e = .returned (.agg (repA q (repV M a))) ∧ RepOk w' (List.range w.heap.size) q (repV M a) ∧ (a.kind ≠ 4 → q = nilH)
  mem : MemIs w' S m (doV M a)
  fr : Fr [m.g, m.gb, m.gr] w w'
theorem repZ {w : World} {S : List Nat} (ok : Bool) (word ver : Int) (h1 : 0 ≤ word ∧ word ≤ 18446744073709551615) (h2 : 0 ≤ ver ∧ ver ≤ 18446744073709551615) : RepOk w S nilH ⟨ok, word, ver, blockZ, opZ⟩ := ⟨h1, h2, blockZ_ok w S, fewZ, opZ_ok⟩
theorem clear_isB {w : World} {S : List Nat} {A : Nat} {bs : List (List Value)} {B : List BlockV} (c : Int) (hl : bs.length = A) (hl' : B.length = A) (h : ∀ i, i < A → IsB w S (bs.getD i []) (B.getD i blockZ)) : ∀ i, i < A → IsB w S ((clearL bs A c).getD i []) ((clearV B A c).getD i blockZ) := by
  intro i hi
  unfold clearL clearV
  by_cases hc : (A : Int) ≤ c ∧ c < 2 * A
  · rw [if_pos hc, if_pos hc]
    by_cases he : (c - A).toNat = i
    · subst he
      simp only [List.getD_eq_getElem?_getD, List.getElem?_set_self' , List.getElem?_eq_getElem (show (c - A).toNat < bs.length by omega), List.getElem?_eq_getElem (show (c - A).toNat < B.length by omega)]
      exact isB_zb w S
    · simp only [List.getD_eq_getElem?_getD, List.getElem?_set_ne he]
      simpa only [List.getD_eq_getElem?_getD] using h i hi
  · rw [if_neg hc, if_neg hc]; exact h i hi
theorem put_isB {w : World} {S : List Nat} {A : Nat} {bs : List (List Value)} {B : List BlockV} (k : Nat) (cs : List Value) (b : BlockV) (hb : IsB w S cs b) (hl : bs.length = A) (hl' : B.length = A) (h : ∀ i, i < A → IsB w S (bs.getD i []) (B.getD i blockZ)) : ∀ i, i < A → IsB w S ((bs.set k cs).getD i []) ((B.set k b).getD i blockZ) := by
  intro i hi
  by_cases he : k = i
  · subst he
    simp only [List.getD_eq_getElem?_getD, List.getElem?_set_self', List.getElem?_eq_getElem (show k < bs.length by omega), List.getElem?_eq_getElem (show k < B.length by omega)]
    exact hb
  · simp only [List.getD_eq_getElem?_getD, List.getElem?_set_ne he]
    simpa only [List.getD_eq_getElem?_getD] using h i hi
theorem own_isB {w w' : World} {S S' : List Nat} {A : Nat} {bs : List (List Value)} {B : List BlockV} (F : Fr S' w w') (hS : ∀ b ∈ S', b ∈ S) (h : ∀ i, i < A → IsB w S (bs.getD i []) (B.getD i blockZ)) : ∀ i, i < A → IsB w' S (bs.getD i []) (B.getD i blockZ) :=
  fun i hi => (h i hi).keep (F.keeps.more hS)
theorem loadW_rng {w : World} {oc g : Nat} {L : List (Int × Int)} (h : CellsAt w oc g L) (i : Int) : (0 ≤ loadW L i ∧ loadW L i ≤ 18446744073709551615) ∧ (0 ≤ loadV L i ∧ loadV L i ≤ 18446744073709551615) := by
  unfold loadW loadV
  by_cases hi : inB L.length i = true
  · rw [if_pos hi, if_pos hi]
    have hr := h.rng
    have := inB_yes hi
    have hm : at2 L i.toNat ∈ L := by
      unfold at2
      rw [List.getD_eq_getElem?_getD, List.getElem?_eq_getElem (show i.toNat < L.length by omega)]
      exact List.getElem_mem _
    have := hr _ hm
    omega
  · rw [if_neg hi, if_neg hi]; omega
end Go.Proofs.Ytgdeiaholkmfeaa.MemP

/-
  Reading a node: plain laws: the accesses one by one; what is got stood in its cell at the moment of which it is sure.
-/
namespace Go.Proofs.Ytgdeiaholkmfeaa.MemP
open Go.RowKit RefP CellP Dp
set_option linter.unusedVariables false
set_option linter.unusedSimpArgs false
/-- a task of reading -/
structure RS where
  at_ : Int
  st : Int
  su : Bool
  word : Int
  ver : Int
  node : NodeV
def rs0 : RS := ⟨0, 0, false, 0, 0, nodeZ⟩
/-- its next access -/
def rsAcc (A T : Nat) (th cell : Int) (x : RS) : AccV :=
  if x.at_ = 1 then ⟨2, hazI A T th 1, 0, x.word, blockZ, opZ⟩ else if x.at_ = 3 then ⟨4, 0, 0, x.word, blockZ, opZ⟩ else ⟨1, atI A T 0 cell, 0, 0, blockZ, opZ⟩
/-- behind a reply -/
def rsTell (x : RS) (r : ReplyV) : RS :=
  if x.at_ = 0 then ⟨1, if opensB r.word = true then 0 else 1, false, r.word, r.ver, x.node⟩
  else if x.at_ = 1 then ⟨2, 0, false, x.word, x.ver, x.node⟩
  else if x.at_ = 2 then (if r.ver = x.ver then ⟨3, 0, true, x.word, x.ver, x.node⟩ else ⟨3, 2, false, x.word, x.ver, x.node⟩)
  else ⟨4, if r.ok = true ∧ r.block.kind = 1 then 4 else 3, false, x.word, x.ver, r.block.node⟩
theorem at2_set_ne (L : List (Int × Int)) (i j : Nat) (c : Int × Int) (h : i ≠ j) : at2 (L.set i c) j = at2 L j := by
  simp [at2, List.getElem?_set_ne h]
theorem at2_set_self (L : List (Int × Int)) (i : Nat) (c : Int × Int) (h : i < L.length) : at2 (L.set i c) i = c := by
  simp [at2, h]
theorem writeL_off (L : List (Int × Int)) (i word : Int) (j : Nat) (h : i.toNat ≠ j) : at2 (writeL L i word) j = at2 L j := at2_set_ne _ _ _ _ h
theorem doV_L (M : MemV) (a : AccV) : (doV M a).L = M.L ∨ ((a.kind = 2 ∨ a.kind = 3) ∧ inB M.L.length a.at_ = true ∧ (doV M a).L = writeL M.L a.at_ a.word) := by
  unfold doV
  by_cases k2 : a.kind = 2
  · rw [if_pos k2]
    by_cases hi : inB M.L.length a.at_ = true
    · rw [if_pos hi]; exact .inr ⟨.inl k2, hi, storeL_yes _ hi⟩
    · rw [if_neg hi]; exact .inl rfl
  · rw [if_neg k2]
    by_cases k3 : a.kind = 3
    · rw [if_pos k3]
      by_cases hi : casB M.L a.at_ a.ver = true
      · rw [if_pos hi]; exact .inr ⟨.inr k3, casB_in hi, casL_yes _ hi⟩
      · rw [if_neg hi]; exact .inl rfl
    · rw [if_neg k3]
      by_cases k5 : a.kind = 5
      · rw [if_pos k5]; split <;> exact .inl rfl
      · rw [if_neg k5]
        by_cases k7 : a.kind = 7
        · rw [if_pos k7]; split <;> exact .inl rfl
        · rw [if_neg k7]; exact .inl rfl
theorem doV_A (M : MemV) (a : AccV) : (doV M a).A = M.A ∧ (doV M a).T = M.T := by
  unfold doV
  repeat' split
  all_goals exact ⟨rfl, rfl⟩
theorem doV_len (M : MemV) (a : AccV) : (doV M a).L.length = M.L.length := by
  rcases doV_L M a with h | ⟨_, _, h⟩
  · rw [h]
  · rw [h, writeL_length]
/-- versions are few -/
def VB (L : List (Int × Int)) (n : Nat) : Prop := ∀ p ∈ L, 0 ≤ p.2 ∧ p.2 ≤ (n : Int)
theorem VB.at {L : List (Int × Int)} {n : Nat} (h : VB L n) (i : Nat) : 0 ≤ (at2 L i).2 ∧ (at2 L i).2 ≤ (n : Int) := by
  by_cases hi : i < L.length
  · exact h _ (at2_mem L i hi)
  · rw [at2_out _ _ (by omega)]; simp
theorem nextV_small {v : Int} (h0 : 0 ≤ v) (h1 : v ≤ 1000000) : nextV v = v + 1 := by unfold nextV; omega
theorem VB.step {M : MemV} {n : Nat} (h : VB M.L n) (hn : n ≤ 100000) (a : AccV) : VB (doV M a).L (n + 1) := by
  rcases doV_L M a with e | ⟨_, _, e⟩
  · rw [e]; intro p hp; have := h p hp; omega
  · rw [e]
    intro p hp
    rcases List.mem_or_eq_of_mem_set hp with hp | rfl
    · have := h p hp; omega
    · have := h.at a.at_.toNat
      simp only
      rw [nextV_small (by omega) (by omega)]
      omega
/-- a cell stays, or its version is the next one -/
theorem cell_step {M : MemV} {n : Nat} (h : VB M.L n) (hn : n ≤ 100000) (a : AccV) (c : Nat) (hc : c < M.L.length) : at2 (doV M a).L c = at2 M.L c ∨ (at2 (doV M a).L c).2 = (at2 M.L c).2 + 1 := by
  rcases doV_L M a with e | ⟨_, hi, e⟩
  · rw [e]; exact .inl rfl
  · rw [e]
    by_cases hc' : a.at_.toNat = c
    · right
      have := h.at c
      rw [hc'.symm] at this ⊢
      rw [writeL, at2_set_self _ _ _ (by omega)]
      exact nextV_small (by omega) (by omega)
    · exact .inl (writeL_off _ _ _ _ hc')
theorem cell_keep {M : MemV} (a : AccV) (c : Nat) (h : (a.kind ≠ 2 ∧ a.kind ≠ 3) ∨ a.at_ ≠ (c : Int)) : at2 (doV M a).L c = at2 M.L c := by
  rcases doV_L M a with e | ⟨hk, hi, e⟩
  · rw [e]
  · rw [e]
    have := inB_yes hi
    exact writeL_off _ _ _ _ (by omega)
/-- while it is read -/
structure RI (n : Nat) (L : List (Int × Int)) (x : RS) (sure : Int) (i : Nat) : Prop where
  len : L.length = 21
  vb : VB L n
  at_ : x.st = 0 → x.at_ = (i : Int) ∧ i ≤ 3
  seen : x.st = 0 → 1 ≤ i → x.ver ≤ (at2 L 0).2 ∧ ((at2 L 0).2 = x.ver → (at2 L 0).1 = x.word)
  haz : x.st = 0 → 2 ≤ i → (at2 L 17).1 = x.word
  su3 : x.st = 0 → 3 ≤ i → sure = x.word
  got : x.st = 4 → sure = x.word
theorem RI.start {n : Nat} {L : List (Int × Int)} (hl : L.length = 21) (hv : VB L n) (sure : Int) : RI n L rs0 sure 0 :=
  ⟨hl, hv, fun _ => ⟨rfl, by omega⟩, (fun _ h => by omega), (fun _ h => by omega), (fun _ h => by omega), (fun h => by cases h)⟩
theorem RI.other {n : Nat} {M : MemV} {x : RS} {sure : Int} {i : Nat} (h : RI n M.L x sure i) (hn : n ≤ 100000) (a : AccV) (ha : (a.kind ≠ 2 ∧ a.kind ≠ 3) ∨ a.at_ ≠ 17) : RI (n + 1) (doV M a).L x sure i := by
  refine ⟨by rw [doV_len, h.len], h.vb.step hn a, h.at_, fun h0 h1 => ?_, fun h0 h2 => ?_, h.su3, h.got⟩
  · obtain ⟨s1, s2⟩ := h.seen h0 h1
    rcases cell_step h.vb hn a 0 (by rw [h.len]; omega) with e | e
    · rw [e]; exact ⟨s1, s2⟩
    · rw [e]; exact ⟨by omega, fun e' => by omega⟩
  · rw [cell_keep a 17 ha]; exact h.haz h0 h2
theorem load_at2 {L : List (Int × Int)} {i : Nat} (h : i < L.length) : loadW L (i : Int) = (at2 L i).1 ∧ loadV L (i : Int) = (at2 L i).2 := by
  have hi : inB L.length (i : Int) = true := inB_mk (by omega) (by omega)
  rw [loadW_yes hi, loadV_yes hi]
  exact ⟨rfl, rfl⟩
theorem at_node : atI 5 2 0 0 = 0 := by decide
theorem at_haz : hazI 5 2 0 1 = 17 := by decide
/-- one access of it -/
theorem RI.step {n : Nat} {M : MemV} {x : RS} {sure : Int} {i : Nat} (h : RI n M.L x sure i) (hn : n ≤ 100000) (h0 : x.st = 0) :
    ((rsTell x (repV M (rsAcc 5 2 0 0 x))).su = true → loadW (doV M (rsAcc 5 2 0 0 x)).L 0 = loadW (doV M (rsAcc 5 2 0 0 x)).L 17) ∧
    RI (n + 1) (doV M (rsAcc 5 2 0 0 x)).L (rsTell x (repV M (rsAcc 5 2 0 0 x))) (if (rsTell x (repV M (rsAcc 5 2 0 0 x))).su = true then loadW (doV M (rsAcc 5 2 0 0 x)).L 0 else sure) (i + 1) := by
  obtain ⟨hat, hi3⟩ := h.at_ h0
  have hlen := h.len
  have l0 := load_at2 (L := M.L) (i := 0) (by omega)
  have l17 := load_at2 (L := M.L) (i := 17) (by omega)
  have hi : i = 0 ∨ i = 1 ∨ i = 2 ∨ i = 3 := by omega
  rcases hi with rfl | rfl | rfl | rfl
  · have hx : x.at_ = 0 := hat
    have ea : rsAcc 5 2 0 0 x = ⟨1, 0, 0, 0, blockZ, opZ⟩ := by simp [rsAcc, hx, at_node]
    have er : repV M (rsAcc 5 2 0 0 x) = ⟨inB M.L.length 0, loadW M.L 0, loadV M.L 0, blockZ, opZ⟩ := by rw [ea]; simp [repV]
    have et : rsTell x (repV M (rsAcc 5 2 0 0 x)) = ⟨1, if opensB (loadW M.L 0) = true then 0 else 1, false, loadW M.L 0, loadV M.L 0, x.node⟩ := by rw [er]; simp [rsTell, hx]
    have eD : (doV M (rsAcc 5 2 0 0 x)).L = M.L := by rw [ea]; rfl
    rw [et, eD]
    refine ⟨(fun e => by cases e), ⟨hlen, fun p hp => ?_, (fun hs => ⟨rfl, by omega⟩), fun hs _ => ?_, (fun _ h => by omega), (fun _ h => by omega), fun hs => ?_⟩⟩
    · have := h.vb p hp; omega
    · show loadV M.L 0 ≤ (at2 M.L 0).2 ∧ ((at2 M.L 0).2 = loadV M.L 0 → (at2 M.L 0).1 = loadW M.L 0)
      have q1 : loadW M.L 0 = (at2 M.L 0).1 := l0.1
      have q2 : loadV M.L 0 = (at2 M.L 0).2 := l0.2
      rw [q1, q2]; exact ⟨Int.le_refl _, fun _ => rfl⟩
    · exfalso
      have hs' : (if opensB (loadW M.L 0) = true then (0 : Int) else 1) = 4 := hs
      split at hs' <;> omega
  · have hx : x.at_ = 1 := hat
    have ea : rsAcc 5 2 0 0 x = ⟨2, 17, 0, x.word, blockZ, opZ⟩ := by simp [rsAcc, hx, at_haz]
    have hin : inB M.L.length 17 = true := inB_mk (by omega) (by omega)
    have et : rsTell x (repV M (rsAcc 5 2 0 0 x)) = ⟨2, 0, false, x.word, x.ver, x.node⟩ := by simp [rsTell, hx]
    have eD : (doV M (rsAcc 5 2 0 0 x)).L = writeL M.L 17 x.word := by rw [ea]; simp [doV, hin, storeL_yes]
    have hv := h.vb.step hn (rsAcc 5 2 0 0 x)
    rw [eD] at hv
    rw [et, eD]
    obtain ⟨s1, s2⟩ := h.seen h0 (by omega)
    have e0 : at2 (writeL M.L 17 x.word) 0 = at2 M.L 0 := writeL_off _ _ _ _ (by decide)
    have e17 : (at2 (writeL M.L 17 x.word) 17).1 = x.word := by
      rw [writeL, show (17 : Int).toNat = 17 from rfl, at2_set_self _ _ _ (by omega)]
    refine ⟨(fun e => by cases e), ⟨by rw [writeL_length]; exact hlen, hv, fun _ => ⟨rfl, by omega⟩, fun _ _ => ?_, fun _ _ => e17, (fun _ h => by omega), (fun hs => by cases hs)⟩⟩
    rw [e0]; exact ⟨s1, s2⟩
  · have hx : x.at_ = 2 := hat
    have ea : rsAcc 5 2 0 0 x = ⟨1, 0, 0, 0, blockZ, opZ⟩ := by simp [rsAcc, hx, at_node]
    have er : repV M (rsAcc 5 2 0 0 x) = ⟨inB M.L.length 0, loadW M.L 0, loadV M.L 0, blockZ, opZ⟩ := by rw [ea]; simp [repV]
    have eD : (doV M (rsAcc 5 2 0 0 x)).L = M.L := by rw [ea]; rfl
    obtain ⟨s1, s2⟩ := h.seen h0 (by omega)
    have hh := h.haz h0 (by omega)
    have q1 : loadW M.L 0 = (at2 M.L 0).1 := l0.1
    have q2 : loadV M.L 0 = (at2 M.L 0).2 := l0.2
    have q3 : loadW M.L 17 = (at2 M.L 17).1 := l17.1
    have hv : VB M.L (n + 1) := fun p hp => by have := h.vb p hp; omega
    by_cases hve : loadV M.L 0 = x.ver
    · have et : rsTell x (repV M (rsAcc 5 2 0 0 x)) = ⟨3, 0, true, x.word, x.ver, x.node⟩ := by rw [er]; simp [rsTell, hx, hve]
      have hw := s2 (by rw [← q2]; exact hve)
      rw [et, eD]
      refine ⟨(fun _ => by rw [q1, q3, hw, hh]), ⟨hlen, hv, fun _ => ⟨rfl, by omega⟩, fun _ _ => ⟨s1, s2⟩, fun _ _ => hh, fun _ _ => ?_, (fun hs => by cases hs)⟩⟩
      simp only [if_true]
      rw [q1, hw]
    · have et : rsTell x (repV M (rsAcc 5 2 0 0 x)) = ⟨3, 2, false, x.word, x.ver, x.node⟩ := by rw [er]; simp [rsTell, hx, hve]
      rw [et, eD]
      exact ⟨(fun e => by cases e), ⟨hlen, hv, (fun e => by cases e), (fun e => by cases e), (fun e => by cases e), (fun e => by cases e), (fun e => by cases e)⟩⟩
  · have hx : x.at_ = 3 := hat
    have ea : rsAcc 5 2 0 0 x = ⟨4, 0, 0, x.word, blockZ, opZ⟩ := by simp [rsAcc, hx]
    have eD : (doV M (rsAcc 5 2 0 0 x)).L = M.L := by rw [ea]; rfl
    have hs := h.su3 h0 (by omega)
    have hv : VB M.L (n + 1) := fun p hp => by have := h.vb p hp; omega
    have et : rsTell x (repV M (rsAcc 5 2 0 0 x)) = ⟨4, if (repV M (rsAcc 5 2 0 0 x)).ok = true ∧ (repV M (rsAcc 5 2 0 0 x)).block.kind = 1 then 4 else 3, false, x.word, x.ver, (repV M (rsAcc 5 2 0 0 x)).block.node⟩ := by simp [rsTell, hx]
    rw [et, eD]
    have hne : ∀ (c : Prop) [Decidable c], (if c then (4 : Int) else 3) ≠ 0 := fun c _ => by split <;> decide
    refine ⟨(fun e => by cases e), ⟨hlen, hv, fun e => absurd e (hne _), fun e => absurd e (hne _), fun e => absurd e (hne _), fun e => absurd e (hne _), fun _ => ?_⟩⟩
    show (if false = true then _ else sure) = x.word
    rw [if_neg (by decide)]; exact hs
end Go.Proofs.Ytgdeiaholkmfeaa.MemP

/-
  Light of a row of accesses (chapter 26's law): contract.
-/
namespace Go.Proofs.Ytgdeiaholkmfeaa.Dp
open Go.RowKit RefP
set_option linter.unusedVariables false
set_option linter.unusedSimpArgs false
/-- an access's cells, written out -/
abbrev acc26 (q : BlockH) (x : AccV) : List Value := [.int .i64 x.kind, .int .i64 x.at_, .int .u64 x.ver, .int .u64 x.word, .int .i64 x.block.kind, .int .i64 x.block.node.level, .string x.block.node.low, .string x.block.node.high, .bool x.block.node.last, .int .i64 x.block.node.next, .slice q.node.keys.a x.block.node.keys.length q.node.keys.c, .slice q.node.vals.a x.block.node.vals.length q.node.vals.c, .slice q.node.kids.a x.block.node.kids.length q.node.kids.c, .int .i64 x.block.plan.thread, .int .i64 x.block.plan.ans.code, .string x.block.plan.ans.key, .int .u64 x.block.plan.ans.val, .slice q.plan.pairs.a x.block.plan.ans.pairs.length q.plan.pairs.c, .slice q.plan.steps.a x.block.plan.steps.length q.plan.steps.c, .slice q.plan.extra.a x.block.plan.extra.length q.plan.extra.c, .slice q.pairs.a x.block.pairs.length q.pairs.c, .int .i64 x.op.kind, .string x.op.key, .string x.op.upto, .int .u64 x.op.val, .int .i64 x.op.limit]
theorem accL_eq (q : BlockH) (x : AccV) : accL q x = acc26 q x := rfl
/-- how many pairs, as the machine's number -/
def sumW (x : AccV) : Int := IntKind.i64.wrap ((x.block.pairs.length : Int) + (x.block.plan.ans.pairs.length : Int))
def lightA (x : AccV) : Bool := lightN x.block.node && (decide (x.block.plan.steps.length ≤ 60) && (decide (x.block.plan.extra.length ≤ 60) && decide (sumW x ≤ 60)))
def lightL (xs : List AccV) : Bool := xs.all lightA && decide (xs.length ≤ 60)
theorem lightL_no {xs : List AccV} {k : Nat} (hk : k < xs.length) (h : lightA xs[k] = false) : lightL xs = false := by
  have : xs.all lightA = false := by
    rw [Bool.eq_false_iff]
    intro e
    rw [List.all_eq_true] at e
    have := e _ (List.getElem_mem hk)
    rw [h] at this; cases this
  simp [lightL, this]
/-- an access of a row -/
theorem acc_cell {w : World} {S : List Nat} {a : Option Addr} {xs : List AccV} (H : RowRep accT w S a xs) (k : Nat) (hk : k < xs.length) : ∃ b off q, a = some ⟨b, off, none⟩ ∧ b < w.heap.size ∧ w.rangeAt b (off + k * 26) (acc26 q xs[k]) ∧ AccOk w S q xs[k] := by
  obtain ⟨b, off, e, hb, _, hc⟩ := H (by omega)
  obtain ⟨cs, hr, hv⟩ := hc k xs[k] (List.getElem?_eq_getElem hk)
  obtain ⟨q, rfl, hok⟩ := accT_of hr
  exact ⟨b, off, q, e, hb, hv, hok⟩
theorem range_blk {w : World} {b : Nat} {cs : Array Value} {T : TypeId} (B : Blk w b cs T) (o : Nat) (l : List Value) (h : ∀ j v, l[j]? = some v → cs[o + j]? = some v) : w.rangeAt b o l := fun j v hv => B.at _ (h j v hv)
theorem lt8 {r : Nat} (h : r < 8) : r = 0 ∨ r = 1 ∨ r = 2 ∨ r = 3 ∨ r = 4 ∨ r = 5 ∨ r = 6 ∨ r = 7 := by omega
theorem acc_node {w : World} {b : Nat} {q : BlockH} {x : AccV} {T : TypeId} (B : Blk w b (acc26 q x).toArray T) : w.rangeAt b 5 (nodeL q.node x.block.node) :=
  range_blk B 5 _ (fun j v hv => by
    have hj : j < 8 := (List.getElem?_eq_some_iff.1 hv).1
    rcases lt8 hj with e | e | e | e | e | e | e | e <;> subst e <;> exact hv)
set_option maxRecDepth 100000 in
set_option maxHeartbeats 3200000 in
theorem light_any (S : List Nat) (a : Option Addr) (c : Nat) (xs : List AccV) (w : World) (H : RowRep accT w S a xs) (hm : xs.length ≤ 9223372036854775807) : Calls Try.prog 6 #[.slice a xs.length c] w fun e w' => e = .returned (.bool (lightL xs)) ∧ Below w.heap.size w w' := by
  have hmx : (maxLen : Nat) = 9223372036854775807 := by unfold maxLen; rfl
  go_enter Try.func6, Try.ntmps6
  go_wp2_with fail
  go_loopw [7] (fun i wr => ∃ k : Nat, k ≤ xs.length ∧ i = .int .i64 k ∧ Below w.heap.size w wr ∧ (xs.take k).all lightA = true) (fun i _ => xs.length - (intOf i).toNat)
  case atStart => exact ⟨0, Nat.zero_le _, rfl, Below.refl _ _, by simp⟩
  case round =>
    obtain ⟨k, hk, rfl, hb, hall⟩ := hrel
    by_cases hlt : k < xs.length
    · have hlt' : (k : Int) < (xs.length : Int) := by omega
      obtain ⟨b, off, q, rfl, hbl, hcs, hok⟩ := acc_cell (H.keep (Keeps.of_below hb)) k hlt
      have hall2 : lightA xs[k] = true → (xs.take (k + 1)).all lightA = true := fun e => by
        rw [List.take_succ_eq_append_getElem hlt, List.all_append, hall]; simp [e]
      have hno : lightA xs[k] = false → lightL xs = false := lightL_no hlt
      generalize xs[k] = x at hcs hok hall2 hno
      have hB1 := below_alloc2 hb (Nat.le_refl _) (.cells (acc26 q x).toArray 44)
      have BX := Blk.new wr (acc26 q x).toArray 44
      have hN := acc_node BX
      have hNode := (hok.block.node)
      go_wp2_with (first
        | (refine wpList_load_mid rfl 44 _ rfl b (off + k * 26) rfl (acc26 q x) _ hcs Try.underlying44 rfl (by kernel_rfl) ?_)
        | (refine wpList_store_row rfl 44 _ _ rfl _ _ rfl rfl 44 _ (Blk.new wr _ _).h (by kernel_rfl) (by rfl) (by kernel_rfl) ?_; rw [World.setRow_alloc_new])
        | (refine wpList_load_mid rfl 32 _ rfl wr.heap.size 5 rfl (nodeL q.node x.block.node) _ hN Try.underlying32 rfl (by kernel_rfl) ?_))
      refine (light10_any S q.node x.block.node _ (hNode.keep (Keeps.of_below ((Below.refl _ wr).alloc (Nat.le_refl _) _)))).mono ?_
      rintro e w2 ⟨rfl, hb2⟩
      have BX2 := BX.below hb2
      have b17 : w2.cell? ⟨wr.heap.size, 17, none⟩ = some (.slice q.plan.pairs.a x.block.plan.ans.pairs.length q.plan.pairs.c) := BX2.at 17 rfl
      have b18 : w2.cell? ⟨wr.heap.size, 18, none⟩ = some (.slice q.plan.steps.a x.block.plan.steps.length q.plan.steps.c) := BX2.at 18 rfl
      have b19 : w2.cell? ⟨wr.heap.size, 19, none⟩ = some (.slice q.plan.extra.a x.block.plan.extra.length q.plan.extra.c) := BX2.at 19 rfl
      have b20 : w2.cell? ⟨wr.heap.size, 20, none⟩ = some (.slice q.pairs.a x.block.pairs.length q.pairs.c) := BX2.at 20 rfl
      have hz : IntKind.i64.wrap ((x.block.pairs.length : Int) + (x.block.plan.ans.pairs.length : Int)) = sumW x := rfl
      have hA : lightA x = (lightN x.block.node && (decide (x.block.plan.steps.length ≤ 60) && (decide (x.block.plan.extra.length ≤ 60) && decide (sumW x ≤ 60)))) := rfl
      clear hcs hok hN hNode BX BX2
      by_cases g0 : lightN x.block.node = true
      · rw [g0]
        by_cases g1 : x.block.plan.steps.length ≤ 60
        · have q1 : decide (60 < (x.block.plan.steps.length : Int)) = false := by simp; omega
          by_cases g2 : x.block.plan.extra.length ≤ 60
          · have q2 : decide (60 < (x.block.plan.extra.length : Int)) = false := by simp; omega
            by_cases g3 : sumW x ≤ 60
            · have hx2 := hall2 (by rw [hA, g0]; simp [g1, g2, g3])
              generalize sumW x = z at hz g3
              have q3 : decide (60 < z) = false := by simp; omega
              clear hall2 hno hA g0 g1 g2 g3
              go_wp2_with fail
              go_roundw
              case rel => exact ⟨k + 1, by omega, by go_num, below_push2 hB1 hb2 (Nat.le_refl _), hx2⟩
              case measure => simp [intOf]; omega
            · have hE := Lib.hid (hno (by rw [hA]; simp [g3]))
              generalize sumW x = z at hz g3
              have q3 : decide (60 < z) = true := by simp; omega
              clear hall2 hno hA g0 g1 g2 g3
              go_wp2_with fail
              go_ret
              exact ⟨by rw [hE.out]; rfl, below_push2 hB1 hb2 (Nat.le_refl _)⟩
          · have q2 : decide (60 < (x.block.plan.extra.length : Int)) = true := by simp; omega
            have hE := Lib.hid (hno (by rw [hA]; simp [g2]))
            clear hall2 hno hA g0 g1 g2
            go_wp2_with fail
            go_ret
            exact ⟨by rw [hE.out]; rfl, below_push2 hB1 hb2 (Nat.le_refl _)⟩
        · have q1 : decide (60 < (x.block.plan.steps.length : Int)) = true := by simp; omega
          have hE := Lib.hid (hno (by rw [hA]; simp [g1]))
          clear hall2 hno hA g0 g1
          go_wp2_with fail
          go_ret
          exact ⟨by rw [hE.out]; rfl, below_push2 hB1 hb2 (Nat.le_refl _)⟩
      · have g0' : lightN x.block.node = false := by simpa using g0
        rw [g0']
        have hE := Lib.hid (hno (by rw [hA]; simp [g0']))
        clear hall2 hno hA g0 g0'
        go_wp2_with fail
        go_ret
        exact ⟨by rw [hE.out]; rfl, below_push2 hB1 hb2 (Nat.le_refl _)⟩
    · obtain rfl : k = xs.length := by omega
      rw [List.take_length] at hall
      have hE : Hid (lightL xs = decide (xs.length ≤ 60)) := by simp [Hid, lightL, hall]
      have q1 : decide ((xs.length : Int) ≤ 60) = decide (xs.length ≤ 60) := by simp; omega
      clear hall
      go_wp2_with fail
      go_ret
      exact ⟨by rw [hE.out]; rfl, hb⟩
end Go.Proofs.Ytgdeiaholkmfeaa.Dp

/-
  Do of any access on a memory that is known in depth: contract.
-/
namespace Go.Proofs.Ytgdeiaholkmfeaa.MemP
open Go.RowKit RefP CellP Dp
set_option linter.unusedVariables false
set_option linter.unusedSimpArgs false
/-- the own blocks were there, and S holds blocks that are there alone -/
theorem doS {S : List Nat} {m : MemId} (h : ∀ b ∈ m.own, b ∈ S) : ∀ b ∈ [m.g, m.gb, m.gr], b ∈ S := by
  simp only [MemId.own, List.mem_cons, List.not_mem_nil, or_false, forall_eq_or_imp, forall_eq] at h ⊢
  exact ⟨h.2.2.1, h.2.2.2.1, h.2.2.2.2⟩
theorem fr3 {m : MemId} {S : List Nat} {w w' : World} (F : Fr S w w') (h : ∀ b ∈ S, b = m.g ∨ b = m.gb ∨ b = m.gr) : Fr [m.g, m.gb, m.gr] w w' := F.more (fun b hb => by simpa using h b hb)
theorem did_same {w w' : World} {S : List Nat} {m : MemId} {M : MemV} {a : AccV} {q : BlockH} {e : Ending} (h : MemIs w S m M) (hM : doV M a = M) (hq : RepOk w' (List.range w.heap.size) q (repV M a)) (he : e = .returned (.agg (repA q (repV M a)))) (hb : Below w.heap.size w w') (hn : a.kind ≠ 4 → q = nilH) : Did w S m M a e w' :=
  ⟨⟨q, he, hq, hn⟩, by rw [hM]; exact h.below hb, Fr.of_below hb⟩
theorem z64 : (0 : Int) ≤ 0 ∧ (0 : Int) ≤ 18446744073709551615 := by decide
theorem opL_getD (R : List OpV) (k : Nat) (hk : k < R.length) : (R.map opL).getD k [] = opL (R.getD k opZ) := by
  simp [List.getD_eq_getElem?_getD, hk]
theorem op_of {R : List OpV} (h : ∀ x ∈ R, OpOk x) (k : Nat) : OpOk (R.getD k opZ) := by
  rw [List.getD_eq_getElem?_getD]
  by_cases hk : k < R.length
  · rw [List.getElem?_eq_getElem hk]; exact h _ (List.getElem_mem hk)
  · rw [List.getElem?_eq_none (by omega)]; exact opZ_ok
theorem map_set {R : List OpV} (k : Nat) (x : OpV) : (R.map opL).set k (opL x) = (R.set k x).map opL := by
  rw [List.map_set]
set_option maxRecDepth 100000 in
set_option maxHeartbeats 3200000 in
theorem do_any {S S0 : List Nat} {m : MemId} {M : MemV} (a : AccV) (q : BlockH) (w : World) (h : MemIs w S m M) (hS : ∀ b ∈ S, b < w.heap.size) (ha : AccOk w S0 q a) (hf : Few a.block) :
    Calls Try.prog 9 #[.pointer (some ⟨m.o, 0, none⟩), .agg (acc26 q a).toArray] w fun e w' => Did w S m M a e w' := by
  have ho := doS h.own
  obtain ⟨⟨bs, h0, hB⟩, hl, hr, hown⟩ := id h
  obtain ⟨hv0, hv1⟩ := ha.ver
  obtain ⟨hx0, hx1⟩ := ha.word
  have hblk := ha.block
  have hop := ha.op
  obtain ⟨kind, i, ver, word, b, x⟩ := a
  simp only at hv0 hv1 hx0 hx1 hblk hf hop
  have hne := h0.ne
  have hlt := h.lt
  simp only [MemId.own, List.mem_cons, List.not_mem_nil, or_false, forall_eq_or_imp, forall_eq] at hlt
  by_cases k1 : kind = 1
  · subst k1
    refine (show Calls _ _ _ _ _ from do_load i ver word _ _ _ _ _ _ _ _ _ _ _ _ _ _ _ _ _ _ _ _ _ _ w h0).mono ?_
    rintro e w' ⟨rfl, hb⟩
    obtain ⟨r1, r2⟩ := loadW_rng h0.cells i
    have hR : repV M ⟨1, i, ver, word, b, x⟩ = ⟨inB M.L.length i, loadW M.L i, loadV M.L i, blockZ, opZ⟩ := by simp [repV]
    refine did_same (q := nilH) h (by simp [doV]) ?_ ?_ hb (fun h => by first | rfl | exact absurd rfl h) <;> rw [hR]
    · exact repZ _ _ _ r1 r2
    · rfl
  by_cases k2 : kind = 2
  · subst k2
    refine (show Calls _ _ _ _ _ from do_store i ver word _ _ _ _ _ _ _ _ _ _ _ _ _ _ _ _ _ _ _ _ _ _ w h0 hx0 hx1).mono ?_
    rintro e w' ⟨rfl, h1, F⟩
    have F3 : Fr [m.g, m.gb, m.gr] w w' := F.more (by simp)
    have hR : repV M ⟨2, i, ver, word, b, x⟩ = ⟨inB M.L.length i, 0, 0, blockZ, opZ⟩ := by simp [repV]
    refine ⟨⟨nilH, by rw [hR]; rfl, by rw [hR]; exact repZ _ _ _ ⟨by decide, by decide⟩ ⟨by decide, by decide⟩, fun _ => rfl⟩, ?_, F3⟩
    unfold doV
    rw [if_pos rfl]
    by_cases hi : inB M.L.length i = true
    · rw [if_pos hi]
      rw [storeB_yes _ _ hi] at h1
      exact ⟨⟨_, h1, clear_isB i (by rw [h0.lb]) hl (own_isB F3 ho hB)⟩, by unfold clearV; split <;> simp [hl], hr, hown⟩
    · rw [if_neg hi]
      have hi' : inB M.L.length i = false := by simpa using hi
      rw [storeB_no _ _ hi', storeL_no _ hi'] at h1
      exact ⟨⟨_, h1, own_isB F3 ho hB⟩, hl, hr, hown⟩
  by_cases k3 : kind = 3
  · subst k3
    refine (show Calls _ _ _ _ _ from do_cas i ver word _ _ _ _ _ _ _ _ _ _ _ _ _ _ _ _ _ _ _ _ _ _ w h0 hv0 hv1 hx0 hx1).mono ?_
    rintro e w' ⟨rfl, h1, F⟩
    have F3 : Fr [m.g, m.gb, m.gr] w w' := F.more (by simp)
    have hR : repV M ⟨3, i, ver, word, b, x⟩ = ⟨casB M.L i ver, 0, 0, blockZ, opZ⟩ := by simp [repV]
    refine ⟨⟨nilH, by rw [hR]; rfl, by rw [hR]; exact repZ _ _ _ ⟨by decide, by decide⟩ ⟨by decide, by decide⟩, fun _ => rfl⟩, ?_, F3⟩
    unfold doV
    rw [if_neg (show ¬ (3 : Int) = 2 by decide), if_pos rfl]
    by_cases hi : casB M.L i ver = true
    · rw [if_pos hi]
      rw [casBs_yes _ _ hi] at h1
      exact ⟨⟨_, h1, clear_isB i (by rw [h0.lb]) hl (own_isB F3 ho hB)⟩, by unfold clearV; split <;> simp [hl], hr, hown⟩
    · rw [if_neg hi]
      have hi' : casB M.L i ver = false := by simpa using hi
      rw [casBs_no _ _ hi', casL_no _ hi'] at h1
      exact ⟨⟨_, h1, own_isB F3 ho hB⟩, hl, hr, hown⟩
  by_cases k4 : kind = 4
  · subst k4
    cases hN : nameB M.A M.T M.L word
    · refine (show Calls _ _ _ _ _ from do_get_no i ver word _ _ _ _ _ _ _ _ _ _ _ _ _ _ _ _ _ _ _ _ _ _ w h0 hx0 hx1 hN).mono ?_
      rintro e w' ⟨rfl, hb⟩
      have hR : repV M ⟨4, i, ver, word, b, x⟩ = ⟨false, 0, 0, blockZ, opZ⟩ := by simp [repV, hN]
      refine did_same (q := nilH) h (by simp [doV]) ?_ ?_ hb (fun h => by first | rfl | exact absurd rfl h) <;> rw [hR]
      · exact repZ _ _ _ ⟨by decide, by decide⟩ ⟨by decide, by decide⟩
      · rfl
    · obtain ⟨k, hk, hp, _⟩ := named_lt hN
      have hR : repV M ⟨4, i, ver, word, b, x⟩ = ⟨true, 0, 0, M.B.getD k blockZ, opZ⟩ := by simp [repV, hN, hp]
      obtain ⟨q1, e1, H1, f1⟩ := hB k hk
      refine (show Calls _ _ _ _ _ from do_get_yes i ver word _ _ _ _ _ _ _ _ _ _ _ _ _ _ _ _ _ _ _ _ _ _ k S q1 (M.B.getD k blockZ) w h0 hx0 hx1 hN hk hp e1 H1 f1).mono ?_
      rintro e w' ⟨⟨q', rfl, H'⟩, hb⟩
      refine did_same (q := q') h (by simp [doV]) ?_ ?_ hb (fun h => by first | rfl | exact absurd rfl h) <;> rw [hR]
      · exact ⟨z64, z64, H', f1, opZ_ok⟩
      · rfl
  by_cases k5 : kind = 5
  · subst k5
    cases hN : nameB M.A M.T M.L word
    · refine (show Calls _ _ _ _ _ from do_put_no i ver word _ _ _ _ _ q b w h0 hx0 hx1 hN).mono ?_
      rintro e w' ⟨rfl, hb⟩
      have hR : repV M ⟨5, i, ver, word, b, x⟩ = ⟨false, 0, 0, blockZ, opZ⟩ := by simp [repV, hN]
      refine did_same (q := nilH) h (by simp [doV, hN]) ?_ ?_ hb (fun h => by first | rfl | exact absurd rfl h) <;> rw [hR]
      · exact repZ _ _ _ ⟨by decide, by decide⟩ ⟨by decide, by decide⟩
      · rfl
    · obtain ⟨k, hk, hp, _⟩ := named_lt hN
      have hR : repV M ⟨5, i, ver, word, b, x⟩ = ⟨true, 0, 0, blockZ, opZ⟩ := by simp [repV, hN]
      refine (show Calls _ _ _ _ _ from do_put_yes i ver word _ _ _ _ _ k S0 q b w h0 hx0 hx1 hN hk hp hblk hf).mono ?_
      rintro e w' ⟨rfl, ⟨q', h1, H'⟩, F⟩
      have F3 : Fr [m.g, m.gb, m.gr] w w' := F.more (by simp)
      refine ⟨⟨nilH, by rw [hR]; rfl, by rw [hR]; exact repZ _ _ _ ⟨by decide, by decide⟩ ⟨by decide, by decide⟩, fun _ => rfl⟩, ?_, F3⟩
      have hD : doV M ⟨5, i, ver, word, b, x⟩ = { M with B := M.B.set k b } := by simp [doV, hN, hp]
      rw [hD]
      exact ⟨⟨_, h1, put_isB k _ b ⟨q', rfl, H'.more (fun c hc => .inl (by simpa using hS c hc)), hf⟩ h0.lb hl (own_isB F3 ho hB)⟩, by simp [hl], hr, hown⟩
  by_cases k6 : kind = 6
  · subst k6
    by_cases hi : 0 ≤ i ∧ i < (M.T : Int)
    · have hR : repV M ⟨6, i, ver, word, b, x⟩ = ⟨true, 0, 0, blockZ, M.R.getD i.toNat opZ⟩ := by simp [repV, hi]
      have hlr := h0.lr
      simp only [List.length_map] at hlr
      refine (show Calls _ _ _ _ _ from do_read_yes i ver word _ _ _ _ _ _ _ _ _ _ _ _ _ _ _ _ _ _ _ _ _ _ i.toNat (M.R.getD i.toNat opZ) w h0 (by omega) (by omega) (opL_getD _ _ (by omega))).mono ?_
      rintro e w' ⟨rfl, hb⟩
      refine did_same (q := nilH) h (by simp [doV]) ?_ ?_ hb (fun h => by first | rfl | exact absurd rfl h) <;> rw [hR]
      · exact ⟨z64, z64, blockZ_ok _ _, fewZ, op_of hr _⟩
      · rfl
    · have hR : repV M ⟨6, i, ver, word, b, x⟩ = ⟨false, 0, 0, blockZ, opZ⟩ := by simp [repV, hi]
      refine (show Calls _ _ _ _ _ from do_read_no i ver word _ _ _ _ _ _ _ _ _ _ _ _ _ _ _ _ _ _ _ _ _ _ w h0 hi).mono ?_
      rintro e w' ⟨rfl, hb⟩
      refine did_same (q := nilH) h (by simp [doV]) ?_ ?_ hb (fun h => by first | rfl | exact absurd rfl h) <;> rw [hR]
      · exact repZ _ _ _ ⟨by decide, by decide⟩ ⟨by decide, by decide⟩
      · rfl
  by_cases k7 : kind = 7
  · subst k7
    by_cases hi : 0 ≤ i ∧ i < (M.T : Int)
    · have hR : repV M ⟨7, i, ver, word, b, x⟩ = ⟨true, 0, 0, blockZ, opZ⟩ := by simp [repV, hi]
      have hD : doV M ⟨7, i, ver, word, b, x⟩ = { M with R := M.R.set i.toNat x } := by simp [doV, hi]
      refine (show Calls _ _ _ _ _ from do_write_yes i ver word _ _ _ _ _ _ _ _ _ _ _ _ _ _ _ _ _ i.toNat x w h0 (by omega) (by omega)).mono ?_
      rintro e w' ⟨rfl, h1, F⟩
      have F3 : Fr [m.g, m.gb, m.gr] w w' := F.more (by simp)
      refine ⟨⟨nilH, by rw [hR]; rfl, by rw [hR]; exact repZ _ _ _ ⟨by decide, by decide⟩ ⟨by decide, by decide⟩, fun _ => rfl⟩, ?_, F3⟩
      rw [hD]
      rw [map_set] at h1
      refine ⟨⟨_, h1, own_isB F3 ho hB⟩, hl, fun y hy => ?_, hown⟩
      rcases List.mem_or_eq_of_mem_set hy with hy | rfl
      · exact hr y hy
      · exact hop
    · have hR : repV M ⟨7, i, ver, word, b, x⟩ = ⟨false, 0, 0, blockZ, opZ⟩ := by simp [repV]; omega
      refine (show Calls _ _ _ _ _ from do_write_no i ver word _ _ _ _ _ _ _ _ _ _ _ _ _ _ _ _ _ _ _ _ _ _ w h0 hi).mono ?_
      rintro e w' ⟨rfl, hb⟩
      refine did_same (q := nilH) h (by simp [doV, hi]) ?_ ?_ hb (fun h => by first | rfl | exact absurd rfl h) <;> rw [hR]
      · exact repZ _ _ _ ⟨by decide, by decide⟩ ⟨by decide, by decide⟩
      · rfl
  · have hR : repV M ⟨kind, i, ver, word, b, x⟩ = ⟨false, 0, 0, blockZ, opZ⟩ := by simp [repV, k1, k2, k3, k4, k5, k6, k7]
    refine (show Calls _ _ _ _ _ from do_else kind i ver word _ _ _ _ _ _ _ _ _ _ _ _ _ _ _ _ _ _ _ _ _ _ w h0 (by omega)).mono ?_
    rintro e w' ⟨rfl, hb⟩
    refine did_same (q := nilH) h (by simp [doV, k2, k3, k5, k7]) ?_ ?_ hb (fun h => by first | rfl | exact absurd rfl h) <;> rw [hR]
    · exact repZ _ _ _ ⟨by decide, by decide⟩ ⟨by decide, by decide⟩
    · rfl
end Go.Proofs.Ytgdeiaholkmfeaa.MemP
