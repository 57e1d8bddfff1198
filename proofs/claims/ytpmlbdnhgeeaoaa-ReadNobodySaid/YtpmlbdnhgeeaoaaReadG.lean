/-
  The first block is got by an access: contract.
-/
import Derived.Test.YtpmlbdnhgeeaoaaMemGetW
namespace Go.Proofs.Ytpmlbdnhgeeaoaa.MemP
open Go.RowKit RefP CellP
set_option linter.unusedVariables false
set_option linter.unusedSimpArgs false
abbrev repB (k v d : Value) : Array Value := #[.bool true, .int .u64 0, .int .u64 0, .int .i64 1, .int .i64 0, .string ⟨#[]⟩, .string ⟨#[]⟩, .bool true, .int .i64 (-1), k, v, d, .int .i64 0, .int .i64 0, .string ⟨#[]⟩, .int .u64 0, nlV, nlV, nlV, nlV, .int .i64 0, .string ⟨#[]⟩, .string ⟨#[]⟩, .int .u64 0, .int .i64 0]
abbrev repF (k v d : Value) : Array Value := #[.bool false, .int .u64 0, .int .u64 0, .int .i64 1, .int .i64 0, .string ⟨#[]⟩, .string ⟨#[]⟩, .bool true, .int .i64 (-1), k, v, d, .int .i64 0, .int .i64 0, .string ⟨#[]⟩, .int .u64 0, nlV, nlV, nlV, nlV, .int .i64 0, .string ⟨#[]⟩, .string ⟨#[]⟩, .int .u64 0, .int .i64 0]
theorem setsA_rep (k v d : Value) : setsA #[.bool false, .int .u64 0, .int .u64 0, .int .i64 0, .int .i64 0, .string ⟨#[]⟩, .string ⟨#[]⟩, .bool false, .int .i64 0, .slice none 0 0, .slice none 0 0, .slice none 0 0, .int .i64 0, .int .i64 0, .string ⟨#[]⟩, .int .u64 0, .slice none 0 0, .slice none 0 0, .slice none 0 0, .slice none 0 0, .int .i64 0, .string ⟨#[]⟩, .string ⟨#[]⟩, .int .u64 0, .int .i64 0] 3 (bkA k v d).toList = repF k v d := by
  simp [setsA, bkA, repF]
set_option maxRecDepth 100000 in
set_option maxHeartbeats 3200000 in
theorem do_get_first {o oc g gb gr A T : Nat} {L : List (Int × Int)} {bs rs : List (List Value)} (w : World) (h : MemAt w o oc g gb gr A T L bs rs) (hu : loadW L (atI A T 1 0) = useI 1 1) (h0 : bs.getD 0 [] = eb) :
    Calls Try.prog 22 #[.pointer (some ⟨o, 0, none⟩), .agg (accY 4 0 0 16385)] w fun e w' => (∃ b1 b2 b3, e = .returned (.agg (repB (e0V b1) (e0V b2) (e0V b3)))) ∧ Below w.heap.size w w' := by
  have hb2 : Below w.heap.size w ((w.alloc (.cells (accY 4 0 0 16385) 39)).alloc (.cells #[.bool false, .int .u64 0, .int .u64 0, .int .i64 0, .int .i64 0, .string ⟨#[]⟩, .string ⟨#[]⟩, .bool false, .int .i64 0, .slice none 0 0, .slice none 0 0, .slice none 0 0, .int .i64 0, .int .i64 0, .string ⟨#[]⟩, .int .u64 0, .slice none 0 0, .slice none 0 0, .slice none 0 0, .slice none 0 0, .int .i64 0, .string ⟨#[]⟩, .string ⟨#[]⟩, .int .u64 0, .int .i64 0] 50)) := by (repeat (first | exact Below.refl _ _ | assumption | refine below_alloc2 ?_ (by first | exact Nat.le_refl _ | omega) _ | refine Below.drew ?_ | refine below_drewN ?_ _ | refine below_push2 ?_ ‹_› (by first | exact Nat.le_refl _ | omega) | refine Below.setCell ?_ (by first | (simp; done) | (simp; omega) | omega) _))
  have BX := (Blk.new w (accY 4 0 0 16385) 39).alloc (.cells #[.bool false, .int .u64 0, .int .u64 0, .int .i64 0, .int .i64 0, .string ⟨#[]⟩, .string ⟨#[]⟩, .bool false, .int .i64 0, .slice none 0 0, .slice none 0 0, .slice none 0 0, .int .i64 0, .int .i64 0, .string ⟨#[]⟩, .int .u64 0, .slice none 0 0, .slice none 0 0, .slice none 0 0, .slice none 0 0, .int .i64 0, .string ⟨#[]⟩, .string ⟨#[]⟩, .int .u64 0, .int .i64 0] 50)
  have BR : Blk ((w.alloc (.cells (accY 4 0 0 16385) 39)).alloc (.cells #[.bool false, .int .u64 0, .int .u64 0, .int .i64 0, .int .i64 0, .string ⟨#[]⟩, .string ⟨#[]⟩, .bool false, .int .i64 0, .slice none 0 0, .slice none 0 0, .slice none 0 0, .int .i64 0, .int .i64 0, .string ⟨#[]⟩, .int .u64 0, .slice none 0 0, .slice none 0 0, .slice none 0 0, .slice none 0 0, .int .i64 0, .string ⟨#[]⟩, .string ⟨#[]⟩, .int .u64 0, .int .i64 0] 50)) (w.heap.size + 1) #[.bool false, .int .u64 0, .int .u64 0, .int .i64 0, .int .i64 0, .string ⟨#[]⟩, .string ⟨#[]⟩, .bool false, .int .i64 0, .slice none 0 0, .slice none 0 0, .slice none 0 0, .int .i64 0, .int .i64 0, .string ⟨#[]⟩, .int .u64 0, .slice none 0 0, .slice none 0 0, .slice none 0 0, .slice none 0 0, .int .i64 0, .string ⟨#[]⟩, .string ⟨#[]⟩, .int .u64 0, .int .i64 0] 50 := by
    have := Blk.new (w.alloc (.cells (accY 4 0 0 16385) 39)) #[.bool false, .int .u64 0, .int .u64 0, .int .i64 0, .int .i64 0, .string ⟨#[]⟩, .string ⟨#[]⟩, .bool false, .int .i64 0, .slice none 0 0, .slice none 0 0, .slice none 0 0, .int .i64 0, .int .i64 0, .string ⟨#[]⟩, .int .u64 0, .slice none 0 0, .slice none 0 0, .slice none 0 0, .slice none 0 0, .int .i64 0, .string ⟨#[]⟩, .string ⟨#[]⟩, .int .u64 0, .int .i64 0] 50
    simpa using this
  have h2 := h.below hb2
  go_enter Try.func22, Try.ntmps22
  go_wp2_with fail
  generalize ((w.alloc (.cells (accY 4 0 0 16385) 39)).alloc (.cells #[.bool false, .int .u64 0, .int .u64 0, .int .i64 0, .int .i64 0, .string ⟨#[]⟩, .string ⟨#[]⟩, .bool false, .int .i64 0, .slice none 0 0, .slice none 0 0, .slice none 0 0, .int .i64 0, .int .i64 0, .string ⟨#[]⟩, .int .u64 0, .slice none 0 0, .slice none 0 0, .slice none 0 0, .slice none 0 0, .int .i64 0, .string ⟨#[]⟩, .string ⟨#[]⟩, .int .u64 0, .int .i64 0] 50)) = wq at hb2 h2 BX BR ⊢
  refine (none_any _ h2).mono ?_
  rintro e w1 ⟨rfl, rfl⟩
  have b0 := BX.at 0 rfl
  have b3 := BX.at 3 rfl
  go_wp2_with fail
  refine (block_first _ h2 hu h0).mono ?_
  rintro e w3 ⟨⟨b1, b2, b3, rfl⟩, hb3⟩
  have hB3 := below_push2 hb2 hb3 (Nat.le_refl _)
  have BR3 := BR.below hb3
  clear h2 BX BR b0 hb2 hb3
  have hth := there_blk (o := 3) (n := 17) BR3 (by decide)
  have BF := blk_sets (bkA (e0V b1) (e0V b2) (e0V b3)).toList 3 _ _ BR3
  rw [setsA_rep] at BF
  have hBF := below_sets (b := w.heap.size + 1) (by omega) (bkA (e0V b1) (e0V b2) (e0V b3)).toList 3 _ hB3
  generalize hX : w3.setCells (w.heap.size + 1) 3 (bkA (e0V b1) (e0V b2) (e0V b3)).toList = wx at BF hBF
  replace hX := Lib.hid hX
  have f0 := BF.free 0
  have c0 := BF.at 0 rfl
  have BG := BF.set 0 (.bool true)
  simp only [List.setIfInBounds_toArray, List.set_cons_zero] at BG
  go_wp2_with (first
    | (refine wpList_store_mid rfl 35 _ _ rfl (w.heap.size + 1) 3 (bkA (e0V b1) (e0V b2) (e0V b3)) rfl rfl hth (by kernel_rfl) (by kernel_rfl) ?_; rw [hX.out])
    | (refine wpList_load_row rfl 50 _ rfl (w.heap.size + 1) rfl 50 _ (0, 0) _ BG.h Try.underlying50 rfl (by kernel_rfl) ?_)
    | (refine wpList_store_row rfl 50 _ _ rfl (w.heap.size + 1) _ rfl rfl 50 _ BG.h (by kernel_rfl) (by rfl) (by kernel_rfl) ?_))
  refine bodyPost_ret (results_cell_row rfl _ _ (w.heap.size + 1) 50 (repB (e0V b1) (e0V b2) (e0V b3)) (0, 0) _ rfl (Blk.row BG (repB (e0V b1) (e0V b2) (e0V b3))).h Try.underlying50 rfl (by kernel_rfl)) rfl ⟨⟨b1, b2, b3, rfl⟩, below_setRow (hBF.setCell (by show w.heap.size ≤ w.heap.size + 1; omega) _) (by omega) _⟩
end Go.Proofs.Ytpmlbdnhgeeaoaa.MemP
