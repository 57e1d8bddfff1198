/-
  A view: Take: contracts.
-/
import Derived.Test.YtbemgfpnoeogdaaFRefG
namespace Go.Proofs.Ytbemgfpnoeogdaa.FoP
open Go.RowKit RefP Go.Maps Dp
set_option linter.unusedVariables false
set_option linter.unusedSimpArgs false
theorem sp_cells {w : World} {base : Nat} {a : Option Addr} {c : Nat} {S : List Sp} (H : OwnSp w base a c S) (i : Nat) (hi : i < S.length) : ∃ b off, a = some ⟨b, off, none⟩ ∧ b < w.heap.size ∧ w.cell? ⟨b, off + i * 2, none⟩ = some (.int .i64 S[i].1) ∧ w.cell? ⟨b, off + i * 2 + 1, none⟩ = some (.int .u64 S[i].2) := by
  obtain ⟨b, off, ha, hb, hc⟩ := H.read.cell i hi (by decide)
  have e : S.getD i (0, 0) = S[i] := by rw [List.getD_eq_getElem?_getD, List.getElem?_eq_getElem hi]; rfl
  have h0 := hc 0 (by decide)
  have h1 := hc 1 (by decide)
  rw [e] at h0 h1
  exact ⟨b, off, ha, hb, h0, h1⟩
set_option maxRecDepth 20000 in
set_option maxHeartbeats 1600000 in
theorem take_hit {w : World} {base o m : Nat} {L : List Kn} {a : Option Addr} {c : Nat} {S : List Sp} {k0 n0 : Int} (V : VwAt w base o m L a c S k0 n0) (i : Nat) (hi : i < S.length) (hl : S.length ≤ 100) :
    Calls Try.prog 32 #[.pointer (some ⟨o, 0, none⟩), .int .i64 i] w fun e w' => e = .returned (.tuple #[.agg #[.int .i64 S[i].1, .int .u64 S[i].2], .bool true]) ∧ Below w.heap.size w w' := by
  have hc : cellB i = true := by simp [cellB]; omega
  have hb := (Below.refl w.heap.size w).alloc (Nat.le_refl _) (.cells sz 60)
  have V1 := V.under hb
  have BR := Blk.new w sz 60
  have hlo := V.lts
  generalize hW : w.alloc (.cells sz 60) = w1 at hb V1 BR
  replace hW := Lib.hid hW
  go_enter Try.func32, Try.ntmps32
  go_wp2_with fail
  rw [hW.out]
  refine (none_some V1.head).mono ?_
  rintro e w2 ⟨rfl, rfl⟩
  go_wp2_with fail
  refine (cell_any _ i).mono ?_
  rintro e w3 ⟨rfl, rfl⟩
  rw [hc]
  obtain ⟨b, off, ha, hbl, y0, y1⟩ := sp_cells V1.spares i hi
  have hi' : (i : Int) < (S.length : Int) := by omega
  have c1 : w3.cell? ⟨o, 1, none⟩ = some (.slice (some ⟨b, off, none⟩) S.length c) := by rw [← ha]; exact V1.head.at 1 rfl
  generalize hx0 : S[i].1 = x0 at y0
  generalize hx1 : S[i].2 = x1 at y1
  replace hx0 := Lib.hid hx0
  replace hx1 := Lib.hid hx1
  go_wp2_with (refine wpList_store_row rfl 60 _ _ rfl w.heap.size _ rfl rfl 60 _ BR.h (by kernel_rfl) (by rfl) (by kernel_rfl) ?_)
  refine bodyPost_ret (v := .tuple #[.agg #[.int .i64 x0, .int .u64 x1], .bool true]) (results_cell_tmp rfl _ _ w.heap.size 60 #[.int .i64 x0, .int .u64 x1] (0, 0) _ (.bool true) rfl rfl (Blk.row BR _).h Try.underlying60 rfl (by kernel_rfl)) rfl ⟨by rw [hx0.out, hx1.out], below_setRow hb (Nat.le_refl _) _⟩
set_option maxRecDepth 20000 in
set_option maxHeartbeats 1600000 in
theorem take_miss {w : World} {base o m : Nat} {L : List Kn} {a : Option Addr} {c : Nat} {S : List Sp} {k0 n0 : Int} (V : VwAt w base o m L a c S k0 n0) (n : Int) (hm : cellB n = false ∨ (S.length : Int) ≤ n) (hl : S.length ≤ 100) :
    Calls Try.prog 32 #[.pointer (some ⟨o, 0, none⟩), .int .i64 n] w fun e w' => e = .returned (.tuple #[.agg sz, .bool false]) ∧ VwAt w' base o m L a c S (tmissK k0 n) (tmissN k0 n0 n) ∧ Fr [o] w w' := by
  have hb := (Below.refl w.heap.size w).alloc (Nat.le_refl _) (.cells sz 60)
  have V1 := V.under hb
  have BR := Blk.new w sz 60
  have hlo := V.lts
  generalize hW : w.alloc (.cells sz 60) = w1 at hb V1 BR
  replace hW := Lib.hid hW
  go_enter Try.func32, Try.ntmps32
  go_wp2_with fail
  rw [hW.out]
  refine (none_some V1.head).mono ?_
  rintro e w2 ⟨rfl, rfl⟩
  go_wp2_with fail
  refine (cell_any _ n).mono ?_
  rintro e w3 ⟨rfl, rfl⟩
  have hF1 : Fr [o] w _ := Fr.of_below hb
  have hM : Hid (tmissK k0 n = lackK k0 (if cellB n then 2 else 3) ∧ tmissN k0 n0 n = lackN k0 n0 (if cellB n then n + 1 else 0)) := Lib.hid ⟨rfl, rfl⟩
  cases hc : cellB n
  · rw [hc] at hM
    clear hc hm
    go_wp2_with fail
    refine (giveup_any V1).mono ?_
    rintro e w4 ⟨rfl, V4, F4⟩
    have BR4 := F4.blk BR (by simp; omega)
    go_wp2_with (refine wpList_store_row rfl 60 _ _ rfl w.heap.size _ rfl rfl 60 _ BR4.h (by kernel_rfl) (by rfl) (by kernel_rfl) ?_)
    refine bodyPost_ret (v := .tuple #[.agg sz, .bool false]) (results_cell_tmp rfl _ _ w.heap.size 60 sz (0, 0) _ (.bool false) rfl rfl (Blk.row BR4 sz).h Try.underlying60 rfl (by kernel_rfl)) rfl ?_
    refine ⟨rfl, ?_, (hF1.trans F4).rowNew _ _ (Nat.le_refl _)⟩
    rw [hM.out.1, hM.out.2]
    exact V.row V4 w.heap.size sz (Nat.le_refl _)
  · rw [hc] at hM
    have hn : 0 ≤ n ∧ n < 8192 := by simpa [cellB] using hc
    have hlt : ¬ n < (S.length : Int) := by
      rcases hm with h | h
      · rw [hc] at h; cases h
      · omega
    have c1 := V1.head.at 1 rfl
    clear hc hm
    go_wp2_with fail
    refine (lack_any V1 2 (n + 1)).mono ?_
    rintro e w4 ⟨rfl, V4, F4⟩
    have BR4 := F4.blk BR (by simp; omega)
    go_wp2_with (refine wpList_store_row rfl 60 _ _ rfl w.heap.size _ rfl rfl 60 _ BR4.h (by kernel_rfl) (by rfl) (by kernel_rfl) ?_)
    refine bodyPost_ret (v := .tuple #[.agg sz, .bool false]) (results_cell_tmp rfl _ _ w.heap.size 60 sz (0, 0) _ (.bool false) rfl rfl (Blk.row BR4 sz).h Try.underlying60 rfl (by kernel_rfl)) rfl ?_
    refine ⟨rfl, ?_, (hF1.trans F4).rowNew _ _ (Nat.le_refl _)⟩
    rw [hM.out.1, hM.out.2]
    exact V.row V4 w.heap.size sz (Nat.le_refl _)
end Go.Proofs.Ytbemgfpnoeogdaa.FoP
