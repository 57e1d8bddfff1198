/-
  retire: swept, sift: contracts.
-/
import Derived.Test.YtchkiacmiljopaaRetW
namespace Go.Proofs.Ytchkiacmiljopaa.MemP
open Go.RowKit RefP CellP HazP
set_option linter.unusedVariables false
set_option linter.unusedSimpArgs false
theorem RtAt.first {w : World} {base o t lo : Nat} {r : Int} {A : Nat} {b off : Nat} {wc : Nat} {na : Option Addr} {nc : Nat} {fa : Option Addr} {fc : Nat} {la : Option Addr} {lc : Nat} {x : Int} {W : List Int} {st a : Nat} {nm fr l : List Int}
    (R : RtAt w base o t lo r A ⟨some ⟨b, off, none⟩, wc, na, nc, fa, fc, la, lc⟩ ⟨x :: W, st, a, nm, fr, l⟩) : w.cell? ⟨b, off, none⟩ = some (.int .u64 x) := by
  obtain ⟨b', off', e, hbl, hcell⟩ := R.words.row.get (show 0 < (x :: W).length by simp)
  simp only [Option.some.injEq, Addr.mk.injEq, and_true] at e
  obtain ⟨rfl, rfl⟩ := e
  have := hcell 0 (by simp); simpa [u64F, at0] using this
set_option maxRecDepth 100000 in
set_option maxHeartbeats 6400000 in
theorem rtswept_any {base o t lo : Nat} {r : Int} {A : Nat} {d : RA} {s : RS} (w : World) (R : RtAt w base o t lo r A d s) (hbw : base ≤ w.heap.size) : Calls Try.prog 34 #[.pointer (some ⟨t, 0, none⟩)] w (RtEnd w base o t lo r A d (sweptS r s) (.tuple #[])) := by
  obtain ⟨W0, st0, a0, nm0, fr0, l⟩ := s
  obtain ⟨wa, wc, na, nc, fa, fc, la, lc⟩ := d
  cases W0 with
  | nil =>
    have c2 : w.cell? ⟨t, 2, none⟩ = some (.slice wa 0 wc) := R.head.at 2 rfl
    have c3 : w.cell? ⟨t, 3, none⟩ = some (.int .i64 st0) := R.head.at 3 rfl
    have f3 := R.head.free 3
    have hFr : Fr [t] w (w.setCell ⟨t, 3, none⟩ (.int .i64 0)) := Fr.set (Fr.refl _ _) _ _ (.inl (by simp))
    have hB : Blk (w.setCell ⟨t, 3, none⟩ (.int .i64 0)) t (rtA o lo ⟨wa, wc, na, nc, fa, fc, la, lc⟩ ⟨[], 0, a0, nm0, fr0, l⟩) 77 := by
      simpa [rtA, rtZ] using R.head.set 3 (.int .i64 0)
    have K := R.put hFr hB ⟨rfl, rfl, rfl⟩ ⟨R.words, fun b h => h⟩ ⟨R.free, fun b h => h⟩ (.inl ⟨rfl, rfl, rfl⟩) ⟨R.good.1, R.good.2.1⟩ (by simp) ⟨R.sm.1, R.sm.2.2⟩ R.cp
    clear hFr hB R
    go_enter Try.func34, Try.ntmps34
    go_wp2_with fail
    go_end0
    exact ⟨_, rfl, K.1, K.2⟩
  | cons x W =>
    obtain ⟨n, hn⟩ : ∃ n, n = W.length + 1 := ⟨_, rfl⟩
    have hn1 : (0 : Int) < (n : Int) := by omega
    have hn0 : 0 < n := by omega
    have hx := R.good.1 x (by simp)
    have hcp := R.cp.1
    obtain ⟨b, off, e, hbl, _⟩ := R.words.row.get (show 0 < (x :: W).length by simp)
    simp only at e
    subst e
    have hxc := R.first
    have c1 : w.cell? ⟨t, 1, none⟩ = some (.pointer (some ⟨lo, 0, none⟩)) := R.head.at 1 rfl
    have c2 : w.cell? ⟨t, 2, none⟩ = some (.slice (some ⟨b, off, none⟩) n wc) := by rw [hn]; exact R.head.at 2 rfl
    have RR := R.under (Below.refl _ w).drew
    have hrest := run_rest (some ⟨b, off, none⟩) n wc (by omega)
    have M0 : Mv (allB t lo ⟨some ⟨b, off, none⟩, wc, na, nc, fa, fc, la, lc⟩) (allB t lo ⟨some ⟨b, off, none⟩, wc, na, nc, fa, fc, la, lc⟩) w w.drew := Mv.new (Below.refl _ w).drew
    by_cases hf : r ≤ (l.length : Int)
    · have hadd := add_no w.drew base lo r la lc l x RR.list hf
      go_enter Try.func34, Try.ntmps34
      go_wp2_with fail
      go_upto_region 1 with (fail)
      refine wp_region_held_drew (S := fun w' => w'.cell? ⟨t, 1, none⟩ = some (.pointer (some ⟨lo, 0, none⟩)) ∧ w'.cell? ⟨t, 2, none⟩ = some (.slice (some ⟨b, off, none⟩) n wc) ∧ w'.cell? ⟨b, off, none⟩ = some (.int .u64 x)) (by kernel_rfl) ?_ (fun hHeld => ?_)
      · exact ⟨c1, c2, hxc⟩
      refine wpAnyH_take (i := 0) (oi := ⟨_, _, _, _, _, _⟩) (v := ?_) rfl (by kernel_rfl) (by kernel_rfl) (by kernel_rfl) (fun _ _ _ h => h) (Or.inl ⟨by rfl, ?_⟩) (by assumption) ?_
      rotate_left
      · intro wS hSw
        try dsimp only at hSw
        go_simp
        try with_reducible rfl
      try simp only [Act.put, List.setIfInBounds_toArray, List.set_cons_zero, List.set_cons_succ]
      refine wpAnyH_take (i := 1) (oi := ⟨_, _, _, _, _, _⟩) (v := ?_) rfl (by kernel_rfl) (by kernel_rfl) (by kernel_rfl) (fun _ _ _ h => h) (Or.inl ⟨by rfl, ?_⟩) (by assumption) ?_
      rotate_left
      · intro wS hSw
        try dsimp only at hSw
        go_simp
        try with_reducible rfl
      try simp only [Act.put, List.setIfInBounds_toArray, List.set_cons_zero, List.set_cons_succ]
      refine wpAnyH_take (i := 2) (oi := ⟨_, _, _, _, _, _⟩) (v := ?_) rfl (by kernel_rfl) (by kernel_rfl) (by kernel_rfl) (fun _ _ _ h => h) (Or.inl ⟨by rfl, ?_⟩) (by assumption) ?_
      rotate_left
      · intro wS hSw
        try dsimp only at hSw
        go_simp
        try with_reducible rfl
      try simp only [Act.put, List.setIfInBounds_toArray, List.set_cons_zero, List.set_cons_succ]
      refine wpAnyH_take (i := 3) (oi := ⟨_, _, _, _, _, _⟩) (v := ?_) rfl (by kernel_rfl) (by kernel_rfl) (by kernel_rfl) (fun _ _ _ h => h) (Or.inl ⟨by rfl, ?_⟩) (by assumption) ?_
      rotate_left
      · intro wS hSw
        try dsimp only at hSw
        go_simp
        try with_reducible rfl
      try simp only [Act.put, List.setIfInBounds_toArray, List.set_cons_zero, List.set_cons_succ]
      refine wpAnyH_take (i := 4) (oi := ⟨_, _, _, _, _, _⟩) (v := ?_) rfl (by kernel_rfl) (by kernel_rfl) (by kernel_rfl) (fun _ _ _ h => h) (Or.inl ⟨by rfl, ?_⟩) (by assumption) ?_
      rotate_left
      · intro wS hSw
        try dsimp only at hSw
        go_simp
        try with_reducible rfl
      try simp only [Act.put, List.setIfInBounds_toArray, List.set_cons_zero, List.set_cons_succ]
      refine wpAnyH_take (i := 5) (oi := ⟨_, _, _, _, _, _⟩) (v := ?_) rfl (by kernel_rfl) (by kernel_rfl) (by kernel_rfl) (fun _ _ _ h => h) (Or.inl ⟨by rfl, ?_⟩) (by assumption) ?_
      rotate_left
      · intro wS hSw
        try dsimp only at hSw
        go_simp
        try with_reducible rfl
      try simp only [Act.put, List.setIfInBounds_toArray, List.set_cons_zero, List.set_cons_succ]
      refine wpAnyH_take (i := 6) (oi := ⟨_, _, _, _, _, _⟩) (v := ?_) rfl (by kernel_rfl) (by kernel_rfl) (by kernel_rfl) (fun _ _ _ h => h) (Or.inl ⟨by rfl, ?_⟩) (by assumption) ?_
      rotate_left
      · intro wS hSw
        try dsimp only at hSw
        go_simp
        try with_reducible rfl
      try simp only [Act.put, List.setIfInBounds_toArray, List.set_cons_zero, List.set_cons_succ]
      refine wpAnyH_take (i := 7) (oi := ⟨_, _, _, _, _, _⟩) (v := ?_) rfl (by kernel_rfl) (by kernel_rfl) (by kernel_rfl) (fun _ _ _ h => h) (Or.inl ⟨by rfl, ?_⟩) (by assumption) ?_
      rotate_left
      · intro wS hSw
        try dsimp only at hSw
        go_simp
        try with_reducible rfl
      try simp only [Act.put, List.setIfInBounds_toArray, List.set_cons_zero, List.set_cons_succ]
      refine wpAnyH_take (i := 8) (oi := ⟨_, _, _, _, _, _⟩) (v := ?_) rfl (by kernel_rfl) (by kernel_rfl) (by kernel_rfl) (fun _ _ _ h => h) (Or.inl ⟨by rfl, ?_⟩) (by assumption) ?_
      rotate_left
      · intro wS hSw
        try dsimp only at hSw
        go_simp
        try with_reducible rfl
      try simp only [Act.put, List.setIfInBounds_toArray, List.set_cons_zero, List.set_cons_succ]
      refine wpAnyH_take (i := 9) (oi := ⟨_, _, _, _, _, _⟩) (v := ?_) rfl (by kernel_rfl) (by kernel_rfl) (by kernel_rfl) (fun _ _ _ h => h) (Or.inl ⟨by rfl, ?_⟩) (by assumption) ?_
      rotate_left
      · intro wS hSw
        try dsimp only at hSw
        go_simp
        try with_reducible rfl
      try simp only [Act.put, List.setIfInBounds_toArray, List.set_cons_zero, List.set_cons_succ]
      refine wpAnyH_ready (rs := [10]) (by kernel_rfl) (by simp) ?_
      refine AllReadyH.cons rfl (fun K hK => ?_) AllReadyH.nil
      go_simp
      refine hadd.mono ?_
      rintro e w3 ⟨rfl, hb3⟩
      have R3 := RR.under hb3
      have M3 := M0.under hb3
      clear RR M0 hadd hb3 c1 c2 hxc hbl
      refine hK.out _ _ ⟨R3.head.at 1 rfl, by rw [hn]; exact R3.head.at 2 rfl, R3.first⟩ (fun hHeld => ?_)
      clear hK K
      refine wpAnyH_done (by kernel_rfl) ?_ _
      have c3' : w3.cell? ⟨t, 3, none⟩ = some (.int .i64 st0) := R3.head.at 3 rfl
      have f2 := R3.head.free 2
      have f3 := R3.head.free 3
      have hW3 := U64s.rest R3.words hcp
      have hFr : Fr [t] w3 ((w3.setCell ⟨t, 2, none⟩ (.slice (rest1 (some ⟨b, off, none⟩) wc) (n - 1) (wc - 1))).setCell ⟨t, 3, none⟩ (.int .i64 0)) := Fr.set (Fr.set (Fr.refl _ _) _ _ (.inl (by simp))) _ _ (.inl (by simp))
      have hB : Blk ((w3.setCell ⟨t, 2, none⟩ (.slice (rest1 (some ⟨b, off, none⟩) wc) (n - 1) (wc - 1))).setCell ⟨t, 3, none⟩ (.int .i64 0)) t (rtA o lo ⟨rest1 (some ⟨b, off, none⟩) wc, wc - 1, na, nc, fa, fc, la, lc⟩ ⟨W, 0, a0, nm0, fr0, l⟩) 77 := by
        have := (R3.head.set 2 (.slice (rest1 (some ⟨b, off, none⟩) wc) (n - 1) (wc - 1))).set 3 (.int .i64 0)
        have e1 : n - 1 = W.length := by omega
        simpa [e1, rtA, rtZ] using this
      have K := R3.put hFr hB ⟨rfl, rfl, rfl⟩ ⟨hW3, rest1_blk _ _⟩ ⟨R3.free, fun b h => h⟩ (.inl ⟨rfl, rfl, rfl⟩) ⟨fun y hy => R3.good.1 y (by simp [hy]), R3.good.2.1⟩ (by simp) ⟨by have := R3.sm.1; simp at this ⊢; omega, R3.sm.2.2⟩ ⟨by simp only [List.length_cons] at hcp ⊢; omega, R3.cp.2⟩
      obtain ⟨R4, M4⟩ := K
      have hs5 : Hid (sweptS r ⟨x :: W, st0, a0, nm0, fr0, l⟩ = ⟨W, 0, a0, nm0, fr0, l⟩) := Lib.hid (by simp [sweptS, sweptL, hf])
      replace M4 := M3.trans M4
      clear hFr hB hW3 R R3 M3 hrest
      have e1 : n - 1 = W.length := by omega
      rw [e1] at R4 M4
      clear e1
      replace hf := Lib.hid hf
      by_cases hwc : wc = 1
      · subst hwc
        have e2 : rest1 (some (⟨b, off, none⟩ : Addr)) 1 = some ⟨b, off, none⟩ := rfl
        simp only [e2, Nat.sub_self] at R4 M4
        clear e2
        go_wp2_with fail
        go_end0
        exact ⟨_, rfl, by rw [hs5.out]; exact R4, M4⟩
      · have e2 : rest1 (some (⟨b, off, none⟩ : Addr)) wc = some ⟨b, off + 1, none⟩ := by simp [rest1, hwc, add_plain']
        rw [e2] at R4 M4
        clear e2
        go_wp2_with fail
        go_end0
        exact ⟨_, rfl, by rw [hs5.out]; exact R4, M4⟩
    · have hadd := add_yes w.drew base lo r la lc l x RR.list (by omega) hx.1 (by simpa using hbw)
      go_enter Try.func34, Try.ntmps34
      go_wp2_with fail
      go_upto_region 1 with (fail)
      refine wp_region_held_drew (S := fun w' => w'.cell? ⟨t, 1, none⟩ = some (.pointer (some ⟨lo, 0, none⟩)) ∧ w'.cell? ⟨t, 2, none⟩ = some (.slice (some ⟨b, off, none⟩) n wc) ∧ w'.cell? ⟨b, off, none⟩ = some (.int .u64 x)) (by kernel_rfl) ?_ (fun hHeld => ?_)
      · exact ⟨c1, c2, hxc⟩
      refine wpAnyH_take (i := 0) (oi := ⟨_, _, _, _, _, _⟩) (v := ?_) rfl (by kernel_rfl) (by kernel_rfl) (by kernel_rfl) (fun _ _ _ h => h) (Or.inl ⟨by rfl, ?_⟩) (by assumption) ?_
      rotate_left
      · intro wS hSw
        try dsimp only at hSw
        go_simp
        try with_reducible rfl
      try simp only [Act.put, List.setIfInBounds_toArray, List.set_cons_zero, List.set_cons_succ]
      refine wpAnyH_take (i := 1) (oi := ⟨_, _, _, _, _, _⟩) (v := ?_) rfl (by kernel_rfl) (by kernel_rfl) (by kernel_rfl) (fun _ _ _ h => h) (Or.inl ⟨by rfl, ?_⟩) (by assumption) ?_
      rotate_left
      · intro wS hSw
        try dsimp only at hSw
        go_simp
        try with_reducible rfl
      try simp only [Act.put, List.setIfInBounds_toArray, List.set_cons_zero, List.set_cons_succ]
      refine wpAnyH_take (i := 2) (oi := ⟨_, _, _, _, _, _⟩) (v := ?_) rfl (by kernel_rfl) (by kernel_rfl) (by kernel_rfl) (fun _ _ _ h => h) (Or.inl ⟨by rfl, ?_⟩) (by assumption) ?_
      rotate_left
      · intro wS hSw
        try dsimp only at hSw
        go_simp
        try with_reducible rfl
      try simp only [Act.put, List.setIfInBounds_toArray, List.set_cons_zero, List.set_cons_succ]
      refine wpAnyH_take (i := 3) (oi := ⟨_, _, _, _, _, _⟩) (v := ?_) rfl (by kernel_rfl) (by kernel_rfl) (by kernel_rfl) (fun _ _ _ h => h) (Or.inl ⟨by rfl, ?_⟩) (by assumption) ?_
      rotate_left
      · intro wS hSw
        try dsimp only at hSw
        go_simp
        try with_reducible rfl
      try simp only [Act.put, List.setIfInBounds_toArray, List.set_cons_zero, List.set_cons_succ]
      refine wpAnyH_take (i := 4) (oi := ⟨_, _, _, _, _, _⟩) (v := ?_) rfl (by kernel_rfl) (by kernel_rfl) (by kernel_rfl) (fun _ _ _ h => h) (Or.inl ⟨by rfl, ?_⟩) (by assumption) ?_
      rotate_left
      · intro wS hSw
        try dsimp only at hSw
        go_simp
        try with_reducible rfl
      try simp only [Act.put, List.setIfInBounds_toArray, List.set_cons_zero, List.set_cons_succ]
      refine wpAnyH_take (i := 5) (oi := ⟨_, _, _, _, _, _⟩) (v := ?_) rfl (by kernel_rfl) (by kernel_rfl) (by kernel_rfl) (fun _ _ _ h => h) (Or.inl ⟨by rfl, ?_⟩) (by assumption) ?_
      rotate_left
      · intro wS hSw
        try dsimp only at hSw
        go_simp
        try with_reducible rfl
      try simp only [Act.put, List.setIfInBounds_toArray, List.set_cons_zero, List.set_cons_succ]
      refine wpAnyH_take (i := 6) (oi := ⟨_, _, _, _, _, _⟩) (v := ?_) rfl (by kernel_rfl) (by kernel_rfl) (by kernel_rfl) (fun _ _ _ h => h) (Or.inl ⟨by rfl, ?_⟩) (by assumption) ?_
      rotate_left
      · intro wS hSw
        try dsimp only at hSw
        go_simp
        try with_reducible rfl
      try simp only [Act.put, List.setIfInBounds_toArray, List.set_cons_zero, List.set_cons_succ]
      refine wpAnyH_take (i := 7) (oi := ⟨_, _, _, _, _, _⟩) (v := ?_) rfl (by kernel_rfl) (by kernel_rfl) (by kernel_rfl) (fun _ _ _ h => h) (Or.inl ⟨by rfl, ?_⟩) (by assumption) ?_
      rotate_left
      · intro wS hSw
        try dsimp only at hSw
        go_simp
        try with_reducible rfl
      try simp only [Act.put, List.setIfInBounds_toArray, List.set_cons_zero, List.set_cons_succ]
      refine wpAnyH_take (i := 8) (oi := ⟨_, _, _, _, _, _⟩) (v := ?_) rfl (by kernel_rfl) (by kernel_rfl) (by kernel_rfl) (fun _ _ _ h => h) (Or.inl ⟨by rfl, ?_⟩) (by assumption) ?_
      rotate_left
      · intro wS hSw
        try dsimp only at hSw
        go_simp
        try with_reducible rfl
      try simp only [Act.put, List.setIfInBounds_toArray, List.set_cons_zero, List.set_cons_succ]
      refine wpAnyH_take (i := 9) (oi := ⟨_, _, _, _, _, _⟩) (v := ?_) rfl (by kernel_rfl) (by kernel_rfl) (by kernel_rfl) (fun _ _ _ h => h) (Or.inl ⟨by rfl, ?_⟩) (by assumption) ?_
      rotate_left
      · intro wS hSw
        try dsimp only at hSw
        go_simp
        try with_reducible rfl
      try simp only [Act.put, List.setIfInBounds_toArray, List.set_cons_zero, List.set_cons_succ]
      refine wpAnyH_ready (rs := [10]) (by kernel_rfl) (by simp) ?_
      refine AllReadyH.cons rfl (fun K hK => ?_) AllReadyH.nil
      go_simp
      refine hadd.mono ?_
      rintro e w3 ⟨⟨la', lc', rfl, L3, hmv⟩, B3⟩
      obtain ⟨R3, M3⟩ := RR.listed L3 B3 hmv (fun y hy => by
          rcases List.mem_append.1 hy with q | q
          · exact R.good.2.2 y q
          · rw [List.mem_singleton.1 q]; exact hx)
      replace M3 := M0.trans M3
      clear RR M0 hadd L3 B3 hmv c1 c2 hxc hbl
      refine hK.out _ _ ⟨R3.head.at 1 rfl, by rw [hn]; exact R3.head.at 2 rfl, R3.first⟩ (fun hHeld => ?_)
      clear hK K
      refine wpAnyH_done (by kernel_rfl) ?_ _
      have c3' : w3.cell? ⟨t, 3, none⟩ = some (.int .i64 st0) := R3.head.at 3 rfl
      have f2 := R3.head.free 2
      have f3 := R3.head.free 3
      have hW3 := U64s.rest R3.words hcp
      have hFr : Fr [t] w3 ((w3.setCell ⟨t, 2, none⟩ (.slice (rest1 (some ⟨b, off, none⟩) wc) (n - 1) (wc - 1))).setCell ⟨t, 3, none⟩ (.int .i64 0)) := Fr.set (Fr.set (Fr.refl _ _) _ _ (.inl (by simp))) _ _ (.inl (by simp))
      have hB : Blk ((w3.setCell ⟨t, 2, none⟩ (.slice (rest1 (some ⟨b, off, none⟩) wc) (n - 1) (wc - 1))).setCell ⟨t, 3, none⟩ (.int .i64 0)) t (rtA o lo ⟨rest1 (some ⟨b, off, none⟩) wc, wc - 1, na, nc, fa, fc, la', lc'⟩ ⟨W, 0, a0, nm0, fr0, l ++ [x]⟩) 77 := by
        have := (R3.head.set 2 (.slice (rest1 (some ⟨b, off, none⟩) wc) (n - 1) (wc - 1))).set 3 (.int .i64 0)
        have e1 : n - 1 = W.length := by omega
        simpa [e1, rtA, rtZ] using this
      have K := R3.put hFr hB ⟨rfl, rfl, rfl⟩ ⟨hW3, rest1_blk _ _⟩ ⟨R3.free, fun b h => h⟩ (.inl ⟨rfl, rfl, rfl⟩) ⟨fun y hy => R3.good.1 y (by simp [hy]), R3.good.2.1⟩ (by simp) ⟨by have := R3.sm.1; simp at this ⊢; omega, R3.sm.2.2⟩ ⟨by simp only [List.length_cons] at hcp ⊢; omega, R3.cp.2⟩
      obtain ⟨R4, M4⟩ := K
      have hs5 : Hid (sweptS r ⟨x :: W, st0, a0, nm0, fr0, l⟩ = ⟨W, 0, a0, nm0, fr0, l ++ [x]⟩) := Lib.hid (by simp [sweptS, sweptL, hf])
      replace M4 := M3.trans M4
      clear hFr hB hW3 R R3 M3 hrest
      have e1 : n - 1 = W.length := by omega
      rw [e1] at R4 M4
      clear e1
      replace hf := Lib.hid hf
      by_cases hwc : wc = 1
      · subst hwc
        have e2 : rest1 (some (⟨b, off, none⟩ : Addr)) 1 = some ⟨b, off, none⟩ := rfl
        simp only [e2, Nat.sub_self] at R4 M4
        clear e2
        go_wp2_with fail
        go_end0
        exact ⟨_, rfl, by rw [hs5.out]; exact R4, M4⟩
      · have e2 : rest1 (some (⟨b, off, none⟩ : Addr)) wc = some ⟨b, off + 1, none⟩ := by simp [rest1, hwc, add_plain']
        rw [e2] at R4 M4
        clear e2
        go_wp2_with fail
        go_end0
        exact ⟨_, rfl, by rw [hs5.out]; exact R4, M4⟩
/-! sifting -/
theorem OwnsU.cap_le {w : World} {base : Nat} {a : Option Addr} {c : Nat} {l : List Int} (h : OwnsU w base a c l) : l.length ≤ c := by
  rcases h.own.2 with ⟨e, _⟩ | ⟨g, cap, cur, e, _, _, hnc, _⟩
  · injection e with e1 e2 e3; omega
  · injection e with e1 e2 e3; omega
/-- while words are freed: the row of what is freed lies behind HS -/
structure Sf (w : World) (HS : Nat) (base o t lo : Nat) (r : Int) (A : Nat) (d0 d : RA) (s : RS) (wr : World) : Prop where
  R : RtAt wr base o t lo r A d s
  M : Mv (allB t lo d0) (allB t lo d) w wr
  O : OwnsU wr HS d.fa d.fc s.fr
  own : (∀ b ∈ ownB t lo d, b < HS) ∧ ∀ b ∈ blkS d.wa, b < HS
  hs : base ≤ HS ∧ w.heap.size ≤ HS ∧ HS ≤ wr.heap.size
theorem Sf.under {w : World} {HS base o t lo : Nat} {r : Int} {A : Nat} {d0 d : RA} {s : RS} {wr wx : World} (h : Sf w HS base o t lo r A d0 d s wr) (hb : Below wr.heap.size wr wx) : Sf w HS base o t lo r A d0 d s wx :=
  ⟨h.R.under hb, h.M.under hb, h.O.below hb, h.own, h.hs.1, h.hs.2.1, Nat.le_trans h.hs.2.2 hb.size⟩
theorem Sf.add {w : World} {HS base o t lo : Nat} {r : Int} {A : Nat} {d0 : RA} {wr wx wA : World} {wa : Option Addr} {wc : Nat} {na : Option Addr} {nc : Nat} {fa : Option Addr} {fc : Nat} {la : Option Addr} {lc : Nat} {W : List Int} {st a : Nat} {nm fr l : List Int}
    (h : Sf w HS base o t lo r A d0 ⟨wa, wc, na, nc, fa, fc, la, lc⟩ ⟨W, st, a, nm, fr, l⟩ wr) (hb : Below wr.heap.size wr wx) {x : Int} (hx : GoodW A x) {v : Value} {g cap : Nat} (K : AddedU wx HS fa fc fr v 1 (fr ++ [x]) g cap wA) (hfl : fr.length ≤ 65535) :
    Sf w HS base o t lo r A d0 ⟨wa, wc, na, nc, some ⟨g, 0, none⟩, cap, la, lc⟩ ⟨W, st, a, nm, fr ++ [x], l⟩ (wA.setCell ⟨t, 6, none⟩ (.slice (some ⟨g, 0, none⟩) (fr.length + 1) cap)) ∧ Fr (t :: blkS fa) wr (wA.setCell ⟨t, 6, none⟩ (.slice (some ⟨g, 0, none⟩) (fr.length + 1) cap)) := by
  have H := h.under hb
  have hF1 : Fr (t :: blkS fa) wx wA := Fr.of_grown K.grown (fun q e => List.mem_cons_of_mem _ (blkS_own e))
  have hF : Fr (t :: blkS fa) wr (wA.setCell ⟨t, 6, none⟩ (.slice (some ⟨g, 0, none⟩) (fr.length + 1) cap)) := Fr.set ((Fr.of_below hb).trans hF1) _ _ (.inl (by simp))
  have hF2 : Fr (t :: blkS fa) wx (wA.setCell ⟨t, 6, none⟩ (.slice (some ⟨g, 0, none⟩) (fr.length + 1) cap)) := Fr.set hF1 _ _ (.inl (by simp))
  have hfa : ∀ b ∈ blkS fa, HS ≤ b := fun b k => (H.O.lt b (own_blkS k)).1
  have hno : ∀ b, b < HS → b ≠ t → b ∉ t :: blkS fa := fun b h1 h2 h3 => by
    rcases List.mem_cons.1 h3 with e | e
    · exact h2 e
    · have := hfa b e; omega
  have htH : t < HS := H.own.1 t (by simp [ownB])
  have hgt : g ≠ t := by have := K.ge; omega
  have hownlt := H.own.1
  have hla : ∀ b ∈ blkS la, b < HS := fun b k => hownlt b (by simp [ownB, k])
  have hna : ∀ b ∈ blkS na, b < HS := fun b k => hownlt b (by simp [ownB, k])
  have hloH : lo < HS := hownlt lo (by simp [ownB])
  have hBt : Blk wA t (rtA o lo ⟨wa, wc, na, nc, fa, fc, la, lc⟩ ⟨W, st, a, nm, fr, l⟩) 77 := H.R.head.grown K.grown (fun e => by have := hfa t (blkS_own e.symm); omega)
  have hBt2 : Blk (wA.setCell ⟨t, 6, none⟩ (.slice (some ⟨g, 0, none⟩) (fr.length + 1) cap)) t (rtA o lo ⟨wa, wc, na, nc, some ⟨g, 0, none⟩, cap, la, lc⟩ ⟨W, st, a, nm, fr ++ [x], l⟩) 77 := by
    simpa [rtA, rtZ] using hBt.set 6 (.slice (some ⟨g, 0, none⟩) (fr.length + 1) cap)
  have hOw : OwnsU (wA.setCell ⟨t, 6, none⟩ (.slice (some ⟨g, 0, none⟩) (fr.length + 1) cap)) HS (some ⟨g, 0, none⟩) cap (fr ++ [x]) := K.own.far _ _ (by simpa [Value.ownBlock] using hgt)
  have hglt : g < (wA.setCell ⟨t, 6, none⟩ (.slice (some ⟨g, 0, none⟩) (fr.length + 1) cap)).heap.size := by simpa using K.lt
  have hRs := H.R
  have hgH := K.ge
  have hsz : HS ≤ (wA.setCell ⟨t, 6, none⟩ (.slice (some ⟨g, 0, none⟩) (fr.length + 1) cap)).heap.size := Nat.le_trans h.hs.2.2 hF.size
  have hlen := OwnsU.cap_le hOw
  have hMv : Mv (allB t lo d0) (allB t lo ⟨wa, wc, na, nc, some ⟨g, 0, none⟩, cap, la, lc⟩) w (wA.setCell ⟨t, 6, none⟩ (.slice (some ⟨g, 0, none⟩) (fr.length + 1) cap)) := h.M.step (S' := allB t lo ⟨wa, wc, na, nc, some ⟨g, 0, none⟩, cap, la, lc⟩) hF (fun b hb => by
    rcases List.mem_cons.1 hb with e | e
    · exact .inl (by simp [allB, ownB, e])
    · have := hfa b e; have := h.hs.2.1; exact .inr (by omega)) (fun b hb => by
    simp only [allB, List.mem_append] at hb ⊢
    rcases hb with hb | hb | hb
    · exact .inl (.inl hb)
    · exact .inl (.inr (.inl hb))
    · obtain ⟨p, hp, rfl⟩ := blkS_mem.1 hb
      simp only [Option.some.injEq] at hp
      subst hp
      have := h.hs.2.1
      have := K.ge
      exact .inr (by simp only; omega))
  refine ⟨⟨⟨hBt2, U64s.heap hRs.words hF2.size fun b hb hl => hF2.block b hl (hno b (H.own.2 b hb) (fun e => (hRs.wb b hb).2.2 (by simp [ownB, e]))), hOw.words (by simp; omega),
    OwnsU.heap hRs.named fun q hq => hF2.block q (hRs.named.lt q hq).2 (hno q (hna q (blkS_own hq)) (hRs.nb q (blkS_own hq)).1), ⟨hF2.blk hRs.list.head (hno lo hloH hRs.tl.symm), OwnsU.heap hRs.list.own fun q hq => hF2.block q (hRs.list.own.lt q hq).2 (hno q (hla q (blkS_own hq)) (hRs.lb q (blkS_own hq))), hRs.list.ge, hRs.list.ne, hRs.list.room, hRs.list.len⟩, hRs.ge, hRs.tl,
    fun b k => ⟨(hRs.wb b k).1, Nat.lt_of_lt_of_le (hRs.wb b k).2.1 hF2.size, (hRs.wb b k).2.2⟩, fun b k => ?_, hRs.nb, hRs.lb, ⟨hRs.good.1, fun y hy => ?_, hRs.good.2.2⟩, hRs.st, hRs.sm, ⟨hRs.cp.1, hlen⟩⟩, hMv, hOw, h.own, h.hs.1, h.hs.2.1, hsz⟩, hF⟩
  · obtain ⟨p, hp, rfl⟩ := blkS_mem.1 k
    simp only [Option.some.injEq] at hp
    subst hp
    refine ⟨Nat.le_trans h.hs.1 hgH, hglt, fun e => ?_⟩
    have := hownlt g e
    omega
  · rcases List.mem_append.1 hy with q | q
    · exact hRs.good.2.1 y q
    · rw [List.mem_singleton.1 q]; exact hx
end Go.Proofs.Ytchkiacmiljopaa.MemP
