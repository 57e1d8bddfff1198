/-
  retire: hazards, use, add, swept: contracts.
-/
import Derived.Test.YtchkiacmiljopaaRetP
import Derived.Deep.RegionHeld
import Derived.Deep.RegionLaw
import Derived.Deep.LoopGhost
namespace Go.Proofs.Ytchkiacmiljopaa.MemP
open Go.RowKit RefP CellP HazP
set_option linter.unusedVariables false
set_option linter.unusedSimpArgs false
def RtEnd (w : World) (base o t lo : Nat) (r : Int) (A : Nat) (d : RA) (s' : RS) (v : Value) (e : Ending) (w' : World) : Prop := ∃ d', e = .returned v ∧ RtAt w' base o t lo r A d' s' ∧ Mv (allB t lo d) (allB t lo d') w w'
set_option maxHeartbeats 800000 in
theorem rthaz_any {o oc g gb gr A T : Nat} {L : List (Int × Int)} {bs rs : List (List Value)} (t : Nat) (w : World) (h : MemAt w o oc g gb gr A T L bs rs) {cs : Array Value} (B : Blk w t cs 77) (e0 : cs[0]? = some (.pointer (some ⟨o, 0, none⟩))) :
    Calls Try.prog 30 #[.pointer (some ⟨t, 0, none⟩)] w fun e w' => e = .returned (.int .i64 ((T : Int) * 2)) ∧ w = w' := by
  have hT := h.t1
  have hw : IntKind.i64.wrap ((T : Int) * 2) = (T : Int) * 2 := by rw [IntKind.wrap_i64]; omega
  clear hT
  have c0 := B.at 0 e0
  go_enter Try.func30, Try.ntmps30
  go_wp2_with fail
  refine (threads_any _ h).mono ?_
  rintro e w1 ⟨rfl, rfl⟩
  go_wp2_with fail
  go_ret
  exact ⟨rfl, rfl⟩
set_option maxHeartbeats 800000 in
theorem rtuse_any {o oc g gb gr A T : Nat} {L : List (Int × Int)} {bs rs : List (List Value)} (t : Nat) (x : Int) (w : World) (h : MemAt w o oc g gb gr A T L bs rs) {cs : Array Value} (B : Blk w t cs 77) (e0 : cs[0]? = some (.pointer (some ⟨o, 0, none⟩))) (hx : GoodW A x) :
    Calls Try.prog 32 #[.pointer (some ⟨t, 0, none⟩), .int .u64 x] w fun e w' => e = .returned (.int .i64 (atI A T 1 (openP x))) ∧ Below w.heap.size w w' := by
  obtain ⟨⟨x0, x1⟩, hop, hp0, hp1⟩ := hx
  have hA := h.a1
  have ho := open_any x w x0 x1
  rw [hop] at ho
  go_enter Try.func32, Try.ntmps32
  go_wp2_with fail
  refine ho.mono ?_
  rintro e w1 ⟨rfl, hb1⟩
  have h1 := h.below hb1
  have d0 := (B.below hb1).at 0 e0
  go_wp2_with fail
  refine (muse_any (openP x) _ h1 (by omega) (by omega)).mono ?_
  rintro e w2 ⟨rfl, hb2⟩
  go_wp2_with fail
  go_ret
  exact ⟨rfl, below_push2 hb1 hb2 (Nat.le_refl _)⟩
theorem Blk.set6 {w : World} {t : Nat} {v0 v1 v2 v3 v4 v5 v6 : Value} (B : Blk w t #[v0, v1, v2, v3, v4, v5, v6] 77) (x : Value) : Blk (w.setCell ⟨t, 6, none⟩ x) t #[v0, v1, v2, v3, v4, v5, x] 77 := by simpa using B.set 6 x
set_option maxRecDepth 100000 in
set_option maxHeartbeats 6400000 in
theorem rtadd_any {base o t lo : Nat} {r : Int} {A : Nat} {d : RA} {s : RS} (w : World) (R : RtAt w base o t lo r A d s) (hbw : base ≤ w.heap.size) (h0 : s.st = 0) (v : Bool) (hv : (!(addP r s.W s.l).1.isEmpty) = v) : Calls Try.prog 29 #[.pointer (some ⟨t, 0, none⟩)] w (RtEnd w base o t lo r A d (addS r s) (.bool v)) := by
  subst hv
  obtain ⟨W0, st0, a0, nm0, fr0, l0⟩ := s
  obtain rfl : st0 = 0 := h0
  go_enter Try.func29, Try.ntmps29
  go_wp2_with fail
  go_loopg [] (W0.length) (fun k wr => ∃ W l d', W.length = k ∧ RtAt wr base o t lo r A d' ⟨W, 0, a0, nm0, fr0, l⟩ ∧ Mv (allB t lo d) (allB t lo d') w wr ∧ Hid (addP r W l = addP r W0 l0))
  case atStart => exact ⟨W0, l0, d, rfl, R, Mv.refl _ _, Lib.hid rfl⟩
  case round =>
    clear R
    obtain ⟨W, l, ⟨wa, wc, na, nc, fa, fc, la, lc⟩, rfl, R, M, hP⟩ := hrel
    cases W with
    | nil =>
      have c2 : wr.cell? ⟨t, 2, none⟩ = some (.slice wa 0 wc) := R.head.at 2 rfl
      go_wp2_with fail
      go_ret
      have e := hP.out
      simp only [addP] at e
      refine ⟨_, ?_, ?_, M⟩
      · rw [← e]; rfl
      · simpa [addS, ← e] using R
    | cons x W =>
      obtain ⟨n, hn⟩ : ∃ n, n = W.length + 1 := ⟨_, rfl⟩
      have hn1 : (0 : Int) < (n : Int) := by omega
      have hn0 : 0 < n := by omega
      have hx := R.good.1 x (by simp)
      have hcp := R.cp.1
      obtain ⟨b, off, e, hbl, hcell⟩ := R.words.row.get (show 0 < (x :: W).length by simp)
      simp only at e
      subst e
      have hxc : wr.cell? ⟨b, off, none⟩ = some (.int .u64 x) := by have := hcell 0 (by simp); simpa [u64F, at0] using this
      have c1 : wr.cell? ⟨t, 1, none⟩ = some (.pointer (some ⟨lo, 0, none⟩)) := R.head.at 1 rfl
      have c2 : wr.cell? ⟨t, 2, none⟩ = some (.slice (some ⟨b, off, none⟩) n wc) := by rw [hn]; exact R.head.at 2 rfl
      have c3 : wr.cell? ⟨t, 3, none⟩ = some (.int .i64 0) := R.head.at 3 rfl
      have ho := fun W' => open_any x W' hx.1.1 hx.1.2
      rw [hx.2.1] at ho
      clear hcell
      go_wp2_with fail
      refine (ho _).mono ?_
      rintro e w1 ⟨rfl, hb1⟩
      replace M := M.under hb1
      replace R := R.under hb1
      have hbs1 : base ≤ w1.heap.size := Nat.le_trans hbw M.fr.size
      clear hb1 hxc c1 c2 c3 hbl ho
      have hxc : w1.cell? ⟨b, off, none⟩ = some (.int .u64 x) := by
        obtain ⟨b', off', e, hbl, hcell⟩ := R.words.row.get (show 0 < (x :: W).length by simp)
        simp only [Option.some.injEq, Addr.mk.injEq, and_true] at e
        obtain ⟨rfl, rfl⟩ := e
        have := hcell 0 (by simp); simpa [u64F, at0] using this
      have c1 : w1.cell? ⟨t, 1, none⟩ = some (.pointer (some ⟨lo, 0, none⟩)) := R.head.at 1 rfl
      have c3 : w1.cell? ⟨t, 3, none⟩ = some (.int .i64 0) := R.head.at 3 rfl
      go_wp2_with fail
      by_cases hf : r ≤ (l.length : Int)
      · have hfull := full_any w1 base lo r la lc l R.list
        rw [show decide (r ≤ (l.length : Int)) = true by simpa using hf] at hfull
        refine hfull.mono ?_
        rintro e w2 ⟨rfl, hb2⟩
        replace M := M.under hb2
        replace R := R.under hb2
        clear hb2 hfull c1 c3 hxc
        have c3 : w2.cell? ⟨t, 3, none⟩ = some (.int .i64 0) := R.head.at 3 rfl
        have c4 : w2.cell? ⟨t, 4, none⟩ = some (.int .i64 a0) := R.head.at 4 rfl
        have c5 : w2.cell? ⟨t, 5, none⟩ = some (.slice na nm0.length nc) := R.head.at 5 rfl
        have f3 := R.head.free 3
        have f4 := R.head.free 4
        have f5 := R.head.free 5
        go_wp2_with fail
        go_ret
        have e := hP.out
        simp only [addP, if_pos hf] at e
        have hFr : Fr [t] w2 (((w2.setCell ⟨t, 3, none⟩ (.int .i64 1)).setCell ⟨t, 4, none⟩ (.int .i64 0)).setCell ⟨t, 5, none⟩ (.slice none 0 0)) := Fr.set (Fr.set (Fr.set (Fr.refl _ _) _ _ (.inl (by simp))) _ _ (.inl (by simp))) _ _ (.inl (by simp))
        have hB : Blk (((w2.setCell ⟨t, 3, none⟩ (.int .i64 1)).setCell ⟨t, 4, none⟩ (.int .i64 0)).setCell ⟨t, 5, none⟩ (.slice none 0 0)) t (rtA o lo ⟨some ⟨b, off, none⟩, wc, none, 0, fa, fc, la, lc⟩ ⟨x :: W, 1, 0, [], fr0, l⟩) 77 := by
          simpa [rtA, rtZ] using ((R.head.set 3 (.int .i64 1)).set 4 (.int .i64 0)).set 5 (.slice none 0 0)
        have K := R.put hFr hB ⟨rfl, rfl, rfl⟩ ⟨R.words, fun b h => h⟩ ⟨R.free, fun b h => h⟩ (.inr ⟨rfl, rfl, rfl⟩) ⟨R.good.1, R.good.2.1⟩ (by simp) ⟨R.sm.1, by simp⟩ R.cp
        refine ⟨_, ?_, ?_, M.trans K.2⟩
        · rw [← e]; rfl
        · have := K.1
          simpa [addS, ← e] using this
      · have hfull := full_any w1 base lo r la lc l R.list
        rw [show decide (r ≤ (l.length : Int)) = false by simpa using hf] at hfull
        refine hfull.mono ?_
        rintro e w2 ⟨rfl, hb2⟩
        have hb2x : w2.cell? ⟨b, off, none⟩ = some (.int .u64 x) := by
          obtain ⟨b', off', e, hbl, hcell⟩ := (R.under hb2).words.row.get (show 0 < (x :: W).length by simp)
          simp only [Option.some.injEq, Addr.mk.injEq, and_true] at e
          obtain ⟨rfl, rfl⟩ := e
          have := hcell 0 (by simp); simpa [u64F, at0] using this
        replace M := M.under hb2
        replace R := R.under hb2
        have hbs2 : base ≤ w2.heap.size := Nat.le_trans hbw M.fr.size
        clear hb2 hfull c1 c3 hxc
        have c1 : w2.cell? ⟨t, 1, none⟩ = some (.pointer (some ⟨lo, 0, none⟩)) := R.head.at 1 rfl
        have c2 : w2.cell? ⟨t, 2, none⟩ = some (.slice (some ⟨b, off, none⟩) n wc) := by rw [hn]; exact R.head.at 2 rfl
        have c3 : w2.cell? ⟨t, 3, none⟩ = some (.int .i64 0) := R.head.at 3 rfl
        have hadd := add_yes w2.drew base lo r la lc l x (R.under (Below.refl _ _).drew).list (by omega) hx.1 (by simpa using hbs2)
        go_upto_region 7 with (fail)
        refine wp_region_held_drew (S := fun w' => w'.cell? ⟨t, 1, none⟩ = some (.pointer (some ⟨lo, 0, none⟩)) ∧ w'.cell? ⟨t, 2, none⟩ = some (.slice (some ⟨b, off, none⟩) n wc) ∧ w'.cell? ⟨b, off, none⟩ = some (.int .u64 x)) (by kernel_rfl) ?_ (fun hHeld => ?_)
        · exact ⟨c1, c2, hb2x⟩
        refine wpAnyH_take (i := 0) (oi := ⟨_, _, _, _, _, _⟩) (v := ?_) rfl (by kernel_rfl) (by kernel_rfl) (by kernel_rfl) (fun _ _ _ h => h) (Or.inl ⟨by rfl, ?_⟩) (by assumption) ?_
        rotate_left
        · intro wS hSw
          try dsimp only at hSw
          go_simp
          try with_reducible rfl
        try simp only [Act.put, List.setIfInBounds_toArray, List.set_cons_zero, List.set_cons_succ]
        refine wpAnyH_take (i := 1) (oi := ⟨_, _, _, _, _, _⟩) (v := ?_) rfl (by kernel_rfl) (by kernel_rfl) (by kernel_rfl) (fun _ _ _ h => h) (Or.inl ⟨by rfl, ?_⟩) (by assumption) ?_
        rotate_left
        · intro wS hSw
          try dsimp only at hSw
          go_simp
          try with_reducible rfl
        try simp only [Act.put, List.setIfInBounds_toArray, List.set_cons_zero, List.set_cons_succ]
        refine wpAnyH_take (i := 2) (oi := ⟨_, _, _, _, _, _⟩) (v := ?_) rfl (by kernel_rfl) (by kernel_rfl) (by kernel_rfl) (fun _ _ _ h => h) (Or.inl ⟨by rfl, ?_⟩) (by assumption) ?_
        rotate_left
        · intro wS hSw
          try dsimp only at hSw
          go_simp
          try with_reducible rfl
        try simp only [Act.put, List.setIfInBounds_toArray, List.set_cons_zero, List.set_cons_succ]
        refine wpAnyH_take (i := 3) (oi := ⟨_, _, _, _, _, _⟩) (v := ?_) rfl (by kernel_rfl) (by kernel_rfl) (by kernel_rfl) (fun _ _ _ h => h) (Or.inl ⟨by rfl, ?_⟩) (by assumption) ?_
        rotate_left
        · intro wS hSw
          try dsimp only at hSw
          go_simp
          try with_reducible rfl
        try simp only [Act.put, List.setIfInBounds_toArray, List.set_cons_zero, List.set_cons_succ]
        refine wpAnyH_take (i := 4) (oi := ⟨_, _, _, _, _, _⟩) (v := ?_) rfl (by kernel_rfl) (by kernel_rfl) (by kernel_rfl) (fun _ _ _ h => h) (Or.inl ⟨by rfl, ?_⟩) (by assumption) ?_
        rotate_left
        · intro wS hSw
          try dsimp only at hSw
          go_simp
          try with_reducible rfl
        try simp only [Act.put, List.setIfInBounds_toArray, List.set_cons_zero, List.set_cons_succ]
        refine wpAnyH_take (i := 5) (oi := ⟨_, _, _, _, _, _⟩) (v := ?_) rfl (by kernel_rfl) (by kernel_rfl) (by kernel_rfl) (fun _ _ _ h => h) (Or.inl ⟨by rfl, ?_⟩) (by assumption) ?_
        rotate_left
        · intro wS hSw
          try dsimp only at hSw
          go_simp
          try with_reducible rfl
        try simp only [Act.put, List.setIfInBounds_toArray, List.set_cons_zero, List.set_cons_succ]
        refine wpAnyH_take (i := 6) (oi := ⟨_, _, _, _, _, _⟩) (v := ?_) rfl (by kernel_rfl) (by kernel_rfl) (by kernel_rfl) (fun _ _ _ h => h) (Or.inl ⟨by rfl, ?_⟩) (by assumption) ?_
        rotate_left
        · intro wS hSw
          try dsimp only at hSw
          go_simp
          try with_reducible rfl
        try simp only [Act.put, List.setIfInBounds_toArray, List.set_cons_zero, List.set_cons_succ]
        refine wpAnyH_take (i := 7) (oi := ⟨_, _, _, _, _, _⟩) (v := ?_) rfl (by kernel_rfl) (by kernel_rfl) (by kernel_rfl) (fun _ _ _ h => h) (Or.inl ⟨by rfl, ?_⟩) (by assumption) ?_
        rotate_left
        · intro wS hSw
          try dsimp only at hSw
          go_simp
          try with_reducible rfl
        try simp only [Act.put, List.setIfInBounds_toArray, List.set_cons_zero, List.set_cons_succ]
        refine wpAnyH_take (i := 8) (oi := ⟨_, _, _, _, _, _⟩) (v := ?_) rfl (by kernel_rfl) (by kernel_rfl) (by kernel_rfl) (fun _ _ _ h => h) (Or.inl ⟨by rfl, ?_⟩) (by assumption) ?_
        rotate_left
        · intro wS hSw
          try dsimp only at hSw
          go_simp
          try with_reducible rfl
        try simp only [Act.put, List.setIfInBounds_toArray, List.set_cons_zero, List.set_cons_succ]
        refine wpAnyH_take (i := 9) (oi := ⟨_, _, _, _, _, _⟩) (v := ?_) rfl (by kernel_rfl) (by kernel_rfl) (by kernel_rfl) (fun _ _ _ h => h) (Or.inl ⟨by rfl, ?_⟩) (by assumption) ?_
        rotate_left
        · intro wS hSw
          try dsimp only at hSw
          go_simp
          try with_reducible rfl
        try simp only [Act.put, List.setIfInBounds_toArray, List.set_cons_zero, List.set_cons_succ]
        refine wpAnyH_ready (rs := [10]) (by kernel_rfl) (by simp) ?_
        refine AllReadyH.cons rfl (fun K hK => ?_) AllReadyH.nil
        go_simp
        refine hadd.mono ?_
        rintro e w3 ⟨⟨la', lc', rfl, L3, hmv⟩, B3⟩
        have RR := R.under (Below.refl _ w2).drew
        have K3 := RR.listed L3 B3 hmv (fun y hy => by
          rcases List.mem_append.1 hy with q | q
          · exact R.good.2.2 y q
          · rw [List.mem_singleton.1 q]; exact hx)
        obtain ⟨R3, M3⟩ := K3
        replace M := (M.under (Below.refl _ w2).drew).trans M3
        have c1' : w3.cell? ⟨t, 1, none⟩ = some (.pointer (some ⟨lo, 0, none⟩)) := R3.head.at 1 rfl
        have c2' : w3.cell? ⟨t, 2, none⟩ = some (.slice (some ⟨b, off, none⟩) n wc) := by rw [hn]; exact R3.head.at 2 rfl
        have hxc3 : w3.cell? ⟨b, off, none⟩ = some (.int .u64 x) := by
          obtain ⟨b', off', e, hbl, hcell⟩ := R3.words.row.get (show 0 < (x :: W).length by simp)
          simp only [Option.some.injEq, Addr.mk.injEq, and_true] at e
          obtain ⟨rfl, rfl⟩ := e
          have := hcell 0 (by simp); simpa [u64F, at0] using this
        refine hK.out _ _ ⟨c1', c2', hxc3⟩ (fun hHeld => ?_)
        clear hK K
        refine wpAnyH_done (by kernel_rfl) ?_ _
        have c3' : w3.cell? ⟨t, 3, none⟩ = some (.int .i64 0) := R3.head.at 3 rfl
        have f2 := R3.head.free 2
        have f3 := R3.head.free 3
        have hrest := run_rest (some ⟨b, off, none⟩) n wc (by omega)
        have hW3 := U64s.rest R3.words hcp
        have hFr : Fr [t] w3 ((w3.setCell ⟨t, 2, none⟩ (.slice (rest1 (some ⟨b, off, none⟩) wc) (n - 1) (wc - 1))).setCell ⟨t, 3, none⟩ (.int .i64 0)) := Fr.set (Fr.set (Fr.refl _ _) _ _ (.inl (by simp))) _ _ (.inl (by simp))
        have hB : Blk ((w3.setCell ⟨t, 2, none⟩ (.slice (rest1 (some ⟨b, off, none⟩) wc) (n - 1) (wc - 1))).setCell ⟨t, 3, none⟩ (.int .i64 0)) t (rtA o lo ⟨rest1 (some ⟨b, off, none⟩) wc, wc - 1, na, nc, fa, fc, la', lc'⟩ ⟨W, 0, a0, nm0, fr0, l ++ [x]⟩) 77 := by
          have := (R3.head.set 2 (.slice (rest1 (some ⟨b, off, none⟩) wc) (n - 1) (wc - 1))).set 3 (.int .i64 0)
          have e1 : n - 1 = W.length := by omega
          simpa [e1, rtA, rtZ] using this
        have K := R3.put hFr hB ⟨rfl, rfl, rfl⟩ ⟨hW3, rest1_blk _ _⟩ ⟨R3.free, fun b h => h⟩ (.inl ⟨rfl, rfl, rfl⟩) ⟨fun y hy => R3.good.1 y (by simp [hy]), R3.good.2.1⟩ (by simp) ⟨by have := R3.sm.1; simp at this ⊢; omega, R3.sm.2.2⟩ ⟨by simp only [List.length_cons] at hcp ⊢; omega, R3.cp.2⟩
        obtain ⟨R4, M4⟩ := K
        clear hFr hB hW3 R RR hadd hrest
        have e1 : n - 1 = W.length := by omega
        rw [e1] at R4 M4
        replace M4 := M.trans M4
        clear M M3 R3 L3 B3 hmv e1
        replace hf := Lib.hid hf
        by_cases hwc : wc = 1
        · subst hwc
          have e2 : rest1 (some (⟨b, off, none⟩ : Addr)) 1 = some ⟨b, off, none⟩ := rfl
          simp only [e2, Nat.sub_self] at R4 M4
          clear e2
          go_wp2_with fail
          go_roundg (W.length)
          case measure => simp
          case rel => exact ⟨W, l ++ [x], _, rfl, R4, M4, Lib.hid (by rw [← hP.out]; exact (if_neg (by have := hf.out; omega)).symm)⟩
        · have e2 : rest1 (some (⟨b, off, none⟩ : Addr)) wc = some ⟨b, off + 1, none⟩ := by simp [rest1, hwc, add_plain']
          rw [e2] at R4 M4
          clear e2
          go_wp2_with fail
          go_roundg (W.length)
          case measure => simp
          case rel => exact ⟨W, l ++ [x], _, rfl, R4, M4, Lib.hid (by rw [← hP.out]; exact (if_neg (by have := hf.out; omega)).symm)⟩
end Go.Proofs.Ytchkiacmiljopaa.MemP
