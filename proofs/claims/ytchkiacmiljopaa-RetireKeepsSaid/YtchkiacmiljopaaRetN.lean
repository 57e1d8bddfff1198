/-
  retire: Next: contract.
-/
import Derived.Test.YtchkiacmiljopaaRetY
import Derived.Test.YtchkiacmiljopaaRetQ
namespace Go.Proofs.Ytchkiacmiljopaa.MemP
open Go.RowKit RefP CellP HazP
set_option linter.unusedVariables false
set_option linter.unusedSimpArgs false
theorem addS_out {T : Nat} {r : Int} {s : RS} (h0 : s.st = 0) (he : (addP r s.W s.l).1 = []) : addS r s = ⟨[], 0, s.at_, s.nm, s.fr, (addP r s.W s.l).2⟩ := by
  obtain ⟨W, st, a, nm, fr, l⟩ := s
  simp [addS, he]
theorem addS_in {r : Int} {s : RS} (he : (addP r s.W s.l).1 ≠ []) : addS r s = ⟨(addP r s.W s.l).1, 1, 0, [], s.fr, (addP r s.W s.l).2⟩ := by
  obtain ⟨W, st, a, nm, fr, l⟩ := s
  simp [addS, he]
def NxEnd (w : World) (base o t lo : Nat) (r : Int) (A T : Nat) (d : RA) (s' : RS) (e : Ending) (w' : World) : Prop := ∃ d', e = .returned (.tuple #[.agg (accL (accS A T s')), .bool (s'.st != 0)]) ∧ RtAt w' base o t lo r A d' s' ∧ Mv (allB t lo d) (allB t lo d') w w'
theorem row_mv {S S' : List Nat} {w w1 wr : World} {cs : Array Value} (hb : Below w.heap.size w w1) (M : Mv S S' w1 wr) : Mv S S' w (wr.setRow w.heap.size cs) :=
  ((Mv.new hb).trans M).step (Fr.row (S := [w.heap.size]) w.heap.size cs (by simp)) (fun b hb => .inr (by simp at hb; omega)) (fun b hb => .inl hb)
/-- what was made behind w is none of a task's blocks, if it was not when the task went on -/
theorem not_all {w : World} {base t lo : Nat} {r : Int} {A o : Nat} {d d' : RA} {s : RS} {w1 wr : World} (R : RtAt w base o t lo r A d s) (hw : w.heap.size < w1.heap.size) (M : Mv (allB t lo d) (allB t lo d') w1 wr) : w.heap.size ∉ allB t lo d' := fun hm => by
  rcases M.sub _ hm with k | k
  · have := R.all_ge _ k; omega
  · omega
theorem rt_row {w : World} {base o t lo : Nat} {r : Int} {A : Nat} {d : RA} {s : RS} {b : Nat} (cs : Array Value) (R : RtAt w base o t lo r A d s) (hn : b ∉ allB t lo d) : RtAt (w.setRow b cs) base o t lo r A d s :=
  R.off (S := [b]) (Fr.row b cs (by simp)) (fun x hx => by
    simp at hx
    subst hx
    simp only [allB, List.mem_append, not_or] at hn
    exact .inr ⟨hn.1, hn.2.1, hn.2.2⟩)
theorem nx_step {T : Nat} {r : Int} {k : Nat} {s : RS} (hT : 1 ≤ T) (hst : s.st ≤ 2) (ho : outB T s = false) (hr : rankS T s ≤ k) : ∃ k', k = k' + 1 ∧ nrm T r k s = nrm T r k' (istep r s) ∧ rankS T (istep r s) ≤ k' := by
  have h := rank_step (r := r) hst hT ho
  obtain ⟨k', rfl⟩ : ∃ k', k = k' + 1 := ⟨k - 1, by omega⟩
  exact ⟨k', rfl, nrm_in ho, by omega⟩
theorem nx_add0 {T : Nat} {r : Int} {k : Nat} {s : RS} (hT : 1 ≤ T) (h0 : s.st = 0) (he : (addP r s.W s.l).1 = []) (hr : rankS T s ≤ k) : nrm T r k s = addS r s := by
  have hout : outB T (addS r s) = true := by rw [addS_out (T := T) h0 he]; simp [outB]
  by_cases ho : outB T s = true
  · rw [nrm_out ho]
    obtain ⟨W, st, a, nm, fr, l⟩ := s
    simp only at h0
    subst h0
    simp [outB] at ho
    subst ho
    simp [addS, addP]
  · obtain ⟨k', rfl, hn, _⟩ := nx_step (r := r) hT (by omega) (by simpa using ho) hr
    rw [hn, show istep r s = addS r s by simp [istep, h0], nrm_out hout]
set_option maxRecDepth 100000 in
set_option maxHeartbeats 12800000 in
theorem rtNext_any {o oc g gb gr T : Nat} {L : List (Int × Int)} {bs rs : List (List Value)} {base t lo : Nat} {r : Int} {A : Nat} {d : RA} {s : RS} (w : World) (h : MemB w base o oc g gb gr A T L bs rs) (R : RtAt w base o t lo r A d s) (hbw : base ≤ w.heap.size) : Calls Try.prog 9 #[.pointer (some ⟨t, 0, none⟩)] w (NxEnd w base o t lo r A T d (nrm T r 4 s)) := by
  have hT := h.m.t1
  have hb0 : Below w.heap.size w (w.alloc (.cells (accY 0 0 0 0) 50)) := by (repeat (first | exact Below.refl _ _ | assumption | refine below_alloc2 ?_ (by first | exact Nat.le_refl _ | omega) _ | refine Below.drew ?_ | refine below_drewN ?_ _ | refine below_push2 ?_ ‹_› (by first | exact Nat.le_refl _ | omega) | refine Below.setCell ?_ (by first | (simp; done) | (simp; omega) | omega) _))
  have hs1 : w.heap.size < (w.alloc (.cells (accY 0 0 0 0) 50)).heap.size := by simp
  have R1 := R.under hb0
  have h1 := h.under hb0
  have BR0 := Blk.new w (accY 0 0 0 0) 50
  have qT : ((T : Int) == 0) = false := by simp; omega
  have htl := R.head.lt
  have hne' : ¬ t = w.heap.size := by omega
  have c0 : (w.alloc (.cells (accY 0 0 0 0) 50)).cell? ⟨t, 0, none⟩ = some (.pointer (some ⟨o, 0, none⟩)) := R1.head.at 0 rfl
  have c1 : (w.alloc (.cells (accY 0 0 0 0) 50)).cell? ⟨t, 1, none⟩ = some (.pointer (some ⟨lo, 0, none⟩)) := R1.head.at 1 rfl
  go_enter Try.func9, Try.ntmps9
  go_upto_region 1 with (fail)
  generalize w.alloc (.cells (accY 0 0 0 0) 50) = w1 at hb0 hs1 R1 h1 BR0 c0 c1 ⊢
  have hbw1 : base ≤ w1.heap.size := by omega
  go_wp2_with fail
  refine (threads_any _ h1.m).mono ?_
  rintro e wx ⟨rfl, rfl⟩
  go_wp2_with fail
  clear c0 c1 qT
  go_loopg [] 4 (fun k wr => ∃ s' d', rankS T s' ≤ k ∧ Hid (nrm T r k s' = nrm T r 4 s) ∧ RtAt wr base o t lo r A d' s' ∧ Mv (allB t lo d) (allB t lo d') w1 wr)
  case atStart => exact ⟨s, d, by have := rank_le T s; omega, Lib.hid rfl, R1, Mv.refl _ _⟩
  case round =>
    obtain ⟨⟨W, st, a, nm, fr, l⟩, d', hrk, hN, X, M⟩ := hrel
    have hMb := h1.below (M.below (fun b hb => (R1.all_ge b hb).1) hbw1) hbw1
    have hbwr : base ≤ wr.heap.size := Nat.le_trans hbw1 M.fr.size
    have hst2 := X.st
    simp only at hst2
    have hst : st = 0 ∨ st = 1 ∨ st = 2 := by omega
    rcases hst with rfl | rfl | rfl
    · -- adding
      have c3 : wr.cell? ⟨t, 3, none⟩ = some (.int .i64 0) := X.head.at 3 rfl
      by_cases he : (addP r W l).1 = []
      · have hadd := rtadd_any wr X hbwr rfl false (by simp [he])
        have hN2 : nrm T r 4 s = addS r ⟨W, 0, a, nm, fr, l⟩ := by rw [← hN.out]; exact nx_add0 hT.1 rfl he hrk
        rw [hN2, addS_out (T := T) rfl he]
        rw [addS_out (T := T) rfl he] at hadd
        replace hN := Lib.hid hN2
        replace he := Lib.hid he
        go_wp2_with fail
        refine hadd.mono ?_
        rintro e w2 ⟨d2, rfl, X2, M2⟩
        have M3 := M.trans M2
        have hnot := not_all R hs1 M3
        have BR := M3.fr.blk BR0 (fun hm => by have := R.all_ge _ hm; omega)
        clear hadd M M2 X c3
        go_wp2_with (refine wpList_store_row rfl 50 _ _ rfl w.heap.size _ rfl rfl 50 _ BR.h (by kernel_rfl) (by rfl) (by kernel_rfl) ?_)
        refine bodyPost_ret (v := .tuple #[.agg (accY 0 0 0 0), .bool false]) (results_cell_tmp rfl _ _ w.heap.size 50 (accY 0 0 0 0) (0, 0) _ (.bool false) rfl rfl (Blk.row BR (accY 0 0 0 0)).h Try.underlying50 rfl (by kernel_rfl)) rfl ?_
        exact ⟨d2, rfl, rt_row _ X2 hnot, row_mv hb0 M3⟩
      · have hadd := rtadd_any wr X hbwr rfl true (by simpa using he)
        have ho : outB T ⟨W, 0, a, nm, fr, l⟩ = false := by
          have : W ≠ [] := fun e => he (by subst e; rfl)
          simp [outB, this]
        obtain ⟨k', rfl, hN2, hr2⟩ := nx_step (r := r) hT.1 (by simp) ho hrk
        rw [show istep r ⟨W, 0, a, nm, fr, l⟩ = addS r ⟨W, 0, a, nm, fr, l⟩ from rfl] at hN2 hr2
        have hN3 : Hid (nrm T r k' (addS r ⟨W, 0, a, nm, fr, l⟩) = nrm T r 4 s) := Lib.hid (by rw [← hN2]; exact hN.out)
        replace he := Lib.hid he
        clear hN hN2 hrk ho
        go_wp2_with fail
        refine hadd.mono ?_
        rintro e w2 ⟨d2, rfl, X2, M2⟩
        have M3 := M.trans M2
        clear hadd M M2 X c3
        go_wp2_with fail
        go_roundg k'
        case measure => omega
        case rel => exact ⟨_, d2, hr2, hN3, X2, M3⟩
    · -- loading
      have c3 : wr.cell? ⟨t, 3, none⟩ = some (.int .i64 1) := X.head.at 3 rfl
      have c4 : wr.cell? ⟨t, 4, none⟩ = some (.int .i64 a) := X.head.at 4 rfl
      by_cases ha : a < 2 * T
      · have ho : outB T ⟨W, 1, a, nm, fr, l⟩ = true := by simp [outB, ha]
        have q1 : decide ((a : Int) < (T : Int) * 2) = true := by simp; omega
        rw [← hN.out, nrm_out ho]
        have hend : accS A T ⟨W, 1, a, nm, fr, l⟩ = (1, hazI A T ((a : Int) / 2) ((a : Int) % 2), 0, 0) := rfl
        clear hN ho hrk
        go_wp2_with fail
        go_quiet (exact Calls.quiet_of_same ((rthaz_any t _ (hMb.m.drewN _) (X.head.drewN _) rfl).flip))
        have hbq := below_drewN (Below.refl wr.heap.size wr) nq
        replace X := X.under hbq
        replace M := M.under hbq
        replace hMb := hMb.under hbq
        generalize wr.drewN nq = wy at X M hMb ⊢
        clear c3 c4 hbq
        have c0 : wy.cell? ⟨t, 0, none⟩ = some (.pointer (some ⟨o, 0, none⟩)) := X.head.at 0 rfl
        have c4 : wy.cell? ⟨t, 4, none⟩ = some (.int .i64 a) := X.head.at 4 rfl
        have hM := hMb.m.below (Below.refl _ _).drew
        have ha2 := X.sm.2.2
        simp only at ha2
        have ht1 : (a : Int).tdiv 2 = (a : Int) / 2 := Int.tdiv_eq_ediv_of_nonneg (by omega)
        have ht2 : (a : Int).tmod 2 = (a : Int) % 2 := Int.tmod_eq_emod_of_nonneg (by omega)
        have hw1 : IntKind.i64.wrap ((a : Int) / 2) = (a : Int) / 2 := by rw [IntKind.wrap_i64]; omega
        have hw2 : IntKind.i64.wrap ((a : Int) % 2) = (a : Int) % 2 := by rw [IntKind.wrap_i64]; omega
        go_upto_region 12 with (fail)
        refine wp_region_held_drew (S := fun w' => w'.cell? ⟨t, 0, none⟩ = some (.pointer (some ⟨o, 0, none⟩)) ∧ w'.cell? ⟨t, 4, none⟩ = some (.int .i64 a)) (by kernel_rfl) ?_ (fun hHeld => ?_)
        · exact ⟨c0, c4⟩
        refine wpAnyH_take (i := 0) (oi := ⟨_, _, _, _, _, _⟩) (v := ?_) rfl (by kernel_rfl) (by kernel_rfl) (by kernel_rfl) (fun _ _ _ h => h) (Or.inl ⟨by rfl, ?_⟩) (by assumption) ?_
        rotate_left
        · intro wS hSw
          try dsimp only at hSw
          go_simp
          try with_reducible rfl
        try simp only [Act.put, List.setIfInBounds_toArray, List.set_cons_zero, List.set_cons_succ]
        refine wpAnyH_take (i := 1) (oi := ⟨_, _, _, _, _, _⟩) (v := ?_) rfl (by kernel_rfl) (by kernel_rfl) (by kernel_rfl) (fun _ _ _ h => h) (Or.inl ⟨by rfl, ?_⟩) (by assumption) ?_
        rotate_left
        · intro wS hSw
          try dsimp only at hSw
          go_simp
          try with_reducible rfl
        try simp only [Act.put, List.setIfInBounds_toArray, List.set_cons_zero, List.set_cons_succ]
        refine wpAnyH_take (i := 2) (oi := ⟨_, _, _, _, _, _⟩) (v := ?_) rfl (by kernel_rfl) (by kernel_rfl) (by kernel_rfl) (fun _ _ _ h => h) (Or.inl ⟨by rfl, ?_⟩) (by assumption) ?_
        rotate_left
        · intro wS hSw
          try dsimp only at hSw
          go_simp
          try with_reducible rfl
        try simp only [Act.put, List.setIfInBounds_toArray, List.set_cons_zero, List.set_cons_succ]
        refine wpAnyH_take (i := 3) (oi := ⟨_, _, _, _, _, _⟩) (v := ?_) rfl (by kernel_rfl) (by kernel_rfl) (by kernel_rfl) (fun _ _ _ h => h) (Or.inl ⟨by rfl, ?_⟩) (by assumption) ?_
        rotate_left
        · intro wS hSw
          try dsimp only at hSw
          go_simp
          try with_reducible rfl
        try simp only [Act.put, List.setIfInBounds_toArray, List.set_cons_zero, List.set_cons_succ]
        refine wpAnyH_take (i := 4) (oi := ⟨_, _, _, _, _, _⟩) (v := ?_) rfl (by kernel_rfl) (by kernel_rfl) (by kernel_rfl) (fun _ _ _ h => h) (Or.inl ⟨by rfl, ?_⟩) (by assumption) ?_
        rotate_left
        · intro wS hSw
          try dsimp only at hSw
          go_simp
          try with_reducible rfl
        try simp only [Act.put, List.setIfInBounds_toArray, List.set_cons_zero, List.set_cons_succ]
        refine wpAnyH_take (i := 5) (oi := ⟨_, _, _, _, _, _⟩) (v := ?_) rfl (by kernel_rfl) (by kernel_rfl) (by kernel_rfl) (fun _ _ _ h => h) (Or.inl ⟨by rfl, ?_⟩) (by assumption) ?_
        rotate_left
        · intro wS hSw
          try dsimp only at hSw
          go_simp
          try with_reducible rfl
        try simp only [Act.put, List.setIfInBounds_toArray, List.set_cons_zero, List.set_cons_succ]
        refine wpAnyH_take (i := 6) (oi := ⟨_, _, _, _, _, _⟩) (v := ?_) rfl (by kernel_rfl) (by kernel_rfl) (by kernel_rfl) (fun _ _ _ h => h) (Or.inl ⟨by rfl, ?_⟩) (by assumption) ?_
        rotate_left
        · intro wS hSw
          try dsimp only at hSw
          go_simp
          try with_reducible rfl
        try simp only [Act.put, List.setIfInBounds_toArray, List.set_cons_zero, List.set_cons_succ]
        refine wpAnyH_take (i := 7) (oi := ⟨_, _, _, _, _, _⟩) (v := ?_) rfl (by kernel_rfl) (by kernel_rfl) (by kernel_rfl) (fun _ _ _ h => h) (Or.inl ⟨by rfl, ?_⟩) (by assumption) ?_
        rotate_left
        · intro wS hSw
          try dsimp only at hSw
          go_simp
          try with_reducible rfl
        try simp only [Act.put, List.setIfInBounds_toArray, List.set_cons_zero, List.set_cons_succ]
        refine wpAnyH_take (i := 8) (oi := ⟨_, _, _, _, _, _⟩) (v := ?_) rfl (by kernel_rfl) (by kernel_rfl) (by kernel_rfl) (fun _ _ _ h => h) (Or.inl ⟨by rfl, ?_⟩) (by assumption) ?_
        rotate_left
        · intro wS hSw
          try dsimp only at hSw
          go_simp
          try with_reducible rfl
        try simp only [Act.put, List.setIfInBounds_toArray, List.set_cons_zero, List.set_cons_succ]
        refine wpAnyH_take (i := 9) (oi := ⟨_, _, _, _, _, _⟩) (v := ?_) rfl (by kernel_rfl) (by kernel_rfl) (by kernel_rfl) (fun _ _ _ h => h) (Or.inl ⟨by rfl, ?_⟩) (by assumption) ?_
        rotate_left
        · intro wS hSw
          try dsimp only at hSw
          go_simp
          try with_reducible rfl
        try simp only [Act.put, List.setIfInBounds_toArray, List.set_cons_zero, List.set_cons_succ]
        refine wpAnyH_take (i := 10) (oi := ⟨_, _, _, _, _, _⟩) (v := ?_) rfl (by kernel_rfl) (by kernel_rfl) (by kernel_rfl) (fun _ _ _ h => h) (Or.inl ⟨by rfl, ?_⟩) (by assumption) ?_
        rotate_left
        · intro wS hSw
          try dsimp only at hSw
          go_simp
          try with_reducible rfl
        try simp only [Act.put, List.setIfInBounds_toArray, List.set_cons_zero, List.set_cons_succ]
        refine wpAnyH_take (i := 11) (oi := ⟨_, _, _, _, _, _⟩) (v := ?_) rfl (by kernel_rfl) (by kernel_rfl) (by kernel_rfl) (fun _ _ _ h => h) (Or.inl ⟨by rfl, ?_⟩) (by assumption) ?_
        rotate_left
        · intro wS hSw
          try dsimp only at hSw
          go_simp
          try with_reducible rfl
        try simp only [Act.put, List.setIfInBounds_toArray, List.set_cons_zero, List.set_cons_succ]
        refine wpAnyH_take (i := 12) (oi := ⟨_, _, _, _, _, _⟩) (v := ?_) rfl (by kernel_rfl) (by kernel_rfl) (by kernel_rfl) (fun _ _ _ h => h) (Or.inl ⟨by rfl, ?_⟩) (by assumption) ?_
        rotate_left
        · intro wS hSw
          try dsimp only at hSw
          go_simp
          try with_reducible rfl
        try simp only [Act.put, List.setIfInBounds_toArray, List.set_cons_zero, List.set_cons_succ]
        refine wpAnyH_take (i := 13) (oi := ⟨_, _, _, _, _, _⟩) (v := ?_) rfl (by kernel_rfl) (by kernel_rfl) (by kernel_rfl) (fun _ _ _ h => h) (Or.inl ⟨by rfl, ?_⟩) (by assumption) ?_
        rotate_left
        · intro wS hSw
          try dsimp only at hSw
          go_simp
          try with_reducible rfl
        try simp only [Act.put, List.setIfInBounds_toArray, List.set_cons_zero, List.set_cons_succ]
        refine wpAnyH_ready (rs := [14]) (by kernel_rfl) (by simp) ?_
        refine AllReadyH.cons rfl (fun K hK => ?_) AllReadyH.nil
        go_simp
        refine (haz_any _ _ _ hM).mono ?_
        rintro e w2 ⟨rfl, hb2⟩
        have hbD := below_push2 (Below.refl _ wy).drew hb2 (Nat.le_refl _)
        have X2 := X.under hbD
        have M2 := M.under hbD
        have hnot := not_all R hs1 M2
        have BR := M2.fr.blk BR0 (fun hm => by have := R.all_ge _ hm; omega)
        refine hK.out _ _ ⟨X2.head.at 0 rfl, X2.head.at 4 rfl⟩ (fun hHeld => ?_)
        clear hK K hb2
        refine wpAnyH_take (i := 15) (oi := ⟨_, _, _, _, _, _⟩) (v := ?_) rfl (by kernel_rfl) (by kernel_rfl) (by kernel_rfl) (fun _ _ _ h => h) (Or.inl ⟨by rfl, ?_⟩) (by assumption) ?_
        rotate_left
        · intro wS hSw
          try dsimp only at hSw
          go_simp
          try with_reducible rfl
        try simp only [Act.put, List.setIfInBounds_toArray, List.set_cons_zero, List.set_cons_succ]
        have XB := rt_row (accY 1 (hazI A T ((a : Int) / 2) ((a : Int) % 2)) 0 0) X2 hnot
        refine wpAnyH_ready (rs := [16]) (by kernel_rfl) (by simp) ?_
        refine AllReadyH.cons rfl (fun K hK => ?_) AllReadyH.nil
        rw [if_pos (by rfl)]
        refine wp_store_row 50 _ _ rfl w.heap.size _ rfl rfl 50 _ BR.h (by kernel_rfl) (by rfl) (by kernel_rfl) ?_
        refine hK.out _ _ ?_ (fun hHeld => ?_)
        · exact ⟨XB.head.at 0 rfl, XB.head.at 4 rfl⟩
        clear hK K
        refine wpAnyH_take (i := 17) (oi := ⟨_, _, _, _, _, _⟩) (v := ?_) rfl (by kernel_rfl) (by kernel_rfl) (by kernel_rfl) (fun _ _ _ h => h) (Or.inl ⟨by rfl, ?_⟩) (by assumption) ?_
        rotate_left
        · intro wS hSw
          try dsimp only at hSw
          go_simp
          try with_reducible rfl
        try simp only [Act.put, List.setIfInBounds_toArray, List.set_cons_zero, List.set_cons_succ]
        refine wpAnyH_done (by kernel_rfl) ?_ _
        go_wp2_with fail
        refine bodyPost_ret (v := .tuple #[.agg (accY 1 (hazI A T ((a : Int) / 2) ((a : Int) % 2)) 0 0), .bool true]) (results_cell_tmp rfl _ _ w.heap.size 50 (accY 1 (hazI A T ((a : Int) / 2) ((a : Int) % 2)) 0 0) (0, 0) _ (.bool true) rfl rfl (Blk.row BR (accY 1 (hazI A T ((a : Int) / 2) ((a : Int) % 2)) 0 0)).h Try.underlying50 rfl (by kernel_rfl)) rfl ?_
        exact ⟨_, by rw [hend]; rfl, XB, row_mv hb0 M2⟩
      · have ho : outB T ⟨W, 1, a, nm, fr, l⟩ = false := by simp [outB, ha]
        have q1 : decide ((a : Int) < (T : Int) * 2) = false := by simp; omega
        obtain ⟨k', rfl, hN2, hr2⟩ := nx_step (r := r) hT.1 (by simp) ho hrk
        rw [show istep r ⟨W, 1, a, nm, fr, l⟩ = siftS ⟨W, 1, a, nm, fr, l⟩ from rfl] at hN2 hr2
        have hN3 : Hid (nrm T r k' (siftS ⟨W, 1, a, nm, fr, l⟩) = nrm T r 4 s) := Lib.hid (by rw [← hN2]; exact hN.out)
        clear hN hN2 hrk ho
        go_wp2_with fail
        go_quiet (exact Calls.quiet_of_same ((rthaz_any t _ (hMb.m.drewN _) (X.head.drewN _) rfl).flip))
        have hbq := below_drewN (Below.refl wr.heap.size wr) nq
        replace X := X.under hbq
        replace M := M.under hbq
        replace hMb := hMb.under hbq
        have hbwy := Nat.le_trans hbwr hbq.size
        generalize wr.drewN nq = wy at X M hMb hbwy ⊢
        clear c3 c4 hbq
        go_wp2_with fail
        refine (rtsift_any wy hMb X hbwy).mono ?_
        rintro e w2 ⟨d2, rfl, X2, M2⟩
        have M3 := M.trans M2
        clear M M2 X
        go_wp2_with fail
        go_roundg k'
        case measure => omega
        case rel => exact ⟨_, d2, hr2, hN3, X2, M3⟩
    · -- freeing
      have c3 : wr.cell? ⟨t, 3, none⟩ = some (.int .i64 2) := X.head.at 3 rfl
      obtain ⟨wa, wc, na, nc, fa, fc, la, lc⟩ := d'
      cases fr with
      | cons x fr =>
        have ho : outB T ⟨W, 2, a, nm, x :: fr, l⟩ = true := by simp [outB]
        rw [← hN.out, nrm_out ho]
        have hend : accS A T ⟨W, 2, a, nm, x :: fr, l⟩ = (2, atI A T 1 (openP x), 0, freedI x) := rfl
        obtain ⟨n, hn⟩ : ∃ n, n = fr.length + 1 := ⟨_, rfl⟩
        have hn1 : (0 : Int) < (n : Int) := by omega
        have hn0 : 0 < n := by omega
        have hxg := X.good.2.1 x (by simp)
        obtain ⟨b, off, e, hbl, hcell⟩ := X.free.row.get (show 0 < (x :: fr).length by simp)
        simp only at e
        subst e
        have hfirst : ∀ w', RtAt w' base o t lo r A ⟨wa, wc, na, nc, some ⟨b, off, none⟩, fc, la, lc⟩ ⟨W, 2, a, nm, x :: fr, l⟩ → w'.cell? ⟨t, 6, none⟩ = some (.slice (some ⟨b, off, none⟩) n fc) ∧ w'.cell? ⟨b, off, none⟩ = some (.int .u64 x) := fun w' X' => by
          refine ⟨by rw [hn]; exact X'.head.at 6 rfl, ?_⟩
          obtain ⟨b', off', e, hbl, hcell⟩ := X'.free.row.get (show 0 < (x :: fr).length by simp)
          simp only [Option.some.injEq, Addr.mk.injEq, and_true] at e
          obtain ⟨rfl, rfl⟩ := e
          have := hcell 0 (by simp); simpa [u64F, at0] using this
        replace hn := Lib.hid hn
        have hS0 := hfirst wr X
        have c6 := hS0.1
        have cx := hS0.2
        have X0 := X.under (Below.refl _ wr).drew
        have hM := hMb.m.below (Below.refl _ wr).drew
        clear hN ho hrk hcell
        go_upto_region 5 with (fail)
        refine wp_region_held_drew (S := fun w' => w'.cell? ⟨t, 6, none⟩ = some (.slice (some ⟨b, off, none⟩) n fc) ∧ w'.cell? ⟨b, off, none⟩ = some (.int .u64 x)) (by kernel_rfl) ?_ (fun hHeld => ?_)
        · exact ⟨c6, cx⟩
        refine wpAnyH_take (i := 0) (oi := ⟨_, _, _, _, _, _⟩) (v := ?_) rfl (by kernel_rfl) (by kernel_rfl) (by kernel_rfl) (fun _ _ _ h => h) (Or.inl ⟨by rfl, ?_⟩) (by assumption) ?_
        rotate_left
        · intro wS hSw
          try dsimp only at hSw
          go_simp
          try with_reducible rfl
        try simp only [Act.put, List.setIfInBounds_toArray, List.set_cons_zero, List.set_cons_succ]
        refine wpAnyH_take (i := 1) (oi := ⟨_, _, _, _, _, _⟩) (v := ?_) rfl (by kernel_rfl) (by kernel_rfl) (by kernel_rfl) (fun _ _ _ h => h) (Or.inl ⟨by rfl, ?_⟩) (by assumption) ?_
        rotate_left
        · intro wS hSw
          try dsimp only at hSw
          go_simp
          try with_reducible rfl
        try simp only [Act.put, List.setIfInBounds_toArray, List.set_cons_zero, List.set_cons_succ]
        refine wpAnyH_take (i := 2) (oi := ⟨_, _, _, _, _, _⟩) (v := ?_) rfl (by kernel_rfl) (by kernel_rfl) (by kernel_rfl) (fun _ _ _ h => h) (Or.inl ⟨by rfl, ?_⟩) (by assumption) ?_
        rotate_left
        · intro wS hSw
          try dsimp only at hSw
          go_simp
          try with_reducible rfl
        try simp only [Act.put, List.setIfInBounds_toArray, List.set_cons_zero, List.set_cons_succ]
        refine wpAnyH_take (i := 3) (oi := ⟨_, _, _, _, _, _⟩) (v := ?_) rfl (by kernel_rfl) (by kernel_rfl) (by kernel_rfl) (fun _ _ _ h => h) (Or.inl ⟨by rfl, ?_⟩) (by assumption) ?_
        rotate_left
        · intro wS hSw
          try dsimp only at hSw
          go_simp
          try with_reducible rfl
        try simp only [Act.put, List.setIfInBounds_toArray, List.set_cons_zero, List.set_cons_succ]
        refine wpAnyH_take (i := 4) (oi := ⟨_, _, _, _, _, _⟩) (v := ?_) rfl (by kernel_rfl) (by kernel_rfl) (by kernel_rfl) (fun _ _ _ h => h) (Or.inl ⟨by rfl, ?_⟩) (by assumption) ?_
        rotate_left
        · intro wS hSw
          try dsimp only at hSw
          go_simp
          try with_reducible rfl
        try simp only [Act.put, List.setIfInBounds_toArray, List.set_cons_zero, List.set_cons_succ]
        refine wpAnyH_take (i := 5) (oi := ⟨_, _, _, _, _, _⟩) (v := ?_) rfl (by kernel_rfl) (by kernel_rfl) (by kernel_rfl) (fun _ _ _ h => h) (Or.inl ⟨by rfl, ?_⟩) (by assumption) ?_
        rotate_left
        · intro wS hSw
          try dsimp only at hSw
          go_simp
          try with_reducible rfl
        try simp only [Act.put, List.setIfInBounds_toArray, List.set_cons_zero, List.set_cons_succ]
        refine wpAnyH_take (i := 6) (oi := ⟨_, _, _, _, _, _⟩) (v := ?_) rfl (by kernel_rfl) (by kernel_rfl) (by kernel_rfl) (fun _ _ _ h => h) (Or.inl ⟨by rfl, ?_⟩) (by assumption) ?_
        rotate_left
        · intro wS hSw
          try dsimp only at hSw
          go_simp
          try with_reducible rfl
        try simp only [Act.put, List.setIfInBounds_toArray, List.set_cons_zero, List.set_cons_succ]
        refine wpAnyH_take (i := 8) (oi := ⟨_, _, _, _, _, _⟩) (v := ?_) rfl (by kernel_rfl) (by kernel_rfl) (by kernel_rfl) (fun _ _ _ h => h) (Or.inl ⟨by rfl, ?_⟩) (by assumption) ?_
        rotate_left
        · intro wS hSw
          try dsimp only at hSw
          go_simp
          try with_reducible rfl
        try simp only [Act.put, List.setIfInBounds_toArray, List.set_cons_zero, List.set_cons_succ]
        refine wpAnyH_take (i := 9) (oi := ⟨_, _, _, _, _, _⟩) (v := ?_) rfl (by kernel_rfl) (by kernel_rfl) (by kernel_rfl) (fun _ _ _ h => h) (Or.inl ⟨by rfl, ?_⟩) (by assumption) ?_
        rotate_left
        · intro wS hSw
          try dsimp only at hSw
          go_simp
          try with_reducible rfl
        try simp only [Act.put, List.setIfInBounds_toArray, List.set_cons_zero, List.set_cons_succ]
        refine wpAnyH_take (i := 10) (oi := ⟨_, _, _, _, _, _⟩) (v := ?_) rfl (by kernel_rfl) (by kernel_rfl) (by kernel_rfl) (fun _ _ _ h => h) (Or.inl ⟨by rfl, ?_⟩) (by assumption) ?_
        rotate_left
        · intro wS hSw
          try dsimp only at hSw
          go_simp
          try with_reducible rfl
        try simp only [Act.put, List.setIfInBounds_toArray, List.set_cons_zero, List.set_cons_succ]
        refine wpAnyH_take (i := 11) (oi := ⟨_, _, _, _, _, _⟩) (v := ?_) rfl (by kernel_rfl) (by kernel_rfl) (by kernel_rfl) (fun _ _ _ h => h) (Or.inl ⟨by rfl, ?_⟩) (by assumption) ?_
        rotate_left
        · intro wS hSw
          try dsimp only at hSw
          go_simp
          try with_reducible rfl
        try simp only [Act.put, List.setIfInBounds_toArray, List.set_cons_zero, List.set_cons_succ]
        refine wpAnyH_take (i := 12) (oi := ⟨_, _, _, _, _, _⟩) (v := ?_) rfl (by kernel_rfl) (by kernel_rfl) (by kernel_rfl) (fun _ _ _ h => h) (Or.inl ⟨by rfl, ?_⟩) (by assumption) ?_
        rotate_left
        · intro wS hSw
          try dsimp only at hSw
          go_simp
          try with_reducible rfl
        try simp only [Act.put, List.setIfInBounds_toArray, List.set_cons_zero, List.set_cons_succ]
        refine wpAnyH_take (i := 13) (oi := ⟨_, _, _, _, _, _⟩) (v := ?_) rfl (by kernel_rfl) (by kernel_rfl) (by kernel_rfl) (fun _ _ _ h => h) (Or.inl ⟨by rfl, ?_⟩) (by assumption) ?_
        rotate_left
        · intro wS hSw
          try dsimp only at hSw
          go_simp
          try with_reducible rfl
        try simp only [Act.put, List.setIfInBounds_toArray, List.set_cons_zero, List.set_cons_succ]
        refine wpAnyH_ready (rs := [7]) (by kernel_rfl) (by simp) ?_
        refine AllReadyH.cons rfl (fun K hK => ?_) AllReadyH.nil
        go_simp
        refine (rtuse_any t x _ hM X0.head rfl hxg).mono ?_
        rintro e w2 ⟨rfl, hb2⟩
        refine hK.out _ _ (hfirst _ (X0.under hb2)) (fun hHeld => ?_)
        clear hK K
        refine wpAnyH_ready (rs := [14]) (by kernel_rfl) (by simp) ?_
        refine AllReadyH.cons rfl (fun K hK => ?_) AllReadyH.nil
        go_simp
        refine (freed_any x _ hxg.1.1 hxg.1.2).mono ?_
        rintro e w3 ⟨rfl, hb3⟩
        have hbD := below_push2 (below_push2 (Below.refl _ wr).drew hb2 (Nat.le_refl _)) hb3 (Nat.le_refl _)
        have X2 := X.under hbD
        have M2 := M.under hbD
        have hnot := not_all R hs1 M2
        have BR := M2.fr.blk BR0 (fun hm => by have := R.all_ge _ hm; omega)
        refine hK.out _ _ (hfirst _ X2) (fun hHeld => ?_)
        clear hK K hb2 hb3
        refine wpAnyH_take (i := 15) (oi := ⟨_, _, _, _, _, _⟩) (v := ?_) rfl (by kernel_rfl) (by kernel_rfl) (by kernel_rfl) (fun _ _ _ h => h) (Or.inl ⟨by rfl, ?_⟩) (by assumption) ?_
        rotate_left
        · intro wS hSw
          try dsimp only at hSw
          go_simp
          try with_reducible rfl
        try simp only [Act.put, List.setIfInBounds_toArray, List.set_cons_zero, List.set_cons_succ]
        have XB := rt_row (accY 2 (atI A T 1 (openP x)) 0 (freedI x)) X2 hnot
        refine wpAnyH_ready (rs := [16]) (by kernel_rfl) (by simp) ?_
        refine AllReadyH.cons rfl (fun K hK => ?_) AllReadyH.nil
        rw [if_pos (by rfl)]
        refine wp_store_row 50 _ _ rfl w.heap.size _ rfl rfl 50 _ BR.h (by kernel_rfl) (by rfl) (by kernel_rfl) ?_
        refine hK.out _ _ ?_ (fun hHeld => ?_)
        · exact hfirst _ XB
        clear hK K
        refine wpAnyH_take (i := 17) (oi := ⟨_, _, _, _, _, _⟩) (v := ?_) rfl (by kernel_rfl) (by kernel_rfl) (by kernel_rfl) (fun _ _ _ h => h) (Or.inl ⟨by rfl, ?_⟩) (by assumption) ?_
        rotate_left
        · intro wS hSw
          try dsimp only at hSw
          go_simp
          try with_reducible rfl
        try simp only [Act.put, List.setIfInBounds_toArray, List.set_cons_zero, List.set_cons_succ]
        refine wpAnyH_done (by kernel_rfl) ?_ _
        go_wp2_with fail
        refine bodyPost_ret (v := .tuple #[.agg (accY 2 (atI A T 1 (openP x)) 0 (freedI x)), .bool true]) (results_cell_tmp rfl _ _ w.heap.size 50 (accY 2 (atI A T 1 (openP x)) 0 (freedI x)) (0, 0) _ (.bool true) rfl rfl (Blk.row BR (accY 2 (atI A T 1 (openP x)) 0 (freedI x))).h Try.underlying50 rfl (by kernel_rfl)) rfl ?_
        exact ⟨_, by rw [hend]; rfl, XB, row_mv hb0 M2⟩
      | nil =>
        have c6 : wr.cell? ⟨t, 6, none⟩ = some (.slice fa 0 fc) := X.head.at 6 rfl
        have ho : outB T ⟨W, 2, a, nm, [], l⟩ = false := by simp [outB]
        obtain ⟨k', rfl, hN2, hr2⟩ := nx_step (r := r) hT.1 (by simp) ho hrk
        rw [show istep r ⟨W, 2, a, nm, [], l⟩ = sweptS r ⟨W, 2, a, nm, [], l⟩ from rfl] at hN2 hr2
        have hN3 : Hid (nrm T r k' (sweptS r ⟨W, 2, a, nm, [], l⟩) = nrm T r 4 s) := Lib.hid (by rw [← hN2]; exact hN.out)
        clear hN hN2 hrk ho
        go_wp2_with fail
        refine (rtswept_any wr X hbwr).mono ?_
        rintro e w2 ⟨d2, rfl, X2, M2⟩
        have M3 := M.trans M2
        clear M M2 X
        go_wp2_with fail
        go_roundg k'
        case measure => omega
        case rel => exact ⟨_, d2, hr2, hN3, X2, M3⟩
end Go.Proofs.Ytchkiacmiljopaa.MemP
