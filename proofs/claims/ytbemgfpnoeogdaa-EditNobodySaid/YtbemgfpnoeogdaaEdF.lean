/-
  edit: Spare: the contract.
-/
import Derived.Test.YtbemgfpnoeogdaaEdE
namespace Go.Proofs.Ytbemgfpnoeogdaa.EdP
open Go.RowKit RefP FoP Dp
set_option linter.unusedVariables false
set_option linter.unusedSimpArgs false
abbrev tkA (S : List Sp) (i : Nat) : Array Value := #[.int .i64 (S.getD i (0, 0)).1, .int .u64 (S.getD i (0, 0)).2]
theorem take_all {w : World} {base o m : Nat} {L : List Kn} {a : Option Addr} {c : Nat} {S : List Sp} {k0 n0 : Int} (V : VwAt w base o m L a c S k0 n0) (i : Nat) (hl : S.length ≤ 100) :
    Calls Try.prog 32 #[.pointer (some ⟨o, 0, none⟩), .int .i64 i] w fun r w' => r = .returned (.tuple #[.agg (tkA S i), .bool (decide (i < S.length))]) ∧ (∃ k n, VwAt w' base o m L a c S k n) ∧ Fr [o] w w' := by
  by_cases hi : i < S.length
  · refine (take_hit V i hi hl).mono ?_
    rintro r w' ⟨rfl, hb⟩
    refine ⟨?_, ⟨_, _, V.under hb⟩, Fr.of_below hb⟩
    rw [decide_eq_true hi, tkA, List.getD_eq_getElem?_getD, List.getElem?_eq_getElem hi]
    rfl
  · refine (take_miss V i (.inr (by omega)) hl).mono ?_
    rintro r w' ⟨rfl, V', F⟩
    refine ⟨?_, ⟨_, _, V'⟩, F⟩
    rw [decide_eq_false hi, tkA, List.getD_eq_getElem?_getD, List.getElem?_eq_none (by omega)]
    rfl
/-- what Spare answers -/
def SpAt (w0 : World) (e o : Nat) (L : List Kn) (S : List Sp) (C : List Ch) (t : Nat) (r : Ending) (w' : World) : Prop :=
  ∃ n bit, r = .returned (.tuple #[.int .i64 n, .bool bit]) ∧ EdIs w0 w' e o L S C (if t < S.length then t + 1 else t)
theorem SpAt.yes {w0 w' : World} {e o : Nat} {L : List Kn} {S : List Sp} {C : List Ch} {t : Nat} (n : Int) (h : t < S.length) (H : EdIs w0 w' e o L S C (t + 1)) : SpAt w0 e o L S C t (.returned (.tuple #[.int .i64 n, .bool true])) w' := ⟨n, true, rfl, by rw [if_pos h]; exact H⟩
theorem SpAt.no {w0 w' : World} {e o : Nat} {L : List Kn} {S : List Sp} {C : List Ch} {t : Nat} (n : Int) (h : ¬ t < S.length) (H : EdIs w0 w' e o L S C t) : SpAt w0 e o L S C t (.returned (.tuple #[.int .i64 n, .bool false])) w' := ⟨n, false, rfl, by rw [if_neg h]; exact H⟩
set_option maxRecDepth 100000 in
set_option maxHeartbeats 3200000 in
theorem espare_any {w0 w : World} {e o : Nat} {L : List Kn} {S : List Sp} {C : List Ch} {t : Nat} (E : EdIs w0 w e o L S C t) :
    Calls Try.prog 11 #[.pointer (some ⟨e, 0, none⟩)] w (SpAt w0 e o L S C t) := by
  obtain ⟨m, a, c, k0, n0, ca, cc, ta, tc, H⟩ := E.ex
  have hol := H.V.lts.1
  have hsl := H.sl
  have hel := H.blk.lt
  have hlts := H.lts
  go_enter Try.func11, Try.ntmps11
  go_wp2_with fail
  refine (nobody_some H.blk).mono ?_
  rintro r w2 ⟨rfl, rfl⟩
  go_upto_region 3 with (fail)
  go_cut [4, 5] (fun v4 v5 W => ∃ X k n, v4 = .pointer (some ⟨X, 0, none⟩) ∧ v5 = .bool (decide (t < S.length)) ∧ X ∉ mutE e o ca ta ∧ Blk W X (tkA S t) 60 ∧ EdAt w0 W e o m L a c S k n C ca cc ta tc t)
  case first =>
    refine wp_region_held_drew (S := fun w' => w'.cell? ⟨e, 0, none⟩ = some (.pointer (some ⟨o, 0, none⟩)) ∧ w'.cell? ⟨e, 2, none⟩ = some (.slice ta t tc)) (by kernel_rfl) ?_ (fun hHeld => ?_)
    · exact ⟨H.blk.drew.at 0 rfl, H.blk.drew.at 2 rfl⟩
    have hb0 : Below w2.heap.size w2 w2.drew := (Below.refl _ _).drew
    refine wpAnyH_take (i := 0) (oi := ⟨_, _, _, _, _, _⟩) (v := ?_) rfl (by kernel_rfl) (by kernel_rfl) (by kernel_rfl) (fun _ _ _ h => h) (Or.inl ⟨by rfl, ?_⟩) (by assumption) ?_
    rotate_left
    · intro wS hSw
      try dsimp only at hSw
      go_simp
      try with_reducible rfl
    try simp only [Act.put, List.setIfInBounds_toArray, List.set_cons_zero, List.set_cons_succ]
    refine wpAnyH_take (i := 1) (oi := ⟨_, _, _, _, _, _⟩) (v := ?_) rfl (by kernel_rfl) (by kernel_rfl) (by kernel_rfl) (fun _ _ _ h => h) (Or.inl ⟨by rfl, ?_⟩) (by assumption) ?_
    rotate_left
    · intro wS hSw
      try dsimp only at hSw
      go_simp
      try with_reducible rfl
    try simp only [Act.put, List.setIfInBounds_toArray, List.set_cons_zero, List.set_cons_succ]
    refine wpAnyH_take (i := 2) (oi := ⟨_, _, _, _, _, _⟩) (v := ?_) rfl (by kernel_rfl) (by kernel_rfl) (by kernel_rfl) (fun _ _ _ h => h) (Or.inl ⟨by rfl, ?_⟩) (by assumption) ?_
    rotate_left
    · intro wS hSw
      try dsimp only at hSw
      go_simp
      try with_reducible rfl
    try simp only [Act.put, List.setIfInBounds_toArray, List.set_cons_zero, List.set_cons_succ]
    refine wpAnyH_take (i := 3) (oi := ⟨_, _, _, _, _, _⟩) (v := ?_) rfl (by kernel_rfl) (by kernel_rfl) (by kernel_rfl) (fun _ _ _ h => h) (Or.inl ⟨by rfl, ?_⟩) (by assumption) ?_
    rotate_left
    · intro wS hSw
      try dsimp only at hSw
      go_simp
      try with_reducible rfl
    try simp only [Act.put, List.setIfInBounds_toArray, List.set_cons_zero, List.set_cons_succ]
    refine wpAnyH_take (i := 4) (oi := ⟨_, _, _, _, _, _⟩) (v := ?_) rfl (by kernel_rfl) (by kernel_rfl) (by kernel_rfl) (fun _ _ _ h => h) (Or.inl ⟨by rfl, ?_⟩) (by assumption) ?_
    rotate_left
    · intro wS hSw
      try dsimp only at hSw
      go_simp
      try with_reducible rfl
    try simp only [Act.put, List.setIfInBounds_toArray, List.set_cons_zero, List.set_cons_succ]
    refine wpAnyH_take (i := 5) (oi := ⟨_, _, _, _, _, _⟩) (v := ?_) rfl (by kernel_rfl) (by kernel_rfl) (by kernel_rfl) (fun _ _ _ h => h) (Or.inl ⟨by rfl, ?_⟩) (by assumption) ?_
    rotate_left
    · intro wS hSw
      try dsimp only at hSw
      go_simp
      try with_reducible rfl
    try simp only [Act.put, List.setIfInBounds_toArray, List.set_cons_zero, List.set_cons_succ]
    refine wpAnyH_take (i := 6) (oi := ⟨_, _, _, _, _, _⟩) (v := ?_) rfl (by kernel_rfl) (by kernel_rfl) (by kernel_rfl) (fun _ _ _ h => h) (Or.inl ⟨by rfl, ?_⟩) (by assumption) ?_
    rotate_left
    · intro wS hSw
      try dsimp only at hSw
      go_simp
      try with_reducible rfl
    try simp only [Act.put, List.setIfInBounds_toArray, List.set_cons_zero, List.set_cons_succ]
    refine wpAnyH_take (i := 7) (oi := ⟨_, _, _, _, _, _⟩) (v := ?_) rfl (by kernel_rfl) (by kernel_rfl) (by kernel_rfl) (fun _ _ _ h => h) (Or.inl ⟨by rfl, ?_⟩) (by assumption) ?_
    rotate_left
    · intro wS hSw
      try dsimp only at hSw
      go_simp
      try with_reducible rfl
    try simp only [Act.put, List.setIfInBounds_toArray, List.set_cons_zero, List.set_cons_succ]
    refine wpAnyH_take (i := 8) (oi := ⟨_, _, _, _, _, _⟩) (v := ?_) rfl (by kernel_rfl) (by kernel_rfl) (by kernel_rfl) (fun _ _ _ h => h) (Or.inl ⟨by rfl, ?_⟩) (by assumption) ?_
    rotate_left
    · intro wS hSw
      try dsimp only at hSw
      go_simp
      try with_reducible rfl
    try simp only [Act.put, List.setIfInBounds_toArray, List.set_cons_zero, List.set_cons_succ]
    refine wpAnyH_ready (rs := [9, 13]) (by kernel_rfl) (by simp) ?_
    refine AllReadyH.cons rfl (fun K hK => ?_) (AllReadyH.cons rfl (fun K hK => ?_) AllReadyH.nil)
    · go_simp
      refine (take_all (H.V.under hb0) t hsl).mono ?_
      rintro r w3 ⟨rfl, ⟨k1, n1, V3⟩, F3⟩
      have F23 := (Fr.of_below (S := [o]) hb0).trans F3
      have H3 := H.view F23 V3
      have hge := F23.size
      generalize decide (t < S.length) = bit at *
      refine hK.out _ _ ⟨H3.blk.at 0 rfl, H3.blk.at 2 rfl⟩ (fun hHeld => ?_)
      clear hK K
      refine wpAnyH_take (i := 10) (oi := ⟨_, _, _, _, _, _⟩) (v := ?_) rfl (by kernel_rfl) (by kernel_rfl) (by kernel_rfl) (fun _ _ _ h => h) (Or.inl ⟨by rfl, ?_⟩) (by assumption) ?_
      rotate_left
      · intro wS hSw
        try dsimp only at hSw
        go_simp
        try with_reducible rfl
      try simp only [Act.put, List.setIfInBounds_toArray, List.set_cons_zero, List.set_cons_succ]
      refine wpAnyH_take (i := 11) (oi := ⟨_, _, _, _, _, _⟩) (v := ?_) rfl (by kernel_rfl) (by kernel_rfl) (by kernel_rfl) (fun _ _ _ h => h) (Or.inl ⟨by rfl, ?_⟩) (by assumption) ?_
      rotate_left
      · intro wS hSw
        try dsimp only at hSw
        go_simp
        try with_reducible rfl
      try simp only [Act.put, List.setIfInBounds_toArray, List.set_cons_zero, List.set_cons_succ]
      refine wpAnyH_take (i := 12) (oi := ⟨_, _, _, _, _, _⟩) (v := ?_) rfl (by kernel_rfl) (by kernel_rfl) (by kernel_rfl) (fun _ _ _ h => h) (Or.inl ⟨by rfl, ?_⟩) (by assumption) ?_
      rotate_left
      · intro wS hSw
        try dsimp only at hSw
        go_simp
        try with_reducible rfl
      try simp only [Act.put, List.setIfInBounds_toArray, List.set_cons_zero, List.set_cons_succ]
      refine wpAnyH_ready (rs := [13]) (by kernel_rfl) (by simp) ?_
      refine AllReadyH.cons rfl (fun K hK => ?_) AllReadyH.nil
      go_simp
      have hbx : Below w3.heap.size w3 (w3.alloc (.cells sz 60)) := by (repeat (first | exact Below.refl _ _ | assumption | refine below_alloc2 ?_ (by first | exact Nat.le_refl _ | omega) _ | refine Below.drew ?_ | refine below_drewN ?_ _ | refine below_push2 ?_ ‹_› (by first | exact Nat.le_refl _ | omega) | refine Below.setCell ?_ (by first | (simp; done) | (simp; omega) | omega) _))
      have BX := Blk.new w3 sz 60
      have V4 := V3.under hbx
      have F24 := F23.trans (Fr.of_below hbx)
      have H4 := H.view F24 V4
      refine hK.out _ _ ⟨H4.blk.at 0 rfl, H4.blk.at 2 rfl⟩ (fun hHeld => ?_)
      clear hK K
      refine wpAnyH_ready (rs := [14]) (by kernel_rfl) (by simp) ?_
      refine AllReadyH.cons rfl (fun K hK => ?_) AllReadyH.nil
      rw [if_pos (by rfl)]
      refine wp_store_row 60 _ _ rfl (w3.heap.size) _ rfl rfl 60 _ (BX).h (by kernel_rfl) (by rfl) (by kernel_rfl) ?_
      have BXf := Blk.row BX (tkA S t)
      have Hf := H.view (F24.rowNew (w3.heap.size) (tkA S t) (hge)) (H.V.row V4 (w3.heap.size) (tkA S t) (hge))
      refine hK.out _ _ ⟨Hf.blk.at 0 rfl, Hf.blk.at 2 rfl⟩ (fun hHeld => ?_)
      clear hK K
      refine wpAnyH_take (i := 15) (oi := ⟨_, _, _, _, _, _⟩) (v := ?_) rfl (by kernel_rfl) (by kernel_rfl) (by kernel_rfl) (fun _ _ _ h => h) (Or.inl ⟨by rfl, ?_⟩) (by assumption) ?_
      rotate_left
      · intro wS hSw
        try dsimp only at hSw
        go_simp
        try with_reducible rfl
      try simp only [Act.put, List.setIfInBounds_toArray, List.set_cons_zero, List.set_cons_succ]
      refine wpAnyH_done (by kernel_rfl) ?_ _
      go_wp2_with fail
      go_meet
      exact ⟨_, _, _, rfl, rfl, fun h => absurd (hlts _ h) (Nat.not_lt.2 (hge)), BXf, Hf⟩
    · go_simp
      have hbx : Below w2.heap.size w2 (w2.alloc (.cells sz 60)).drew := ((Below.refl _ _).alloc (Nat.le_refl _) _).drew
      have BX := (Blk.new w2 sz 60).drew
      have V3 := H.V.under hbx
      have F23 := Fr.of_below (S := [o]) hbx
      have H3 := H.view F23 V3
      have hlx := BX.lt
      refine hK.out _ _ ⟨H3.blk.at 0 rfl, H3.blk.at 2 rfl⟩ (fun hHeld => ?_)
      clear hK K
      generalize (w2.alloc (.cells sz 60)).drew = w3 at hbx BX V3 F23 H3 hlx ⊢
      refine wpAnyH_ready (rs := [9]) (by kernel_rfl) (by simp) ?_
      refine AllReadyH.cons rfl (fun K hK => ?_) AllReadyH.nil
      go_simp
      refine (take_all V3 t hsl).mono ?_
      rintro r w4 ⟨rfl, ⟨k1, n1, V4⟩, F4⟩
      have F24 := F23.trans F4
      have H4 := H.view F24 V4
      have BX4 := F4.blk BX (by simp; omega)
      generalize decide (t < S.length) = bit at *
      refine hK.out _ _ ⟨H4.blk.at 0 rfl, H4.blk.at 2 rfl⟩ (fun hHeld => ?_)
      clear hK K
      refine wpAnyH_take (i := 10) (oi := ⟨_, _, _, _, _, _⟩) (v := ?_) rfl (by kernel_rfl) (by kernel_rfl) (by kernel_rfl) (fun _ _ _ h => h) (Or.inl ⟨by rfl, ?_⟩) (by assumption) ?_
      rotate_left
      · intro wS hSw
        try dsimp only at hSw
        go_simp
        try with_reducible rfl
      try simp only [Act.put, List.setIfInBounds_toArray, List.set_cons_zero, List.set_cons_succ]
      refine wpAnyH_take (i := 11) (oi := ⟨_, _, _, _, _, _⟩) (v := ?_) rfl (by kernel_rfl) (by kernel_rfl) (by kernel_rfl) (fun _ _ _ h => h) (Or.inl ⟨by rfl, ?_⟩) (by assumption) ?_
      rotate_left
      · intro wS hSw
        try dsimp only at hSw
        go_simp
        try with_reducible rfl
      try simp only [Act.put, List.setIfInBounds_toArray, List.set_cons_zero, List.set_cons_succ]
      refine wpAnyH_take (i := 12) (oi := ⟨_, _, _, _, _, _⟩) (v := ?_) rfl (by kernel_rfl) (by kernel_rfl) (by kernel_rfl) (fun _ _ _ h => h) (Or.inl ⟨by rfl, ?_⟩) (by assumption) ?_
      rotate_left
      · intro wS hSw
        try dsimp only at hSw
        go_simp
        try with_reducible rfl
      try simp only [Act.put, List.setIfInBounds_toArray, List.set_cons_zero, List.set_cons_succ]
      refine wpAnyH_ready (rs := [14]) (by kernel_rfl) (by simp) ?_
      refine AllReadyH.cons rfl (fun K hK => ?_) AllReadyH.nil
      rw [if_pos (by rfl)]
      refine wp_store_row 60 _ _ rfl (w2.heap.size) _ rfl rfl 60 _ (BX4).h (by kernel_rfl) (by rfl) (by kernel_rfl) ?_
      have BXf := Blk.row BX4 (tkA S t)
      have Hf := H.view (F24.rowNew (w2.heap.size) (tkA S t) (Nat.le_refl _)) (H.V.row V4 (w2.heap.size) (tkA S t) (Nat.le_refl _))
      refine hK.out _ _ ⟨Hf.blk.at 0 rfl, Hf.blk.at 2 rfl⟩ (fun hHeld => ?_)
      clear hK K
      refine wpAnyH_take (i := 15) (oi := ⟨_, _, _, _, _, _⟩) (v := ?_) rfl (by kernel_rfl) (by kernel_rfl) (by kernel_rfl) (fun _ _ _ h => h) (Or.inl ⟨by rfl, ?_⟩) (by assumption) ?_
      rotate_left
      · intro wS hSw
        try dsimp only at hSw
        go_simp
        try with_reducible rfl
      try simp only [Act.put, List.setIfInBounds_toArray, List.set_cons_zero, List.set_cons_succ]
      refine wpAnyH_done (by kernel_rfl) ?_ _
      go_wp2_with fail
      go_meet
      exact ⟨_, _, _, rfl, rfl, fun h => absurd (hlts _ h) (Nat.not_lt.2 (Nat.le_refl _)), BXf, Hf⟩
  case rest =>
    obtain ⟨X, k, n, rfl, rfl, hXm, BX, H3⟩ := hcut
    by_cases hts : t < S.length
    · rw [decide_eq_true hts] at *
      obtain ⟨s, hs⟩ : ∃ s, s = S[t] := ⟨_, rfl⟩
      have hbs : tkA S t = #[.int .i64 s.1, .int .u64 s.2] := by
        rw [tkA, List.getD_eq_getElem?_getD, List.getElem?_eq_getElem hts, hs]; rfl
      rw [hbs] at BX
      have hsi := H3.si s (by rw [hs]; exact List.getElem_mem hts)
      have hb7 : Below wc.heap.size wc (wc.alloc (.cells #[.int .i64 s.1, .int .u64 s.2] 60)).drew := ((Below.refl _ _).alloc (Nat.le_refl _) _).drew
      have H7 := H3.under hb7
      have hbase : w0.heap.size ≤ (wc.alloc (.cells #[.int .i64 s.1, .int .u64 s.2] 60)).drew.heap.size := H7.b.size
      have htl : (S.take t).length = t := by rw [List.length_take]; omega
      obtain ⟨g, cap, w8, A⟩ := OwnV.addLit tinSpare (by decide) H7.tk (Blk.new wc #[.int .i64 s.1, .int .u64 s.2] 60).drew (x := s) (show spC.rep _ _ (spL s) s from spC_mk hsi.1 hsi.2) (by omega) (by decide) hbase
      have hr := A.run
      rw [htl] at hr
      replace hr := Lib.hid hr
      have H9 := H7.took hts (by rw [← hs]; exact A)
      have E8 := A.fr.blk H7.blk H7.ge.2.2.2.2.2
      simp only [List.mem_cons, List.mem_append, not_or] at hXm
      have B9 := Blk.far (A.fr.blk (BX.below hb7) hXm.2.2.2) ⟨e, 2, none⟩ (.slice (some ⟨g, 0, none⟩) (t + 1) cap) hXm.1
      have y0 := B9.at 0 rfl
      have e2 := H3.blk.at 2 rfl
      have x0 := BX.at 0 rfl
      have x1 := BX.at 1 rfl
      have s1 := E8.at 2 rfl
      have g1 := E8.free 2
      have hel' := H3.blk.lt
      have hxl := BX.lt
      replace H9 := Lib.hid H9
      replace hs := Lib.hid hs
      clear A E8 H7 hbase hb7 hbs B9
      apply_assumption
      go_upto_region 6 with (fail)
      go_region_law (refine step_append_run hr.out rfl (by rfl) (by rfl) (by rfl) ?_)
      all_goals
        go_wp2_with fail
        refine bodyPost_ret (results_tmp2 rfl _ _ _) rfl ?_
        exact SpAt.yes _ hts ⟨m, a, c, _, _, ca, cc, _, _, H9.out⟩
    · rw [decide_eq_false hts] at *
      apply_assumption
      go_wp2_with fail
      refine bodyPost_ret (results_tmp2 rfl _ _ _) rfl ?_
      exact SpAt.no _ hts ⟨m, a, c, _, _, ca, cc, ta, tc, H3⟩
end Go.Proofs.Ytbemgfpnoeogdaa.EdP
