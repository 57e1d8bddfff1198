/-
  PlanFills: the law's walk.
-/
import Derived.Test.YtnecikholpiefaaPlanN
import Derived.Test.YtnecikholpiefaaDeepSame2
namespace Go.Proofs.Ytnecikholpiefaa.Dp
open Go.RowKit RefP FoP Go.Sort
set_option linter.unusedVariables false
set_option linter.unusedSimpArgs false
theorem filled_at {w : World} {S : List Nat} {h : Hd} {xs : List (Int × BlockV)} (H : HRow filledT w S h xs) (k : Nat) (hk : k < xs.length) : ∃ b off q, h.a = some ⟨b, off, none⟩ ∧ b < w.heap.size ∧ w.cell? ⟨b, off + k * 18, none⟩ = some (.int .u64 xs[k].1) ∧ w.rangeAt b (off + k * 18 + 1) (blockA q xs[k].2).toList ∧ BlockOk w S q xs[k].2 ∧ U64 xs[k].1 := by
  obtain ⟨b, off, e, hb, _, hc⟩ := H.row (by omega)
  obtain ⟨cs, hr, hv⟩ := hc k xs[k] (List.getElem?_eq_getElem hk)
  obtain ⟨q, rfl, hu, hok⟩ := filledT_of hr
  refine ⟨b, off, q, e, hb, hv 0 _ rfl, fun j v hj => ?_, hok, hu⟩
  have := hv (1 + j) v (by rw [Nat.add_comm]; exact hj)
  rw [filledT_k, ← Nat.add_assoc] at this
  exact this
theorem block_at {w : World} {S : List Nat} {h : Hd} {xs : List BlockV} (H : HRow blockT w S h xs) (k : Nat) (hk : k < xs.length) : ∃ b off q, h.a = some ⟨b, off, none⟩ ∧ b < w.heap.size ∧ w.rangeAt b (off + k * 17) (blockA q xs[k]).toList ∧ BlockOk w S q xs[k] := by
  obtain ⟨b, off, e, hb, _, hc⟩ := H.row (by omega)
  obtain ⟨cs, hr, hv⟩ := hc k xs[k] (List.getElem?_eq_getElem hk)
  obtain ⟨q, rfl, hok⟩ := blockT_of hr
  exact ⟨b, off, q, e, hb, hv, hok⟩
theorem askOk_more {w : World} {S S' : List Nat} {q : AskH} {x : AskV} (h : AskOk w S q x) (k : ∀ b ∈ S', b ∈ S ∨ w.heap.size ≤ b) : AskOk w S' q x := ⟨⟨h.a.code, h.a.key, h.a.val, h.a.pairs.more k⟩, h.c.more k, h.words.more k, h.thread, h.fan⟩
theorem light_parts {x : AskV} (h : lightK x = true) : x.c.length ≤ 60 ∧ x.a.pairs.length ≤ 300 ∧ x.words.length ≤ 300 := by
  unfold lightK at h
  simp only [Bool.and_eq_true, decide_eq_true_eq] at h
  exact h.2
set_option maxRecDepth 100000 in
set_option maxHeartbeats 3200000 in
theorem fills_walk (q : AskH) (x : AskV) (w : World) (H : AskOk w [] q x) : Calls Try.prog 3 #[.agg (askA q x)] w fun e w' => e = .returned (.bool true) ∧ Below w.heap.size w w' := by
  have hb0 : Below w.heap.size w (w.alloc (.cells (askA q x) 29)) := by (repeat (first | exact Below.refl _ _ | assumption | refine below_alloc2 ?_ (by first | exact Nat.le_refl _ | omega) _ | refine Below.drew ?_ | refine below_drewN ?_ _ | refine below_push2 ?_ ‹_› (by first | exact Nat.le_refl _ | omega) | refine Below.setCell ?_ (by first | (simp; done) | (simp; omega) | omega) _))
  have BX := Blk.new w (askA q x) 29
  obtain ⟨X, hX⟩ : ∃ b, b = w.heap.size := ⟨_, rfl⟩
  go_enter Try.func3, Try.ntmps3
  go_upto_region 1 with (fail)
  rw [← hX] at BX ⊢
  replace hX := Lib.hid hX
  generalize w.alloc (.cells (askA q x) 29) = w1 at hb0 BX ⊢
  have a0 := BX.at 0 rfl
  have a1 := BX.at 1 rfl
  have a2 := BX.at 2 rfl
  have a3 := BX.at 3 rfl
  have a4 := BX.at 4 rfl
  have a5 := BX.at 5 rfl
  have a6 := BX.at 6 rfl
  have a7 := BX.at 7 rfl
  go_wp2_with fail
  refine (show Calls _ _ _ _ _ from light34_any [] q x _ (H.keep (Keeps.of_below hb0))).mono ?_
  rintro e w2 ⟨rfl, hb2⟩
  replace hb0 := below_push2 hb0 hb2 (Nat.le_refl _)
  replace BX := BX.below hb2
  clear a0 a1 a2 a3 a4 a5 a6 a7 hb2
  cases hl : lightK x
  · replace hl := Lib.hid hl
    go_wp2_with fail
    refine (plives_any _).mono ?_
    rintro e w3 ⟨rfl, hb3⟩
    go_wp2_with fail
    go_ret
    exact ⟨rfl, below_push2 hb0 hb3 (Nat.le_refl _)⟩
  obtain ⟨l1, l2, l3⟩ := light_parts hl
  replace hl := Lib.hid hl
  have a0 := BX.at 0 rfl
  have a1 := BX.at 1 rfl
  have a2 := BX.at 2 rfl
  have a3 := BX.at 3 rfl
  have a4 := BX.at 4 rfl
  have a5 := BX.at 5 rfl
  have a6 := BX.at 6 rfl
  have a7 := BX.at 7 rfl
  have H2 := H.keep (Keeps.of_below hb0)
  cases hm : mayK x
  · have k1 := pfill_no [] q x w2 H2 l1 l2 l3 hm
    replace hm := Lib.hid hm
    go_wp2_with fail
    refine (show Calls _ _ _ _ _ from k1).mono ?_
    rintro e w3 ⟨rfl, hb3⟩
    clear k1 a0 a1 a2 a3 a4 a5 a6 a7
    replace hb0 := below_push2 hb0 hb3 (Nat.le_refl _)
    replace BX := BX.below hb3
    have a0 := BX.at 0 rfl
    have a1 := BX.at 1 rfl
    have a2 := BX.at 2 rfl
    have a3 := BX.at 3 rfl
    have a4 := BX.at 4 rfl
    have a5 := BX.at 5 rfl
    have a6 := BX.at 6 rfl
    have a7 := BX.at 7 rfl
    have k2 := rmay_any [] q x w3 (H.keep (Keeps.of_below hb0)) l1 l2 l3
    rw [hm.out] at k2
    go_wp2_with fail
    refine (show Calls _ _ _ _ _ from k2).mono ?_
    rintro e w4 ⟨rfl, hb4⟩
    replace hb0 := below_push2 hb0 hb4 (Nat.le_refl _)
    clear k2 a0 a1 a2 a3 a4 a5 a6 a7
    go_wp2_with fail
    refine (plives_any _).mono ?_
    rintro e w5 ⟨rfl, hb5⟩
    go_wp2_with fail
    go_ret
    exact ⟨rfl, below_push2 hb0 hb5 (Nat.le_refl _)⟩
  · have k1 := pfill_yes [] q x w2 H2 l1 l2 l3 hm
    replace hm := Lib.hid hm
    go_wp2_with fail
    refine (show Calls _ _ _ _ _ from k1).mono ?_
    rintro e w3 ⟨la, lc, rfl, HL, hb3⟩
    clear k1 a0 a1 a2 a3 a4 a5 a6 a7
    have hlen : Hid ((x.words.zip (fillV x)).length = (fillV x).length) := Lib.hid (by
      have := fillV_length x
      obtain ⟨f, hf, f0, f1, hwl, hfr⟩ := may_parts hm.out
      unfold costK at this
      rw [hf, Int.toNat_natCast] at this
      rw [List.length_zip]; omega)
    have hel : Hid (∀ k (h1 : k < (x.words.zip (fillV x)).length) (h2 : k < (fillV x).length) (h3 : k < x.words.length), (x.words.zip (fillV x))[k] = (x.words[k], (fillV x)[k])) := Lib.hid (fun k h1 h2 h3 => by simp)
    have hwn : Hid ((fillV x).length ≤ x.words.length) := Lib.hid (by
      have := hlen.out
      rw [List.length_zip] at this; omega)
    replace hb0 := below_push2 hb0 hb3 (Nat.le_refl _)
    replace BX := BX.below hb3
    have a0 := BX.at 0 rfl
    have a1 := BX.at 1 rfl
    have a2 := BX.at 2 rfl
    have a3 := BX.at 3 rfl
    have a4 := BX.at 4 rfl
    have a5 := BX.at 5 rfl
    have a6 := BX.at 6 rfl
    have a7 := BX.at 7 rfl
    have H3 := H.keep (Keeps.of_below hb0)
    have k2 := rmay_any [] q x w3 H3 l1 l2 l3
    rw [hm.out] at k2
    generalize hLz : x.words.zip (fillV x) = L at HL hlen hel ⊢
    replace hLz := Lib.hid hLz
    go_wp2_with fail
    refine (show Calls _ _ _ _ _ from k2).mono ?_
    rintro e w4 ⟨rfl, hb4⟩
    replace hb0 := below_push2 hb0 hb4 (Nat.le_refl _)
    replace BX := BX.below hb4
    replace HL := HL.keep (Keeps.of_below hb4)
    clear k2 a0 a1 a2 a3 a4 a5 a6 a7 H2 H3
    have a0 := BX.at 0 rfl
    have a1 := BX.at 1 rfl
    have a2 := BX.at 2 rfl
    have a3 := BX.at 3 rfl
    have a4 := BX.at 4 rfl
    have a5 := BX.at 5 rfl
    have a6 := BX.at 6 rfl
    have a7 := BX.at 7 rfl
    have k3 := rfill_any [] q x w4 (H.keep (Keeps.of_below hb0)) l1 l2 l3 hm.out
    go_wp2_with fail
    refine (show Calls _ _ _ _ _ from k3).mono ?_
    rintro e w5 ⟨ra, rc, rfl, HR, hb5⟩
    replace hb0 := below_push2 hb0 hb5 (Nat.le_refl _)
    replace BX := BX.below hb5
    replace HL := HL.keep (Keeps.of_below hb5)
    clear k3 a0 a1 a2 a3 a4 a5 a6 a7
    generalize hF : fillV x = F at HR hlen hel hwn hLz ⊢
    replace hF := Lib.hid hF
    have hl1 : L.length ≤ F.length := Nat.le_of_eq hlen.out
    have hl2 : F.length ≤ L.length := Nat.le_of_eq hlen.out.symm
    have hl3 : F.length ≤ x.words.length := hwn.out
    rw [hlen.out]
    go_wp2_with fail
    go_loopw [69] (fun i wr => ∃ k : Nat, k ≤ F.length ∧ i = .int .i64 k ∧ Below w5.heap.size w5 wr) (fun i _ => F.length - (intOf i).toNat)
    case atStart => exact ⟨0, Nat.zero_le _, rfl, Below.refl _ _⟩
    case round =>
      obtain ⟨k, hk, rfl, hb⟩ := hrel
      by_cases hlt : k < F.length
      · have hlt' : (k : Int) < (F.length : Int) := by omega
        have hltw' : (k : Int) < (x.words.length : Int) := by omega
        obtain ⟨br, or_, qr, hra, hrb, hrc, hrok⟩ := block_at (HR.keep (Keeps.of_below hb)) k hlt
        simp only at hra
        subst hra
        have hel' := hel.out k (by omega) hlt (by omega)
        have hby : Below wr.heap.size wr (wr.alloc (.cells (blockA qr F[k]) 48)) := (Below.refl _ _).alloc (Nat.le_refl _) _
        have BY := Blk.new wr (blockA qr F[k]) 48
        have hb6 := below_push2 hb hby (Nat.le_refl _)
        have hb06 := below_push2 hb0 hb6 (Nat.le_refl _)
        have BX6 := BX.below hb6
        obtain ⟨bl, ol, ql, hla, hlb, hlw, hlc, hlok, hlu⟩ := filled_at (HL.keep (Keeps.of_below hb6)) k (by omega)
        obtain ⟨bw, ow, hwa, hwb, hwc, hwu⟩ := word_cell (H.words.keep (Keeps.of_below hb06)) k (by omega)
        simp only at hla
        subst hla
        replace hwa := Lib.hid hwa
        rw [hel'] at hlw hlc hlok
        simp only at hlw hlc hlok
        have hrok6 := hrok.keep (Keeps.of_below hby)
        generalize x.words[k] = wd at hlw hwc
        generalize F[k] = y at hrc hrok hrok6 hby BY hlc hlok hb6 hb06 BX6 hlw hwc hlb hwb
        obtain ⟨Y, hY⟩ : ∃ b, b = wr.heap.size := ⟨_, rfl⟩
        go_upto_region 12 with (first
          | (refine wpList_load_mid rfl 48 _ rfl br (or_ + k * 17) rfl (blockA qr y).toList _ hrc Try.underlying48 rfl (by kernel_rfl) ?_)
          | (refine wpList_store_row rfl 48 _ _ rfl _ _ rfl rfl 48 _ (Blk.new wr _ _).h (by kernel_rfl) (by rfl) (by kernel_rfl) ?_; rw [World.setRow_alloc_new]))
        rw [← hY] at BY ⊢
        generalize wr.alloc (.cells (blockA qr y) 48) = w6 at hby BY hb6 hb06 BX6 hlb hlw hlc hlok hwb hwc hrok6 ⊢
        have x5 : w6.cell? ⟨X, 5, none⟩ = some (.slice (some ⟨bw, ow, none⟩) x.words.length q.words.c) := by rw [← hwa.out]; exact BX6.at 5 rfl
        have P1 := cell_regrown hlw
        have P2 := cell_regrown x5
        have P3 := cell_regrown hwc
        have rL := QuietRow.range_regrown hlc
        have rY := QuietRow.range_regrown (blk_range BY)
        have kS := fun d os => Calls.regrown_of (sameB_any [] [] ql qr y y (grow (redrawn w6 d) os) (hlok.keep (Keeps.of_below (below_regrown w6 d os))) (hrok6.keep (Keeps.of_below (below_regrown w6 d os))))
        rw [show decide (y = y) = true from by simp] at kS
        have hne : (wd != wd) = false := by simp
        clear hrc hrok hrok6 hby BY hlc hlok hb06 BX6 hlw hwc hlb hwb x5 hel' hlu hwu hwa
        try simp only [Act.put]
        refine wp_region_quiet_below (by kernel_rfl) (by kernel_rfl) ?_
        iterate 21 (first
          | go_big_quiet_skip
          | (go_big_quiet_want; first
            | ((first
                | (refine QuietRow.quiet_load_arr 48 _ rfl bl (ol + k * 18 + 1) rfl (blockA ql y) _ rL Try.underlying48 rfl (by kernel_rfl) ?_)
                | (refine QuietRow.quiet_load_arr 48 _ rfl Y 0 rfl (blockA qr y) _ rY Try.underlying48 rfl (by kernel_rfl) ?_)); simp only [Act.put, List.setIfInBounds_toArray, List.set_cons_succ, List.set_cons_zero]; go_big_quiet_on)
            | (go_big_quiet_op; first | go_big_quiet_on | go_big_quiet_call (with_reducible exact kS _ _))))
        refine wpQuiet_nil ?_
        intro w7 hw'
        have hb7 := RefP.below_of_regrown hw'
        clear hw' P1 P2 P3 rL rY kS
        go_wp2_with fail
        go_roundw
        case rel => exact ⟨k + 1, by omega, by go_num, below_push2 hb6 hb7 (Nat.le_refl _)⟩
        case measure => simp [intOf]; omega
      · obtain rfl : k = F.length := by omega
        go_wp2_with fail
        refine (plives_any _).mono ?_
        rintro e w7 ⟨rfl, hb7⟩
        go_wp2_with fail
        go_ret
        exact ⟨rfl, below_push2 hb0 (below_push2 hb hb7 (Nat.le_refl _)) (Nat.le_refl _)⟩
end Go.Proofs.Ytnecikholpiefaa.Dp
