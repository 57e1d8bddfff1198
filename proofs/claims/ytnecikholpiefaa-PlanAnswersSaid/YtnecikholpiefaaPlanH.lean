/-
  plan.steps: contract.
-/
import Derived.Test.YtnecikholpiefaaPlanG
namespace Go.Proofs.Ytnecikholpiefaa.Dp
open Go.RowKit RefP FoP
set_option linter.unusedVariables false
set_option linter.unusedSimpArgs false
def StepsAt (w : World) (S : List Nat) (hb : Nat) (l : List ChangeV) (ws : List Int) (e : Ending) (w' : World) : Prop :=
  ∃ a1 c1 a2 c2, e = .returned (.tuple #[.slice a1 (ws.zip (fsAll ws l).out).length c1, .slice a2 (fsAll ws l).st.length c2]) ∧ PS w w' S hb ws (fullN l) (ws.zip (fsAll ws l).out) (fsAll ws l).st a1 c1 a2 c2
set_option maxRecDepth 100000 in
set_option maxHeartbeats 3200000 in
theorem psteps_any (S : List Nat) (q : Hd) (l : List ChangeV) (hb : Nat) (ws : List Int) (w : World) (H : HRow changeT w S q l) (l1 : l.length ≤ 60) (hfr : fromsB l = true) (HH : Hand w w S hb ws 0) (hn : fullN l ≤ ws.length) (hu : ∀ x ∈ ws, U64 x) :
    Calls Try.prog 23 #[.slice q.a l.length q.c, nextV hb] w fun e w' => StepsAt w S hb l ws e w' := by
  go_enter Try.func23, Try.ntmps23
  go_wp2_with fail
  go_loopw [4, 5, 11] (fun v4 v5 i wr => ∃ (k : Nat) (a1 : Option Addr) (c1 : Nat) (a2 : Option Addr) (c2 : Nat), k ≤ l.length ∧ i = .int .i64 k ∧ v4 = .slice a1 (ws.zip (fsAll ws (l.take k)).out).length c1 ∧ v5 = .slice a2 (fsAll ws (l.take k)).st.length c2 ∧ PS w wr S hb ws (fullN (l.take k)) (ws.zip (fsAll ws (l.take k)).out) (fsAll ws (l.take k)).st a1 c1 a2 c2) (fun _ _ i _ => l.length - (intOf i).toNat)
  case atStart => exact ⟨0, none, 0, none, 0, Nat.zero_le _, rfl, by simp [fsAll], by simp [fsAll], by simpa [fullN] using HH, by simpa [fsAll] using OwnV.nil _ _ _ _ _, by simpa [fsAll] using OwnV.nil _ _ _ _ _, by simp [ob]⟩
  case round =>
    obtain ⟨k, a1, c1, a2, c2, hk, rfl, rfl, rfl, P⟩ := hrel
    by_cases hlt : k < l.length
    · have hlt' : (k : Int) < (l.length : Int) := by omega
      obtain ⟨b, off, qn, ha, hbl, hbS, hcs0, hok⟩ := change_out H k hlt
      have hcs := range_keep hcs0 P.h.keeps hbl hbS
      rw [ha]
      have hfm := froms_at hfr k hlt
      have hS := fsAll_take ws l k hlt
      have hN : fullN (l.take (k + 1)) = fullN (l.take k) + if l[k].empty = true then 0 else 1 := by
        rw [List.take_succ_eq_append_getElem hlt, fullN_snoc]
      obtain ⟨hn2, hn1⟩ := fsAll_len ws l k hk
      have hlo : l[k].empty = false → fullN (l.take k) < ws.length := fun e => Nat.lt_of_lt_of_le (fullN_lt l k hlt e) hn
      have hm60 : fullN (l.take k) ≤ 60 := by
        have := fullN_le (l.take k)
        rw [List.length_take] at this; omega
      replace hS := Lib.hid hS
      replace hN := Lib.hid hN
      generalize fullN (l.take k) = m at hN hn1 hlo P hm60
      generalize hs : fsAll ws (l.take k) = s at hS hn1 hn2 P
      generalize l[k] = c at hcs hok hfm hS hN hlo
      have hzl := zip_len ws s.out
      generalize hL1 : ws.zip s.out = L1 at P hzl
      generalize hL2 : s.st = L2 at P hn2
      replace hs := Lib.hid hs
      replace hL1 := Lib.hid hL1
      replace hL2 := Lib.hid hL2
      replace hn1 := Lib.hid hn1
      replace hn2 := Lib.hid hn2
      go_upto_region 5 with (first
            | (refine wpList_load_mid rfl 60 _ rfl b (off + k * 14) rfl (changeA qn c).toList _ hcs Try.underlying60 rfl (by kernel_rfl) ?_)
            | (refine wpList_store_row rfl 60 _ _ rfl _ _ rfl rfl 60 _ (Blk.new wr _ _).h (by kernel_rfl) (by rfl) (by kernel_rfl) ?_; rw [World.setRow_alloc_new]))
      obtain ⟨cc, cf, cw, cv, ce, cl, cn⟩ := c
      have hb5 : Below wr.heap.size wr (wr.alloc (.cells (changeA qn ⟨cc, cf, cw, cv, ce, cl, cn⟩) 60)) := (Below.refl _ wr).alloc (Nat.le_refl _) _
      have BC := Blk.new wr (changeA qn ⟨cc, cf, cw, cv, ce, cl, cn⟩) 60
      have nb1 : ∀ g ∈ ob a1, w.heap.size ≤ g ∧ g < wr.heap.size := P.out.lt
      have nb2 : ∀ g ∈ ob a2, w.heap.size ≤ g ∧ g < wr.heap.size := P.st.lt
      have hwz := P.h.fr.size
      have hlt0 := P.h.lt
      obtain ⟨CB, hCB⟩ : ∃ x, x = wr.heap.size := ⟨_, rfl⟩
      have hz5 : (wr.alloc (.cells (changeA qn ⟨cc, cf, cw, cv, ce, cl, cn⟩) 60)).heap.size = wr.heap.size + 1 := World.size_alloc _ _
      rw [← hCB] at BC hb5 hz5 nb1 nb2 hwz ⊢
      have P5 := P.under (hCB ▸ hb5)
      clear P
      generalize wr.alloc (.cells (changeA qn ⟨cc, cf, cw, cv, ce, cl, cn⟩) 60) = w5 at BC hb5 hz5 P5 ⊢
      replace hCB := Lib.hid hCB
      simp only at hfm hlo
      have x0 := BC.at 0 rfl
      have x2 := BC.at 2 rfl
      have x3 := BC.at 3 rfl
      have x5 := BC.at 5 rfl
      go_upto_region 6 with (fail)
      have hb6 : Below w5.heap.size w5 (w5.alloc (.cells #[.int .i64 cc, .int .u64 cv, .int .u64 cw, .int .u64 0, .bool cl] 64)) := (Below.refl _ w5).alloc (Nat.le_refl _) _
      have BS := Blk.new w5 #[.int .i64 cc, .int .u64 cv, .int .u64 cw, .int .u64 0, .bool cl] 64
      have P6 := P5.under hb6
      replace BC := BC.below hb6
      rw [hz5] at BS hb6
      obtain ⟨SB, hSB⟩ : ∃ x, x = CB + 1 := ⟨_, rfl⟩
      rw [← hSB] at BS hb6 hz5 ⊢
      replace hz5 := Lib.hid hz5
      clear P5 x0 x2 x3 x5
      generalize w5.alloc (.cells #[.int .i64 cc, .int .u64 cv, .int .u64 cw, .int .u64 0, .bool cl] 64) = w6 at BC hb6 BS P6 ⊢
      replace hSB := Lib.hid hSB
      have x1 := BC.at 1 rfl
      have hSh := BS.lt
      by_cases hf : cf = -1
      · subst hf
        have hOld : Hid (fOld s ⟨cc, -1, cw, cv, ce, cl, cn⟩ = cw) := Lib.hid (by unfold fOld; rw [if_neg (by simp)])
        have hOk : U64 cw := hok.word
        go_upto_region 8 with (fail)
        clear x1 hfm
        have x4 := BC.at 4 rfl
        cases ce
        · have hmw : m < ws.length := hlo rfl
          have hE1 : Hid (ws.zip (fsAll ws (l.take (k + 1))).out = L1 ++ [(ws.getD m 0, nodeB cn)]) := Lib.hid (by
            rw [hS.out]
            show ws.zip (s.out ++ [_]) = _
            rw [zip_snoc ws s.out _ 0 (by have := hn1.out; omega), hL1.out, hn1.out]; rfl)
          have hE2 : Hid ((fsAll ws (l.take (k + 1))).st = L2 ++ [⟨cc, cv, cw, ws.getD m 0, cl⟩]) := Lib.hid (by
            rw [hS.out]
            show s.st ++ [_] = _
            rw [hOld.out, hL2.out]
            unfold fNew
            rw [hn1.out]; rfl)
          have hE3 : Hid (fullN (l.take (k + 1)) = m + 1) := Lib.hid (by rw [hN.out]; rfl)
          have hun : U64 (ws.getD m 0) := by
            rw [List.getD_eq_getElem?_getD, List.getElem?_eq_getElem hmw]; exact hu _ (List.getElem_mem _)
          have hl60 : L1.length ≤ 60 ∧ L2.length ≤ 60 := by have := hn1.out; have := hn2.out; have := hzl (by omega); omega
          have hcall := P6.h.next hmw
          have hcl := hok.cell
          have hcv := hok.ver
          have hnok := hok.node
          simp only at hcl hcv hnok
          have hsb := hSB.out
          have hn3 : ∀ b ∈ [SB], w.heap.size ≤ b ∧ b ∉ ob a1 ∧ b ∉ ob a2 := fun b hb => by
            simp only [List.mem_singleton] at hb
            subst hb
            exact ⟨by omega, fun e => by have := (nb1 _ e).2; omega, fun e => by have := (nb2 _ e).2; omega⟩
          generalize ws.getD m 0 = nw at hE1 hE2 hun hcall
          replace hsb := Lib.hid hsb
          clear hok hlo hN hS hOld
          go_upto_region 9 with (fail)
          go_wp2_with fail
          refine hcall.mono ?_
          rintro e w8 ⟨rfl, H8, F8⟩
          have P8 := P6.handed H8 F8
          have BS8 := F8.blk BS (by simp; have := hsb.out; omega)
          have BC8 := F8.blk BC (by simp; omega)
          clear hcall P6 BS BC x4 H8 F8
          have s3 := BS8.at 3 rfl
          have g3 := BS8.free 3
          go_upto_region 10 with (fail)
          have F9 : Fr [SB] w8 (w8.setCell ⟨SB, 3, none⟩ (.int .u64 nw)) := (Fr.refl _ _).set _ _ (.inl (by simp))
          have P9 := P8.on F9 hn3
          have BS9 := BS8.set 3 (.int .u64 nw)
          simp only [List.setIfInBounds_toArray, List.set_cons_succ, List.set_cons_zero] at BS9
          have BC9 := F9.blk BC8 (by simp; have := hsb.out; omega)
          clear P8 BS8 BC8 s3 g3 F9
          generalize w8.setCell ⟨SB, 3, none⟩ (.int .u64 nw) = w9 at P9 BS9 BC9 ⊢
          have t3 := BS9.at 3 rfl
          have hnd := change_node (blk_range BC9)
          rw [Nat.zero_add] at hnd
          have hbA : Below w9.heap.size w9 (w9.alloc (.cells (filledA nw qn cn) 50)) := (Below.refl _ w9).alloc (Nat.le_refl _) _
          have PA := P9.under hbA
          have BSA := BS9.below hbA
          obtain ⟨g1, d1, wA, A1⟩ := PA.out.addLit tinFilled (by decide) (Blk.new w9 (filledA nw qn cn) 50) (filledA_rep hun hnok) (by omega) (by decide) PA.h.fr.size
          have PB := PA.addOut A1
          have BSB := A1.fr.blk BSA (hn3 SB (by simp)).2.1
          have hr1 := Lib.hid A1.run
          have hbB : Below wA.heap.size wA (wA.alloc (.cells #[.int .i64 cc, .int .u64 cv, .int .u64 (cw), .int .u64 nw, .bool cl] 64)) := (Below.refl _ wA).alloc (Nat.le_refl _) _
          have PC := PB.under hbB
          obtain ⟨g2, d2, wC, A2⟩ := PC.st.addLit tinStep (by decide) (Blk.new wA #[.int .i64 cc, .int .u64 cv, .int .u64 (cw), .int .u64 nw, .bool cl] 64) (stepT_mk (x := ⟨cc, cv, cw, nw, cl⟩) ⟨hcl, hcv, hOk, hun⟩) (by omega) (by decide) PC.h.fr.size
          have PD := PC.addSt A2
          have hr2 := Lib.hid A2.run
          have u0 := BSB.at 0 rfl
          have u1 := BSB.at 1 rfl
          have u2 := BSB.at 2 rfl
          have u3 := BSB.at 3 rfl
          have u4 := BSB.at 4 rfl
          clear PA PB PC P9 BS9 BSA BSB BC9 A1 A2 hbA hbB hcl hcv hnok hn3
          go_upto_region 11 with (first
            | (at_builtin; refine wpList_append_run hr1.out rfl (by rfl) (by rfl) (by rfl) ?_)
            | (refine wpList_load_mid rfl 43 _ rfl CB 6 rfl (nodeA qn cn).toList _ hnd Try.underlying43 rfl (by kernel_rfl) ?_))
          go_wp2_with (at_builtin; refine wpList_append_run hr2.out rfl (by rfl) (by rfl) (by rfl) ?_)
          go_roundw
          case rel => exact ⟨k + 1, _, _, _, _, by omega, by go_num, by rw [hE1.out, List.length_append]; rfl, by rw [hE2.out, List.length_append]; rfl, by rw [hE1.out, hE2.out, hE3.out]; exact PD⟩
          case measure => simp [intOf]; omega
        · have hE1 : Hid (ws.zip (fsAll ws (l.take (k + 1))).out = L1) := Lib.hid (by
            rw [hS.out]
            show ws.zip s.out = _
            exact hL1.out)
          have hE2 : Hid ((fsAll ws (l.take (k + 1))).st = L2 ++ [⟨cc, cv, cw, 0, cl⟩]) := Lib.hid (by
            rw [hS.out]
            show s.st ++ [_] = _
            rw [hOld.out, hL2.out]; rfl)
          have hE3 : Hid (fullN (l.take (k + 1)) = m) := Lib.hid (by rw [hN.out]; rfl)
          have hl60 : L2.length ≤ 60 := by have := hn2.out; omega
          have hcl := hok.cell
          have hcv := hok.ver
          simp only at hcl hcv
          have hbB : Below (w6).heap.size w6 ((w6).alloc (.cells #[.int .i64 cc, .int .u64 cv, .int .u64 (cw), .int .u64 0, .bool cl] 64)) := (Below.refl _ _).alloc (Nat.le_refl _) _
          have PC := P6.under hbB
          obtain ⟨g2, d2, wC, A2⟩ := PC.st.addLit tinStep (by decide) (Blk.new w6 #[.int .i64 cc, .int .u64 cv, .int .u64 (cw), .int .u64 0, .bool cl] 64) (stepT_mk (x := ⟨cc, cv, cw, 0, cl⟩) ⟨hcl, hcv, hOk, show U64 0 from ⟨by decide, by decide⟩⟩) (by omega) (by decide) PC.h.fr.size
          have PD := PC.addSt A2
          have hr2 := Lib.hid A2.run
          have u0 := BS.at 0 rfl
          have u1 := BS.at 1 rfl
          have u2 := BS.at 2 rfl
          have u3 := BS.at 3 rfl
          have u4 := BS.at 4 rfl
          clear PC A2 hbB hcl hcv hok hlo hN hS hOld P6 BC BS
          go_wp2_with (at_builtin; refine wpList_append_run hr2.out rfl (by rfl) (by rfl) (by rfl) ?_)
          go_roundw
          case rel => exact ⟨k + 1, _, _, _, _, by omega, by go_num, by rw [hE1.out], by rw [hE2.out, List.length_append]; rfl, by rw [hE1.out, hE2.out, hE3.out]; exact PD⟩
          case measure => simp [intOf]; omega
      · have qf : (cf != -1) = true := by simpa using hf
        obtain ⟨f, rfl⟩ : ∃ f : Nat, cf = (f : Int) := ⟨cf.toNat, by omega⟩
        have hfk : f < L2.length := by have := hn2.out; omega
        have hfk' : (f : Int) < (L2.length : Int) := by omega
        have hR := (show HRow Dp.stepT w6 [] ⟨a2, c2⟩ L2 from OwnV.hrow (P6.st.rep (fun _ _ h => h)) (by decide) (by simp))
        obtain ⟨b2, off2, ha2, hbl2, hc2, hok2⟩ := step_at hR f hfk
        simp only at ha2
        subst ha2
        have y3 := hc2 3 _ rfl
        have f2 := BS.free 2
        have s2 := BS.at 2 rfl
        have hOk : U64 L2[f].new := hok2.new
        have hOld : Hid (fOld s ⟨cc, (f : Int), cw, cv, ce, cl, cn⟩ = L2[f].new) := Lib.hid (by
          unfold fOld
          rw [if_pos (by simp)]
          rw [hL2.out, Int.toNat_natCast, List.getD_eq_getElem?_getD, List.getElem?_eq_getElem hfk]; rfl)
        generalize L2[f].new = old at y3 hOk hOld
        go_upto_region 8 with (fail)
        have F7 : Fr [SB] w6 (w6.setCell ⟨SB, 2, none⟩ (.int .u64 old)) := (Fr.refl _ _).set _ _ (.inl (by simp))
        have hn3 : ∀ b ∈ [SB], w.heap.size ≤ b ∧ b ∉ ob a1 ∧ b ∉ ob (some (⟨b2, off2, none⟩ : Addr)) := fun b hb => by
          simp only [List.mem_singleton] at hb
          subst hb
          have := hSB.out
          exact ⟨by omega, fun e => by have := (nb1 _ e).2; omega, fun e => by have := (nb2 _ e).2; omega⟩
        replace P6 := P6.on F7 hn3
        replace BS := BS.set 2 (.int .u64 old)
        replace BC := F7.blk BC (by simp; have := hSB.out; omega)
        simp only [List.setIfInBounds_toArray, List.set_cons_succ, List.set_cons_zero] at BS
        clear x1 y3 f2 s2 F7 hn3 hok2 hc2 hR hfm hfk hfk' qf
        generalize w6.setCell ⟨SB, 2, none⟩ (.int .u64 old) = w7 at BS BC P6 ⊢
        have x4 := BC.at 4 rfl
        cases ce
        · have hmw : m < ws.length := hlo rfl
          have hE1 : Hid (ws.zip (fsAll ws (l.take (k + 1))).out = L1 ++ [(ws.getD m 0, nodeB cn)]) := Lib.hid (by
            rw [hS.out]
            show ws.zip (s.out ++ [_]) = _
            rw [zip_snoc ws s.out _ 0 (by have := hn1.out; omega), hL1.out, hn1.out]; rfl)
          have hE2 : Hid ((fsAll ws (l.take (k + 1))).st = L2 ++ [⟨cc, cv, old, ws.getD m 0, cl⟩]) := Lib.hid (by
            rw [hS.out]
            show s.st ++ [_] = _
            rw [hOld.out, hL2.out]
            unfold fNew
            rw [hn1.out]; rfl)
          have hE3 : Hid (fullN (l.take (k + 1)) = m + 1) := Lib.hid (by rw [hN.out]; rfl)
          have hun : U64 (ws.getD m 0) := by
            rw [List.getD_eq_getElem?_getD, List.getElem?_eq_getElem hmw]; exact hu _ (List.getElem_mem _)
          have hl60 : L1.length ≤ 60 ∧ L2.length ≤ 60 := by have := hn1.out; have := hn2.out; have := hzl (by omega); omega
          have hcall := P6.h.next hmw
          have hcl := hok.cell
          have hcv := hok.ver
          have hnok := hok.node
          simp only at hcl hcv hnok
          have hsb := hSB.out
          have hn3 : ∀ b ∈ [SB], w.heap.size ≤ b ∧ b ∉ ob a1 ∧ b ∉ ob (some ⟨b2, off2, none⟩) := fun b hb => by
            simp only [List.mem_singleton] at hb
            subst hb
            exact ⟨by omega, fun e => by have := (nb1 _ e).2; omega, fun e => by have := (nb2 _ e).2; omega⟩
          generalize ws.getD m 0 = nw at hE1 hE2 hun hcall
          replace hsb := Lib.hid hsb
          clear hok hlo hN hS hOld
          go_upto_region 9 with (fail)
          go_wp2_with fail
          refine hcall.mono ?_
          rintro e w8 ⟨rfl, H8, F8⟩
          have P8 := P6.handed H8 F8
          have BS8 := F8.blk BS (by simp; have := hsb.out; omega)
          have BC8 := F8.blk BC (by simp; omega)
          clear hcall P6 BS BC x4 H8 F8
          have s3 := BS8.at 3 rfl
          have g3 := BS8.free 3
          go_upto_region 10 with (fail)
          have F9 : Fr [SB] w8 (w8.setCell ⟨SB, 3, none⟩ (.int .u64 nw)) := (Fr.refl _ _).set _ _ (.inl (by simp))
          have P9 := P8.on F9 hn3
          have BS9 := BS8.set 3 (.int .u64 nw)
          simp only [List.setIfInBounds_toArray, List.set_cons_succ, List.set_cons_zero] at BS9
          have BC9 := F9.blk BC8 (by simp; have := hsb.out; omega)
          clear P8 BS8 BC8 s3 g3 F9
          generalize w8.setCell ⟨SB, 3, none⟩ (.int .u64 nw) = w9 at P9 BS9 BC9 ⊢
          have t3 := BS9.at 3 rfl
          have hnd := change_node (blk_range BC9)
          rw [Nat.zero_add] at hnd
          have hbA : Below w9.heap.size w9 (w9.alloc (.cells (filledA nw qn cn) 50)) := (Below.refl _ w9).alloc (Nat.le_refl _) _
          have PA := P9.under hbA
          have BSA := BS9.below hbA
          obtain ⟨g1, d1, wA, A1⟩ := PA.out.addLit tinFilled (by decide) (Blk.new w9 (filledA nw qn cn) 50) (filledA_rep hun hnok) (by omega) (by decide) PA.h.fr.size
          have PB := PA.addOut A1
          have BSB := A1.fr.blk BSA (hn3 SB (by simp)).2.1
          have hr1 := Lib.hid A1.run
          have hbB : Below wA.heap.size wA (wA.alloc (.cells #[.int .i64 cc, .int .u64 cv, .int .u64 (old), .int .u64 nw, .bool cl] 64)) := (Below.refl _ wA).alloc (Nat.le_refl _) _
          have PC := PB.under hbB
          obtain ⟨g2, d2, wC, A2⟩ := PC.st.addLit tinStep (by decide) (Blk.new wA #[.int .i64 cc, .int .u64 cv, .int .u64 (old), .int .u64 nw, .bool cl] 64) (stepT_mk (x := ⟨cc, cv, old, nw, cl⟩) ⟨hcl, hcv, hOk, hun⟩) (by omega) (by decide) PC.h.fr.size
          have PD := PC.addSt A2
          have hr2 := Lib.hid A2.run
          have u0 := BSB.at 0 rfl
          have u1 := BSB.at 1 rfl
          have u2 := BSB.at 2 rfl
          have u3 := BSB.at 3 rfl
          have u4 := BSB.at 4 rfl
          clear PA PB PC P9 BS9 BSA BSB BC9 A1 A2 hbA hbB hcl hcv hnok hn3
          go_upto_region 11 with (first
            | (at_builtin; refine wpList_append_run hr1.out rfl (by rfl) (by rfl) (by rfl) ?_)
            | (refine wpList_load_mid rfl 43 _ rfl CB 6 rfl (nodeA qn cn).toList _ hnd Try.underlying43 rfl (by kernel_rfl) ?_))
          go_wp2_with (at_builtin; refine wpList_append_run hr2.out rfl (by rfl) (by rfl) (by rfl) ?_)
          go_roundw
          case rel => exact ⟨k + 1, _, _, _, _, by omega, by go_num, by rw [hE1.out, List.length_append]; rfl, by rw [hE2.out, List.length_append]; rfl, by rw [hE1.out, hE2.out, hE3.out]; exact PD⟩
          case measure => simp [intOf]; omega
        · have hE1 : Hid (ws.zip (fsAll ws (l.take (k + 1))).out = L1) := Lib.hid (by
            rw [hS.out]
            show ws.zip s.out = _
            exact hL1.out)
          have hE2 : Hid ((fsAll ws (l.take (k + 1))).st = L2 ++ [⟨cc, cv, old, 0, cl⟩]) := Lib.hid (by
            rw [hS.out]
            show s.st ++ [_] = _
            rw [hOld.out, hL2.out]; rfl)
          have hE3 : Hid (fullN (l.take (k + 1)) = m) := Lib.hid (by rw [hN.out]; rfl)
          have hl60 : L2.length ≤ 60 := by have := hn2.out; omega
          have hcl := hok.cell
          have hcv := hok.ver
          simp only at hcl hcv
          have hbB : Below (w7).heap.size w7 ((w7).alloc (.cells #[.int .i64 cc, .int .u64 cv, .int .u64 (old), .int .u64 0, .bool cl] 64)) := (Below.refl _ _).alloc (Nat.le_refl _) _
          have PC := P6.under hbB
          obtain ⟨g2, d2, wC, A2⟩ := PC.st.addLit tinStep (by decide) (Blk.new w7 #[.int .i64 cc, .int .u64 cv, .int .u64 (old), .int .u64 0, .bool cl] 64) (stepT_mk (x := ⟨cc, cv, old, 0, cl⟩) ⟨hcl, hcv, hOk, show U64 0 from ⟨by decide, by decide⟩⟩) (by omega) (by decide) PC.h.fr.size
          have PD := PC.addSt A2
          have hr2 := Lib.hid A2.run
          have u0 := BS.at 0 rfl
          have u1 := BS.at 1 rfl
          have u2 := BS.at 2 rfl
          have u3 := BS.at 3 rfl
          have u4 := BS.at 4 rfl
          clear PC A2 hbB hcl hcv hok hlo hN hS hOld P6 BC BS
          go_wp2_with (at_builtin; refine wpList_append_run hr2.out rfl (by rfl) (by rfl) (by rfl) ?_)
          go_roundw
          case rel => exact ⟨k + 1, _, _, _, _, by omega, by go_num, by rw [hE1.out], by rw [hE2.out, List.length_append]; rfl, by rw [hE1.out, hE2.out, hE3.out]; exact PD⟩
          case measure => simp [intOf]; omega
    · obtain rfl : k = l.length := by omega
      rw [List.take_length] at P
      rw [List.take_length]
      go_wp2_with fail
      go_ret2
      exact ⟨_, _, _, _, rfl, P⟩
end Go.Proofs.Ytnecikholpiefaa.Dp
