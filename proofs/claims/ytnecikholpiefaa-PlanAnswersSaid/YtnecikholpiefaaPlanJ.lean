/-
  plan.extra: contract.
-/
import Derived.Test.YtnecikholpiefaaPlanI
namespace Go.Proofs.Ytnecikholpiefaa.Dp
open Go.RowKit RefP FoP
set_option linter.unusedVariables false
set_option linter.unusedSimpArgs false
set_option maxRecDepth 100000 in
set_option maxHeartbeats 3200000 in
theorem pextra_any (X S : List Nat) (q : Hd) (ps : List PairV) (f : Nat) (hb : Nat) (ws : List Int) (m : Nat) (w : World) (H : HRow pairT w S q ps) (l1 : ps.length ≤ 300) (f0 : 4 ≤ f) (f1 : f ≤ 64) (HH : Hand w w S hb ws m) (hn : m + chunkN f ps.length ≤ ws.length) (hu : ∀ x ∈ ws, U64 x) (hX : ∀ b ∈ X, b < w.heap.size) :
    Calls Try.prog 24 #[.slice q.a ps.length q.c, .int .i64 f, nextV hb] w fun e w' => ExtraAt w X S hb ws m f ps e w' := by
  go_enter Try.func24, Try.ntmps24
  go_wp2_with fail
  go_loopw [0, 6, 7] (fun v0 v6 v7 wr => ∃ (j : Nat) (h : Hd) (a1 : Option Addr) (c1 : Nat) (a2 : Option Addr) (c2 : Nat), j ≤ chunkN f ps.length ∧ v0 = .slice h.a (ps.drop (j * f)).length h.c ∧ HRow pairT w S h (ps.drop (j * f)) ∧ v6 = .slice a1 (exL ws m f ps j).length c1 ∧ v7 = .slice a2 ((ws.drop m).take j).length c2 ∧ EX w wr X S hb ws (m + j) (exL ws m f ps j) ((ws.drop m).take j) a1 c1 a2 c2) (fun v0 _ _ _ => match v0 with | .slice _ n _ => n | _ => 0)
  case atStart => exact ⟨0, q, none, 0, none, 0, Nat.zero_le _, by simp, by simpa using H, by simp [exL], by simp, by simpa using HH, by simpa [exL] using OwnV.nil _ _ _ _ _, by simpa using OwnV.nil _ _ _ _ _, by simp [ob], hX⟩
  case round =>
    obtain ⟨j, ⟨ha, hc⟩, a1, c1, a2, c2, hj, rfl, HR, rfl, rfl, P⟩ := hrel
    have hlt := @chunkN_lt f ps.length j (by omega)
    have hdl : (ps.drop (j * f)).length = ps.length - j * f := List.length_drop
    by_cases h0 : 0 < (ps.drop (j * f)).length
    · have hjl : j < chunkN f ps.length := hlt.2 (by omega)
      have hE1 := Lib.hid (exL_succ ws m f ps j (by omega))
      have hE2 := Lib.hid (exW_succ ws m j (by omega))
      have hE3 : Hid (ps.drop ((j + 1) * f) = (ps.drop (j * f)).drop f) := Lib.hid (by rw [List.drop_drop, Nat.succ_mul])
      have hE4 : Hid (chunkV f ps j = (ps.drop (j * f)).take f) := Lib.hid rfl
      have h300 : (ps.drop (j * f)).length ≤ 300 := by omega
      have hun : U64 (ws.getD (m + j) 0) := by
        have hmw : m + j < ws.length := by omega
        rw [List.getD_eq_getElem?_getD, List.getElem?_eq_getElem hmw]; exact hu _ (List.getElem_mem _)
      have hl60 : (exL ws m f ps j).length ≤ 400 ∧ ((ws.drop m).take j).length ≤ 400 := by
        have h1 := exL_len ws m f ps j (by omega)
        have h2 : chunkN f ps.length ≤ 400 := by
          unfold chunkN
          have := Nat.div_le_self (ps.length + f - 1) f
          omega
        rw [List.length_take]; omega
      generalize exL ws m f ps j = L1 at P hE1 hl60
      generalize (ws.drop m).take j = W at P hE2 hl60
      generalize ps.drop (j * f) = rest at h0 HR hE3 hE4 h300
      clear hdl hlt
      have hle := HR.le
      have hcap := HR.cap
      simp only at hle hcap
      have h0' : (0 : Int) < (rest.length : Int) := by omega
      have fi0 : (4 : Int) ≤ (f : Int) := by omega
      have hmk := mk_pairs
      by_cases hfl : f ≤ rest.length
      · have hfl' : (f : Int) ≤ (rest.length : Int) := by omega
        have hmk1 := hmk f (by omega)
        clear hmk
        replace hE3 := Lib.hid hE3.out
        go_upto_region 3 with (fail)
        have hold := P.old
        have hbA : Below wr.heap.size wr (wr.alloc (.cells (madeCells zPair (f * 2)) 78)) := (Below.refl _ wr).alloc (Nat.le_refl _) _
        have BP := Blk.new wr (madeCells zPair (f * 2)) 78
        have hHR := (HR.keep P.h.keeps).keep (Keeps.of_below hbA)
        obtain ⟨PB, hPB⟩ : ∃ b, b = wr.heap.size := ⟨_, rfl⟩
        rw [← hPB] at BP hold ⊢
        generalize wr.alloc (.cells (madeCells zPair (f * 2)) 78) = w1 at hbA BP hHR ⊢
        have hPB' := Lib.hid hPB
        obtain ⟨w2, hrc, CK⟩ := run_copy_hrow (P := Try.prog) (dCap := f) 23 23 78 (by decide) Try.underlying23 (show _ = some 2 by kernel_rfl) hHR f (by omega) BP (made_size _ _)
        have hbC : Below wr.heap.size wr w2 := CK.fr.below hbA (Nat.le_refl _) (by simp; omega)
        have P2 := P.under hbC
        obtain ⟨raws, hrl, BR, hrx⟩ := CK.row
        have HC : HRow pairT w2 (exS X hb a1 a2) ⟨some ⟨PB, 0, none⟩, f⟩ (rest.take f) := hrow_blk BR (by decide) hrl (fun i x hi => flat_pair.any (hrx i x hi)) (fun e => by have := hold _ e; omega) (by rw [List.length_take]; omega) (by omega)
        have hlen : Hid ((rest.take f).length = f) := Lib.hid (by rw [List.length_take]; omega)
        replace hrc := Lib.hid hrc
        clear hbA BP hHR CK hbC BR hrx hrl hold hmk1 hPB P
        go_upto_region 4 with (refine wpList_copy_eq (o := ⟨some 20, _, _, _, _, _⟩) hrc.out rfl (by rfl) (by rfl) (by rfl) ?_)
        clear hrc
        obtain ⟨b, off, e, _⟩ := HR.row h0
        simp only at e
        subst e
        have hdl : Hid ((rest.drop f).length = rest.length - f) := Lib.hid (by rw [List.length_drop]; try omega)
        by_cases hcn : hc = f
        · have hcn2 := hcn.symm
          subst hcn2
          have HN : HRow pairT w S ⟨some ⟨b, off, none⟩, 0⟩ (rest.drop f) := hrow_none HR f (by omega) _ _ (Nat.zero_le _)
          clear HR hcn hle hcap h0' h300
          have hcall := P2.h.next (show m + j < ws.length by omega)
          have hE1 := Lib.hid (show exL ws m f ps (j + 1) = L1 ++ [(ws.getD (m + j) 0, fPairs (rest.take f))] by have := hE1.out; rw [hE4.out] at this; exact this)
          clear hE4
          generalize ws.getD (m + j) 0 = nw at hE1 hE2 hun hcall
          go_upto_region 5 with (fail)
          clear fi0 hfl'
          go_wp2_with fail
          refine hcall.mono ?_
          rintro e w3 ⟨rfl, H3, F3⟩
          have P3 := P2.handed H3 F3
          have HC3 := HC.keep (F3.keeps.more (by simp [exS]))
          clear hcall P2 HC H3 F3
          have hbL : Below w3.heap.size w3 (w3.alloc (.cells (filledP nw (some ⟨PB, 0, none⟩) f f) 50)) := (Below.refl _ w3).alloc (Nat.le_refl _) _
          have P4 := P3.under hbL
          have HC4 := filledP_rep hun (HC3.keep (Keeps.of_below hbL))
          rw [hlen.out] at HC4
          obtain ⟨g1, d1, w5, A1⟩ := P4.out.addLit tinFilled (by decide) (Blk.new w3 (filledP nw (some ⟨PB, 0, none⟩) f f) 50) HC4 (by omega) (by decide) P4.h.fr.size
          have P5 := P4.addOut A1
          have hr1 := Lib.hid A1.run
          have hbM : Below w5.heap.size w5 (w5.alloc (.cells #[.int .u64 nw] 22)) := (Below.refl _ w5).alloc (Nat.le_refl _) _
          have P6 := P5.under hbM
          obtain ⟨g2, d2, w7, A2⟩ := P6.wo.addLit tinU64 (by decide) (Blk.new w5 #[.int .u64 nw] 22) (x := nw) ⟨rfl, wf_u64 hun⟩ (by omega) (by decide) P6.h.fr.size
          have P7 := P6.addW A2
          have hr2 := Lib.hid A2.run
          clear P3 HC3 hbL P4 HC4 A1 P5 hbM P6 A2
          go_upto_region 7 with (at_builtin; refine wpList_append_run hr1.out rfl (by rfl) (by rfl) (by rfl) ?_)
          go_wp2_with (at_builtin; refine wpList_append_run hr2.out rfl (by rfl) (by rfl) (by rfl) ?_)
          go_roundw
          case rel => exact ⟨j + 1, ⟨_, _⟩, _, _, _, _, by omega, by rw [hE3.out, hdl.out], by rw [hE3.out]; exact HN, by rw [hE1.out, List.length_append]; rfl, by rw [hE2.out, List.length_append]; rfl, by rw [hE1.out, hE2.out]; exact P7⟩
          case measure => simp; omega
        · have hcn' : f < hc := by omega
          have HN := hrow_drop HR f (by omega)
          clear HR hcn hcap h0' h300
          have hcall := P2.h.next (show m + j < ws.length by omega)
          have hE1 := Lib.hid (show exL ws m f ps (j + 1) = L1 ++ [(ws.getD (m + j) 0, fPairs (rest.take f))] by have := hE1.out; rw [hE4.out] at this; exact this)
          clear hE4
          generalize ws.getD (m + j) 0 = nw at hE1 hE2 hun hcall
          go_upto_region 5 with (fail)
          clear fi0 hfl'
          go_wp2_with fail
          refine hcall.mono ?_
          rintro e w3 ⟨rfl, H3, F3⟩
          have P3 := P2.handed H3 F3
          have HC3 := HC.keep (F3.keeps.more (by simp [exS]))
          clear hcall P2 HC H3 F3
          have hbL : Below w3.heap.size w3 (w3.alloc (.cells (filledP nw (some ⟨PB, 0, none⟩) f f) 50)) := (Below.refl _ w3).alloc (Nat.le_refl _) _
          have P4 := P3.under hbL
          have HC4 := filledP_rep hun (HC3.keep (Keeps.of_below hbL))
          rw [hlen.out] at HC4
          obtain ⟨g1, d1, w5, A1⟩ := P4.out.addLit tinFilled (by decide) (Blk.new w3 (filledP nw (some ⟨PB, 0, none⟩) f f) 50) HC4 (by omega) (by decide) P4.h.fr.size
          have P5 := P4.addOut A1
          have hr1 := Lib.hid A1.run
          have hbM : Below w5.heap.size w5 (w5.alloc (.cells #[.int .u64 nw] 22)) := (Below.refl _ w5).alloc (Nat.le_refl _) _
          have P6 := P5.under hbM
          obtain ⟨g2, d2, w7, A2⟩ := P6.wo.addLit tinU64 (by decide) (Blk.new w5 #[.int .u64 nw] 22) (x := nw) ⟨rfl, wf_u64 hun⟩ (by omega) (by decide) P6.h.fr.size
          have P7 := P6.addW A2
          have hr2 := Lib.hid A2.run
          clear P3 HC3 hbL P4 HC4 A1 P5 hbM P6 A2
          go_upto_region 7 with (at_builtin; refine wpList_append_run hr1.out rfl (by rfl) (by rfl) (by rfl) ?_)
          go_wp2_with (at_builtin; refine wpList_append_run hr2.out rfl (by rfl) (by rfl) (by rfl) ?_)
          go_roundw
          case rel => exact ⟨j + 1, ⟨_, _⟩, _, _, _, _, by omega, by rw [hE3.out, hdl.out], by rw [hE3.out]; exact HN, by rw [hE1.out, List.length_append]; rfl, by rw [hE2.out, List.length_append]; rfl, by rw [hE1.out, hE2.out]; exact P7⟩
          case measure => simp; omega
      · have hfl' : (rest.length : Int) < (f : Int) := by omega
        have hmk1 := hmk rest.length (by omega)
        clear hmk
        have hE4' : Hid (chunkV f ps j = rest.take rest.length) := Lib.hid (by rw [hE4.out, List.take_of_length_le (by omega), List.take_length])
        have hE3' : Hid (ps.drop ((j + 1) * f) = rest.drop rest.length) := Lib.hid (by rw [hE3.out, List.drop_eq_nil_of_le (by omega), List.drop_length])
        clear hE3 hE4
        rename Hid (chunkV f ps j = rest.take rest.length) => hE4
        rename Hid (ps.drop ((j + 1) * f) = rest.drop rest.length) => hE3
        go_upto_region 3 with (fail)
        have hold := P.old
        have hbA : Below wr.heap.size wr (wr.alloc (.cells (madeCells zPair (rest.length * 2)) 78)) := (Below.refl _ wr).alloc (Nat.le_refl _) _
        have BP := Blk.new wr (madeCells zPair (rest.length * 2)) 78
        have hHR := (HR.keep P.h.keeps).keep (Keeps.of_below hbA)
        obtain ⟨PB, hPB⟩ : ∃ b, b = wr.heap.size := ⟨_, rfl⟩
        rw [← hPB] at BP hold ⊢
        generalize wr.alloc (.cells (madeCells zPair (rest.length * 2)) 78) = w1 at hbA BP hHR ⊢
        have hPB' := Lib.hid hPB
        obtain ⟨w2, hrc, CK⟩ := run_copy_hrow (P := Try.prog) (dCap := rest.length) 23 23 78 (by decide) Try.underlying23 (show _ = some 2 by kernel_rfl) hHR rest.length (by omega) BP (made_size _ _)
        have hbC : Below wr.heap.size wr w2 := CK.fr.below hbA (Nat.le_refl _) (by simp; omega)
        have P2 := P.under hbC
        obtain ⟨raws, hrl, BR, hrx⟩ := CK.row
        have HC : HRow pairT w2 (exS X hb a1 a2) ⟨some ⟨PB, 0, none⟩, rest.length⟩ (rest.take rest.length) := hrow_blk BR (by decide) hrl (fun i x hi => flat_pair.any (hrx i x hi)) (fun e => by have := hold _ e; omega) (by rw [List.length_take]; omega) (by omega)
        have hlen : Hid ((rest.take rest.length).length = rest.length) := Lib.hid (by rw [List.length_take]; omega)
        replace hrc := Lib.hid hrc
        clear hbA BP hHR CK hbC BR hrx hrl hold hmk1 hPB P
        go_upto_region 4 with (refine wpList_copy_eq (o := ⟨some 20, _, _, _, _, _⟩) hrc.out rfl (by rfl) (by rfl) (by rfl) ?_)
        clear hrc
        obtain ⟨b, off, e, _⟩ := HR.row h0
        simp only at e
        subst e
        have hdl : Hid ((rest.drop rest.length).length = 0) := Lib.hid (by rw [List.length_drop]; try omega)
        by_cases hcn : hc = rest.length
        · have hcn2 := hcn.symm
          subst hcn2
          have HN : HRow pairT w S ⟨some ⟨b, off, none⟩, 0⟩ (rest.drop rest.length) := hrow_none HR rest.length (by omega) _ _ (Nat.zero_le _)
          clear HR hcn hle hcap h0' h300
          have hcall := P2.h.next (show m + j < ws.length by omega)
          have hE1 := Lib.hid (show exL ws m f ps (j + 1) = L1 ++ [(ws.getD (m + j) 0, fPairs (rest.take rest.length))] by have := hE1.out; rw [hE4.out] at this; exact this)
          clear hE4
          generalize ws.getD (m + j) 0 = nw at hE1 hE2 hun hcall
          go_upto_region 5 with (fail)
          clear fi0 hfl'
          go_wp2_with fail
          refine hcall.mono ?_
          rintro e w3 ⟨rfl, H3, F3⟩
          have P3 := P2.handed H3 F3
          have HC3 := HC.keep (F3.keeps.more (by simp [exS]))
          clear hcall P2 HC H3 F3
          have hbL : Below w3.heap.size w3 (w3.alloc (.cells (filledP nw (some ⟨PB, 0, none⟩) rest.length rest.length) 50)) := (Below.refl _ w3).alloc (Nat.le_refl _) _
          have P4 := P3.under hbL
          have HC4 := filledP_rep hun (HC3.keep (Keeps.of_below hbL))
          rw [hlen.out] at HC4
          obtain ⟨g1, d1, w5, A1⟩ := P4.out.addLit tinFilled (by decide) (Blk.new w3 (filledP nw (some ⟨PB, 0, none⟩) rest.length rest.length) 50) HC4 (by omega) (by decide) P4.h.fr.size
          have P5 := P4.addOut A1
          have hr1 := Lib.hid A1.run
          have hbM : Below w5.heap.size w5 (w5.alloc (.cells #[.int .u64 nw] 22)) := (Below.refl _ w5).alloc (Nat.le_refl _) _
          have P6 := P5.under hbM
          obtain ⟨g2, d2, w7, A2⟩ := P6.wo.addLit tinU64 (by decide) (Blk.new w5 #[.int .u64 nw] 22) (x := nw) ⟨rfl, wf_u64 hun⟩ (by omega) (by decide) P6.h.fr.size
          have P7 := P6.addW A2
          have hr2 := Lib.hid A2.run
          clear P3 HC3 hbL P4 HC4 A1 P5 hbM P6 A2
          go_upto_region 7 with (at_builtin; refine wpList_append_run hr1.out rfl (by rfl) (by rfl) (by rfl) ?_)
          go_wp2_with (at_builtin; refine wpList_append_run hr2.out rfl (by rfl) (by rfl) (by rfl) ?_)
          go_roundw
          case rel => exact ⟨j + 1, ⟨_, _⟩, _, _, _, _, by omega, by rw [hE3.out, hdl.out], by rw [hE3.out]; exact HN, by rw [hE1.out, List.length_append]; rfl, by rw [hE2.out, List.length_append]; rfl, by rw [hE1.out, hE2.out]; exact P7⟩
          case measure => simp; omega
        · have hcn' : rest.length < hc := by omega
          have HN := hrow_drop HR rest.length (by omega)
          clear HR hcn hcap h0' h300
          have hcall := P2.h.next (show m + j < ws.length by omega)
          have hE1 := Lib.hid (show exL ws m f ps (j + 1) = L1 ++ [(ws.getD (m + j) 0, fPairs (rest.take rest.length))] by have := hE1.out; rw [hE4.out] at this; exact this)
          clear hE4
          generalize ws.getD (m + j) 0 = nw at hE1 hE2 hun hcall
          go_upto_region 5 with (fail)
          clear fi0 hfl'
          go_wp2_with fail
          refine hcall.mono ?_
          rintro e w3 ⟨rfl, H3, F3⟩
          have P3 := P2.handed H3 F3
          have HC3 := HC.keep (F3.keeps.more (by simp [exS]))
          clear hcall P2 HC H3 F3
          have hbL : Below w3.heap.size w3 (w3.alloc (.cells (filledP nw (some ⟨PB, 0, none⟩) rest.length rest.length) 50)) := (Below.refl _ w3).alloc (Nat.le_refl _) _
          have P4 := P3.under hbL
          have HC4 := filledP_rep hun (HC3.keep (Keeps.of_below hbL))
          rw [hlen.out] at HC4
          obtain ⟨g1, d1, w5, A1⟩ := P4.out.addLit tinFilled (by decide) (Blk.new w3 (filledP nw (some ⟨PB, 0, none⟩) rest.length rest.length) 50) HC4 (by omega) (by decide) P4.h.fr.size
          have P5 := P4.addOut A1
          have hr1 := Lib.hid A1.run
          have hbM : Below w5.heap.size w5 (w5.alloc (.cells #[.int .u64 nw] 22)) := (Below.refl _ w5).alloc (Nat.le_refl _) _
          have P6 := P5.under hbM
          obtain ⟨g2, d2, w7, A2⟩ := P6.wo.addLit tinU64 (by decide) (Blk.new w5 #[.int .u64 nw] 22) (x := nw) ⟨rfl, wf_u64 hun⟩ (by omega) (by decide) P6.h.fr.size
          have P7 := P6.addW A2
          have hr2 := Lib.hid A2.run
          clear P3 HC3 hbL P4 HC4 A1 P5 hbM P6 A2
          go_upto_region 7 with (at_builtin; refine wpList_append_run hr1.out rfl (by rfl) (by rfl) (by rfl) ?_)
          go_wp2_with (at_builtin; refine wpList_append_run hr2.out rfl (by rfl) (by rfl) (by rfl) ?_)
          go_roundw
          case rel => exact ⟨j + 1, ⟨_, _⟩, _, _, _, _, by omega, by rw [hE3.out, hdl.out], by rw [hE3.out]; exact HN, by rw [hE1.out, List.length_append]; rfl, by rw [hE2.out, List.length_append]; rfl, by rw [hE1.out, hE2.out]; exact P7⟩
          case measure => simp; omega
    · obtain rfl : j = chunkN f ps.length := by
        have := fun h => h0 (by have := hlt.1 h; omega)
        omega
      have hz : (ps.drop (chunkN f ps.length * f)).length = 0 := by omega
      rw [hz]
      clear hdl hlt h0 hz
      go_wp2_with fail
      go_ret2
      exact ⟨_, _, _, _, rfl, P⟩
end Go.Proofs.Ytnecikholpiefaa.Dp
