/-
  The document's Fill: contract.
-/
import Derived.Test.YtnecikholpiefaaPlanL
import Derived.BigRegion
import Derived.Deep.DeepCutAuto
import Derived.Deep.LoopGhost
namespace Go.Proofs.Ytnecikholpiefaa.Dp
open Go.RowKit RefP FoP
set_option linter.unusedVariables false
set_option linter.unusedSimpArgs false
def RFillAt (w : World) (x : AskV) (e : Ending) (w' : World) : Prop :=
  ∃ a c, e = .returned (.slice a (fillV x).length c) ∧ HRow blockT w' [] ⟨a, c⟩ (fillV x) ∧ Below w.heap.size w w'
/-- what stands in the step before its word -/
structure OldAt (ws : List Int) (s : FSx) (c : ChangeV) (wr : World) (SB : Nat) (old : Int) (W : World) : Prop where
  ok : U64 old
  eq : fOld s c = old
  b : Below wr.heap.size wr W
  blk : Blk W SB #[.int .i64 c.cell, .int .u64 c.ver, .int .u64 old, .int .u64 0, .bool c.lin] 64
structure NewAt (ws : List Int) (s : FSx) (c : ChangeV) (w0 : World) (SB : Nat) (old : Int) (AB : Nat) (L1 : List BlockV) (L2 : List StepV) (a1 : Option Addr) (c1 : Nat) (a2 : Option Addr) (c2 : Nat) (nw : Int) (W : World) : Prop where
  ok : U64 nw
  eq : fNew ws s c = nw
  out : (fsStep ws s c).out = L1
  rf : RF w0 W [AB] L1 L2 [] a1 c1 a2 c2 none 0
  blk : Blk W SB #[.int .i64 c.cell, .int .u64 c.ver, .int .u64 old, .int .u64 nw, .bool c.lin] 64
def NewRel (ws : List Int) (s : FSx) (c : ChangeV) (w0 : World) (SB : Nat) (old : Int) (AB : Nat) (L2 : List StepV) (a2 : Option Addr) (c2 : Nat) (v11 : Value) (W : World) : Prop :=
  ∃ (L1' : List BlockV) (a1' : Option Addr) (c1' : Nat) (nw : Int), v11 = .slice a1' L1'.length c1' ∧ NewAt ws s c w0 SB old AB L1' L2 a1' c1' a2 c2 nw W
set_option maxRecDepth 100000 in
set_option maxHeartbeats 3200000 in
theorem rfill_any (S : List Nat) (q : AskH) (x : AskV) (w : World) (H : AskOk w S q x) (l1 : x.c.length ≤ 60) (l2 : x.a.pairs.length ≤ 300) (l3 : x.words.length ≤ 300) (hm : mayK x = true) :
    Calls Try.prog 9 #[.agg (ansA q.pairs x.a), .slice q.c.a x.c.length q.c.c, .slice q.words.a x.words.length q.words.c, .int .i64 x.thread, .int .i64 x.fan] w fun e w' => RFillAt w x e w' := by
  obtain ⟨f, hf, f0, f1, hwl, hfr⟩ := may_parts hm
  obtain ⟨qp, ⟨ca, cq⟩, ⟨wa, wq⟩⟩ := q
  obtain ⟨bw, ow, hwa0, hrr⟩ := word_cell H.words 0 (by omega)
  clear hrr
  simp only at hwa0 ⊢
  subst hwa0
  have hb0 : Below w.heap.size w (w.alloc (.cells (ansA qp x.a) 25)) := by (repeat (first | exact Below.refl _ _ | assumption | refine below_alloc2 ?_ (by first | exact Nat.le_refl _ | omega) _ | refine Below.drew ?_ | refine below_drewN ?_ _ | refine below_push2 ?_ ‹_› (by first | exact Nat.le_refl _ | omega) | refine Below.setCell ?_ (by first | (simp; done) | (simp; omega) | omega) _))
  have BA := Blk.new w (ansA qp x.a) 25
  obtain ⟨AB, hAB⟩ : ∃ b, b = w.heap.size := ⟨_, rfl⟩
  rw [hf]
  replace hwl := Lib.hid hwl
  replace hf := Lib.hid hf
  replace hm := Lib.hid hm
  go_enter Try.func9, Try.ntmps9
  go_upto_region 1 with (fail)
  rw [← hAB] at BA ⊢
  have hABS : ∀ b ∈ AB :: S, b ∈ S ∨ w.heap.size ≤ b := fun b hb => by
    rcases List.mem_cons.1 hb with e | e
    · exact .inr (by omega)
    · exact .inl e
  have HC := (H.c.more hABS).keep (Keeps.of_below hb0)
  have HW := (H.words.more hABS).keep (Keeps.of_below hb0)
  have HP := (H.a.pairs.more hABS).keep (Keeps.of_below hb0)
  clear hABS
  generalize w.alloc (.cells (ansA qp x.a) 25) = w0 at hb0 BA HC HW HP ⊢
  have hAlt : AB < w0.heap.size := BA.lt
  replace hAB := Lib.hid hAB
  have hR0 := RF.nil w0 [AB] (by simpa using hAlt)
  go_wp2_with fail
  go_loopg [11, 12, 13] x.c.length (fun gg v11 v12 i wr => ∃ (k : Nat) (a1 : Option Addr) (c1 : Nat) (a2 : Option Addr) (c2 : Nat), k ≤ x.c.length ∧ x.c.length ≤ k + gg ∧ i = .int .i64 k ∧ v11 = .slice a1 (fsAll x.words (x.c.take k)).out.length c1 ∧ v12 = .slice a2 (fsAll x.words (x.c.take k)).st.length c2 ∧ RF w0 wr [AB] (fsAll x.words (x.c.take k)).out (fsAll x.words (x.c.take k)).st [] a1 c1 a2 c2 none 0)
  case atStart => exact ⟨0, none, 0, none, 0, Nat.zero_le _, by omega, rfl, by simp [fsAll], by simp [fsAll], by simpa [fsAll] using hR0⟩
  case round =>
    clear hR0
    obtain ⟨k, a1, c1, a2, c2, hk, hkg, rfl, rfl, rfl, P⟩ := hrel
    by_cases hlt : k < x.c.length
    · have hlt' : (k : Int) < (x.c.length : Int) := by omega
      obtain ⟨b, off, qn, ha, hbl, hbS, hcs0, hok⟩ := change_out HC k hlt
      have hcs := range_keep hcs0 (Keeps.of_below P.b) hbl hbS
      simp only at ha
      subst ha
      have hfm := froms_at hfr k hlt
      have hS := fsAll_take x.words x.c k hlt
      obtain ⟨hn2, hn1⟩ := fsAll_len x.words x.c k hk
      have hlo : x.c[k].empty = false → fullN (x.c.take k) < x.words.length := fun e => by
        have := fullN_lt x.c k hlt e
        have := hwl.out; omega
      have hm60 : fullN (x.c.take k) ≤ 60 := by
        have := fullN_le (x.c.take k)
        rw [List.length_take] at this; omega
      replace hS := Lib.hid hS
      generalize fullN (x.c.take k) = m at hn1 hlo hm60
      generalize hs : fsAll x.words (x.c.take k) = s at hS hn1 hn2 P
      generalize x.c[k] = c at hcs0 hcs hok hfm hS hlo
      generalize hL1 : s.out = L1 at P hn1
      generalize hL2 : s.st = L2 at P hn2
      replace hs := Lib.hid hs
      replace hL1 := Lib.hid hL1
      replace hL2 := Lib.hid hL2
      replace hn1 := Lib.hid hn1
      replace hn2 := Lib.hid hn2
      obtain ⟨cc, cf, cw, cv, ce, cl, cn⟩ := c
      simp only at hfm hlo
      have nb1 : ∀ g ∈ ob a1, w0.heap.size ≤ g ∧ g < wr.heap.size := P.out.lt
      have nb2 : ∀ g ∈ ob a2, w0.heap.size ≤ g ∧ g < wr.heap.size := P.st.lt
      have z0 := hcs 0 _ rfl
      have z1 := hcs 1 _ rfl
      have z2 := hcs 2 _ rfl
      have z3 := hcs 3 _ rfl
      have z4 := hcs 4 _ rfl
      have z5 := hcs 5 _ rfl
      rw [Nat.add_zero] at z0
      go_upto_region 6 with (fail)
      have hbl' : b < wr.heap.size := by have := P.b.size; omega
      replace hok := Lib.hid hok
      replace hfm := Lib.hid hfm
      replace hlo := Lib.hid hlo
      replace hbS := Lib.hid hbS
      replace nb1 := Lib.hid nb1
      replace nb2 := Lib.hid nb2
      replace hcs0 := Lib.hid hcs0
      replace P := Lib.hid P
      go_cut [14] (fun v14 W => W = (wr.alloc (.cells #[.int .i64 cc, .int .u64 cv, .int .u64 (cw), .int .u64 (0), .bool cl] 64)).drew ∧ v14 = .pointer (some ⟨wr.heap.size, 0, none⟩))
      case first =>
        as_aux_lemma =>
          go_region
          go_wp2_with fail
          go_meet
          exact ⟨rfl, rfl⟩
      case rest =>
        obtain ⟨rfl, rfl⟩ := hcut
        clear z0 z1 z2 z3 z4 z5 hcs
        have hb6 : Below wr.heap.size wr ((wr.alloc (.cells #[.int .i64 cc, .int .u64 cv, .int .u64 (cw), .int .u64 (0), .bool cl] 64)).drew) := ((Below.refl _ wr).alloc (Nat.le_refl _) _).drew
        have BS := (Blk.new wr #[.int .i64 cc, .int .u64 cv, .int .u64 (cw), .int .u64 (0), .bool cl] 64).drew
        obtain ⟨SB, hSB⟩ : ∃ b, b = wr.heap.size := ⟨_, rfl⟩
        rw [← hSB] at BS ⊢
        have P6 := P.out.under hb6
        have hcs6 := range_keep hcs0.out (Keeps.of_below (S := AB :: S) P6.b) hbl hbS.out
        generalize (wr.alloc (.cells #[.int .i64 cc, .int .u64 cv, .int .u64 (cw), .int .u64 (0), .bool cl] 64)).drew = w6 at hb6 BS P6 hcs6 ⊢
        replace hSB := Lib.hid hSB
        have z1 := hcs6 1 _ rfl
        go_upto_if 51 with (fail)
        go_cut [] (fun W => ∃ old, OldAt x.words s ⟨cc, cf, cw, cv, ce, cl, cn⟩ wr SB old W)
        case first =>
          by_cases hf1 : cf = -1
          · subst hf1
            go_wp2_with fail
            go_meet
            exact ⟨cw, hok.out.word, by unfold fOld; rw [if_neg (by simp)], hb6, BS⟩
          · obtain ⟨f', rfl⟩ : ∃ f : Nat, cf = (f : Int) := ⟨cf.toNat, by have := hfm.out; omega⟩
            have hfk : f' < L2.length := by have := hn2.out; have := hfm.out; omega
            have hfk' : (f' : Int) < (L2.length : Int) := by omega
            have hR := (show HRow Dp.stepT w6 [] ⟨a2, c2⟩ L2 from OwnV.hrow (P6.st.rep (fun _ _ h => h)) (by decide) (by simp))
            obtain ⟨b2, off2, ha2, hbl2, hc2, hok2⟩ := step_at hR f' hfk
            simp only at ha2
            subst ha2
            have v3 := hc2 3 _ rfl
            have f2 := BS.free 2
            have s2 := BS.at 2 rfl
            have hOk : U64 L2[f'].new := hok2.new
            have hOld : Hid (fOld s ⟨cc, (f' : Int), cw, cv, ce, cl, cn⟩ = L2[f'].new) := Lib.hid (by
              unfold fOld
              rw [if_pos (by simp)]
              rw [hL2.out, Int.toNat_natCast, List.getD_eq_getElem?_getD, List.getElem?_eq_getElem hfk]; rfl)
            generalize L2[f'].new = old at v3 hOk hOld
            go_wp2_with fail
            go_meet
            refine ⟨old, hOk, hOld.out, hb6.setCell (p := ⟨SB, 2, none⟩) (Nat.le_of_eq hSB.out.symm) (.int .u64 old), ?_⟩
            simpa using BS.set 2 (.int .u64 old)
        case rest =>
          obtain ⟨old, hOk, hOld, hb7, BS7⟩ := hcut
          replace hOld := Lib.hid hOld
          have P7 := P.out.under hb7
          have hcs7 := range_keep hcs0.out (Keeps.of_below (S := AB :: S) P7.b) hbl hbS.out
          simp only at BS7
          clear hb6 BS P6 hcs6 z1 hfm
          have z4 := hcs7 4 _ rfl
          apply_assumption
          go_upto_if 67 with (fail)
          go_cut [11] (fun v11 W => NewRel x.words s ⟨cc, cf, cw, cv, ce, cl, cn⟩ w0 SB old AB L2 a2 c2 v11 W)
          case first =>
            cases ce
            · have hmw : L1.length < x.words.length := by have := hlo.out rfl; have := hn1.out; omega
              obtain ⟨bw', ow', hwa, hwl2, hwc, hwu⟩ := word_cell (HW.keep (Keeps.of_below P7.b)) L1.length hmw
              simp only [Option.some.injEq, Addr.mk.injEq, and_true] at hwa
              obtain ⟨rfl, rfl⟩ := hwa
              have hE1 : Hid ((fsStep x.words s ⟨cc, cf, cw, cv, false, cl, cn⟩).out = L1 ++ [nodeB cn]) := Lib.hid (by
                show s.out ++ [_] = _
                rw [hL1.out]; rfl)
              have hE2 : Hid (fNew x.words s ⟨cc, cf, cw, cv, false, cl, cn⟩ = x.words[L1.length]) := Lib.hid (by
                unfold fNew
                rw [hL1.out, List.getD_eq_getElem?_getD, List.getElem?_eq_getElem hmw]; rfl)
              have hl60 : L1.length ≤ 60 := by have := hn1.out; omega
              have hmw' : (L1.length : Int) < (x.words.length : Int) := by omega
              generalize x.words[L1.length] = nw at hwc hwu hE2
              have hnok := hok.out.node
              simp only at hnok
              have s3 := BS7.at 3 rfl
              have g3 := BS7.free 3
              go_upto_region 11 with (fail)
              have BS9 := BS7.set 3 (.int .u64 nw)
              simp only [List.setIfInBounds_toArray, List.set_cons_succ, List.set_cons_zero] at BS9
              have hb9 := hb7.setCell (p := ⟨SB, 3, none⟩) (Nat.le_of_eq hSB.out.symm) (.int .u64 nw)
              have P9 := P.out.under hb9
              have hcs9 := range_keep hcs0.out (Keeps.of_below (S := AB :: S) P9.b) hbl hbS.out
              clear P7 hb7 BS7 s3 g3 hwc z4 hcs7
              generalize wc.setCell ⟨SB, 3, none⟩ (.int .u64 nw) = w9 at P9 BS9 hb9 hcs9 ⊢
              have hnd : w9.rangeAt b (off + k * 14 + 6) (nodeA qn cn).toList := change_node (x := ⟨cc, cf, cw, cv, false, cl, cn⟩) hcs9
              have hbA : Below w9.heap.size w9 (w9.alloc (.cells (blkN qn cn) 48)) := (Below.refl _ w9).alloc (Nat.le_refl _) _
              have PA := P9.under hbA
              have BSA := BS9.below hbA
              have hnokA : NodeOk (w9.alloc (.cells (blkN qn cn) 48)) (rfS [AB] a1 a2 none) qn cn := (nodeOk_more hnok (fun b hb => by
                simp only [rfS, List.mem_append, List.mem_singleton] at hb
                rcases hb with h | h | h | h
                · exact .inl (by simp [h])
                · exact .inr (nb1.out b h).1
                · exact .inr (nb2.out b h).1
                · simp [ob] at h)).keep (Keeps.of_below PA.b)
              obtain ⟨g1, d1, wA, A1⟩ := PA.out.addLit tinBlock (by decide) (Blk.new w9 (blkN qn cn) 48) (blkN_rep hnokA) (by omega) (by decide) PA.b.size
              have PB := PA.addOut A1
              have BSB := A1.fr.blk BSA (fun e => by have := (nb1.out _ e).2; have := hSB.out; omega)
              have hr1 := Lib.hid A1.run
              clear PA P9 BS9 BSA A1 hbA hnok hnokA hcs9 hb9
              go_wp2_with (first
                | (at_builtin; refine wpList_append_run hr1.out rfl (by rfl) (by rfl) (by rfl) ?_)
                | (refine wpList_load_mid rfl 43 _ rfl b (off + k * 14 + 6) rfl (nodeA qn cn).toList _ hnd Try.underlying43 rfl (by kernel_rfl) ?_))
              go_meet
              exact ⟨_, _, _, nw, by rw [List.length_append]; rfl, ⟨hwu, hE2.out, hE1.out, PB, BSB⟩⟩
            · go_wp2_with fail
              go_meet
              exact ⟨L1, a1, c1, 0, rfl, ⟨show U64 0 from ⟨by decide, by decide⟩, rfl, by show s.out = _; exact hL1.out, P7, BS7⟩⟩
          case rest =>
            obtain ⟨L1', a1', c1', nw, rfl, N⟩ := hcut
            have P8 := N.rf
            have BS8 := N.blk
            simp only at BS8
            have hE1 : Hid ((fsAll x.words (x.c.take (k + 1))).out = L1') := Lib.hid (by rw [hS.out]; exact N.out)
            have hE2 : Hid ((fsAll x.words (x.c.take (k + 1))).st = L2 ++ [⟨cc, cv, old, nw, cl⟩]) := Lib.hid (by
              rw [hS.out]
              show s.st ++ [_] = _
              rw [hOld.out, hL2.out, N.eq])
            have hl60 : L2.length ≤ 60 := by have := hn2.out; omega
            have hbB : Below wc.heap.size wc (wc.alloc (.cells #[.int .i64 cc, .int .u64 cv, .int .u64 (old), .int .u64 (nw), .bool cl] 64)) := (Below.refl _ _).alloc (Nat.le_refl _) _
            have PC := P8.under hbB
            obtain ⟨g2, d2, wC, A2⟩ := PC.st.addLit tinStep (by decide) (Blk.new wc #[.int .i64 cc, .int .u64 cv, .int .u64 (old), .int .u64 (nw), .bool cl] 64) (stepT_mk (x := ⟨cc, cv, old, nw, cl⟩) ⟨hok.out.cell, hok.out.ver, hOk, N.ok⟩) (by omega) (by decide) PC.b.size
            have PD := PC.addSt A2
            have hr2 := Lib.hid A2.run
            have y0 := BS8.at 0 rfl
            have y1 := BS8.at 1 rfl
            have y2 := BS8.at 2 rfl
            have y3 := BS8.at 3 rfl
            have y4 := BS8.at 4 rfl
            clear PC A2 hbB N P8 BS8 hok hlo hS hOld P7 BS7 hb7 hcs7 z4
            go_wp2_with (at_builtin; refine wpList_append_run hr2.out rfl (by rfl) (by rfl) (by rfl) ?_)
            go_roundg (x.c.length - (k + 1))
            case measure => omega
            case rel => exact ⟨k + 1, _, _, _, _, by omega, by omega, by go_num, by rw [hE1.out], by rw [hE2.out, List.length_append]; rfl, by rw [hE1.out, hE2.out]; exact PD⟩
    · obtain rfl : k = x.c.length := by omega
      have hn1 := (fsAll_len x.words x.c x.c.length (Nat.le_refl _)).2
      rw [List.take_length] at P hn1
      rw [List.take_length]
      generalize hL1 : (fsAll x.words x.c).out = L1 at P hn1 ⊢
      generalize hL2 : (fsAll x.words x.c).st = L2 at P ⊢
      replace hL1 := Lib.hid hL1
      replace hL2 := Lib.hid hL2
      replace hn1 := Lib.hid hn1
      clear hlt hk hkg
      obtain ⟨pa, pc⟩ := qp
      have hNl : Hid (∀ j, j < chunkN f x.a.pairs.length ↔ j * f < x.a.pairs.length) := Lib.hid (fun j => chunkN_lt (by omega))
      go_wp2_with fail
      go_loopg [11, 15, 16] (chunkN f x.a.pairs.length) (fun gg v11 v15 i wr => ∃ (j k : Nat) (a1 : Option Addr) (c1 : Nat) (a3 : Option Addr) (c3 : Nat), j ≤ chunkN f x.a.pairs.length ∧ chunkN f x.a.pairs.length ≤ j + gg ∧ Hid (k = j * f) ∧ k ≤ 2000000 ∧ i = .int .i64 k ∧ v11 = .slice a1 (L1 ++ chsL f x.a.pairs j).length c1 ∧ v15 = .slice a3 ((x.words.drop (fullN x.c)).take j).length c3 ∧ RF w0 wr [AB] (L1 ++ chsL f x.a.pairs j) L2 ((x.words.drop (fullN x.c)).take j) a1 c1 a2 c2 a3 c3)
      case atStart => exact ⟨0, 0, a1, c1, none, 0, Nat.zero_le _, by omega, Lib.hid (by simp), by omega, rfl, by simp [chsL], by simp, by simpa [chsL] using P⟩
      case round =>
        clear P
        obtain ⟨j, k, a1, c1, a3, c3, hj, hjg, hkj, hk2, rfl, rfl, rfl, P⟩ := hrel
        have BA' := BA.below P.b
        have A3 : wr.cell? ⟨AB, 3, none⟩ = some (.slice pa x.a.pairs.length pc) := BA'.at 3 rfl
        by_cases hlt : k < x.a.pairs.length
        · have hlt' : (k : Int) < (x.a.pairs.length : Int) := by omega
          have hjN : j < chunkN f x.a.pairs.length := (hNl.out j).2 (by have := hkj.out; omega)
          obtain ⟨bp, op, hpa, _⟩ := HP.row (by omega)
          simp only at hpa
          subst hpa
          have hLl : (L1 ++ chsL f x.a.pairs j).length = fullN x.c + j := by rw [List.length_append, chsL_len]; have := hn1.out; omega
          have hmw : (L1 ++ chsL f x.a.pairs j).length < x.words.length := by have := hwl.out; omega
          obtain ⟨bw', ow', hwa, hwl2, hwc, hwu⟩ := word_cell (HW.keep (Keeps.of_below P.b)) (L1 ++ chsL f x.a.pairs j).length hmw
          simp only [Option.some.injEq, Addr.mk.injEq, and_true] at hwa
          obtain ⟨rfl, rfl⟩ := hwa
          have hmw' : ((L1 ++ chsL f x.a.pairs j).length : Int) < (x.words.length : Int) := by omega
          have hE1 : Hid (L1 ++ chsL f x.a.pairs (j + 1) = (L1 ++ chsL f x.a.pairs j) ++ [fPairs ((x.a.pairs.drop k).take f)]) := Lib.hid (by
            rw [chsL_succ, ← List.append_assoc, hkj.out]; rfl)
          have hE2 : Hid ((x.words.drop (fullN x.c)).take (j + 1) = (x.words.drop (fullN x.c)).take j ++ [x.words[(L1 ++ chsL f x.a.pairs j).length]]) := Lib.hid (by
            have h1 : fullN x.c + j < x.words.length := by omega
            rw [exW_succ _ _ _ h1, List.getD_eq_getElem?_getD, List.getElem?_eq_getElem h1]
            simp only [hLl]; rfl)
          have hle : (L1 ++ chsL f x.a.pairs j).length ≤ 400 ∧ ((x.words.drop (fullN x.c)).take j).length ≤ 400 := by
            rw [List.length_take, hLl]; have := hwl.out; omega
          clear hLl
          generalize x.words[(L1 ++ chsL f x.a.pairs j).length] = nw at hwc hwu hE2
          generalize L1 ++ chsL f x.a.pairs j = L at P hmw hmw' hwc hE1 hle
          generalize (x.words.drop (fullN x.c)).take j = W at P hE2 hle
          have hbM : Below wr.heap.size wr (wr.alloc (.cells #[.int .u64 nw] 22)) := (Below.refl _ _).alloc (Nat.le_refl _) _
          have P2 := P.under hbM
          obtain ⟨g2, d2, w1, A2⟩ := P2.wo.addLit tinU64 (by decide) (Blk.new wr #[.int .u64 nw] 22) (x := nw) ⟨rfl, wf_u64 hwu⟩ (by omega) (by decide) P2.b.size
          have P3 := P2.addW A2
          have hr2 := Lib.hid A2.run
          clear P2 A2 hbM
          go_upto_region 18 with (at_builtin; refine wpList_append_run hr2.out rfl (by rfl) (by rfl) (by rfl) ?_)
          have hbB : Below w1.heap.size w1 (w1.alloc (.cells (blkP none 0 0) 48)) := (Below.refl _ _).alloc (Nat.le_refl _) _
          have BB1 := Blk.new w1 (blkP none 0 0) 48
          have hzb := World.size_alloc w1 (.cells (blkP none 0 0) 48)
          obtain ⟨BB, hBB⟩ : ∃ b, b = w1.heap.size := ⟨_, rfl⟩
          go_upto_region 19 with (refine wpList_store_row rfl 48 _ _ rfl _ _ rfl rfl 48 _ (Blk.new w1 _ _).h (by kernel_rfl) (by rfl) (by kernel_rfl) ?_; rw [World.setRow_alloc_new])
          rw [← hBB] at BB1 ⊢
          clear hr2 hwc A3 BA'
          have C0 : CH w1 (w1.alloc (.cells (blkP none 0 0) 48)) BB [] none 0 := ⟨hbB, by omega, BB1, OwnV.nil _ _ _ _ _⟩
          have hzB : BB < (w1.alloc (.cells (blkP none 0 0) 48)).heap.size := by omega
          generalize w1.alloc (.cells (blkP none 0 0) 48) = w2 at C0 hzB ⊢
          clear hbB BB1 hzb
          replace hBB := Lib.hid hBB
          go_wp2_with fail
          go_loopg [18] x.a.pairs.length (fun gg i w3 => ∃ (q : Nat) (a4 : Option Addr) (c4 : Nat), k ≤ q ∧ q ≤ x.a.pairs.length ∧ q ≤ k + f ∧ x.a.pairs.length ≤ q + gg ∧ i = .int .i64 q ∧ CH w1 w3 BB ((x.a.pairs.drop k).take (q - k)) a4 c4)
          case atStart => exact ⟨k, none, 0, Nat.le_refl _, by omega, by omega, by omega, rfl, by simpa using C0⟩
          case round =>
            clear C0 hzB
            obtain ⟨q, a4, c4, hkq, hqn, hqf, hqg, rfl, C⟩ := hrel
            have hb03 := below_push2 P3.b C.b (Nat.le_refl _)
            have BA3 := BA.below hb03
            have A3 : wr.cell? ⟨AB, 3, none⟩ = some (.slice (some ⟨bp, op, none⟩) x.a.pairs.length pc) := BA3.at 3 rfl
            have hAl3 : AB < wr.heap.size := BA3.lt
            by_cases h1 : q < x.a.pairs.length
            · have h1' : (q : Int) < (x.a.pairs.length : Int) := by omega
              by_cases h2 : q < k + f
              · have h2' : decide ((q : Int) < (k : Int) + (f : Int)) = true := by simp; omega
                obtain ⟨b9, o9, e9, hb9, p0, p1, hpok⟩ := pair_at (HP.keep (Keeps.of_below hb03)) q h1
                simp only [Option.some.injEq, Addr.mk.injEq, and_true] at e9
                obtain ⟨rfl, rfl⟩ := e9
                have hgr := chunk_grow (ps := x.a.pairs) hkq h1
                generalize x.a.pairs[q] = pv at p0 p1 hpok hgr
                obtain ⟨pk, pvv⟩ := pv
                simp only at p0 p1
                have hgl : ((x.a.pairs.drop k).take (q - k)).length ≤ 300 := by rw [List.length_take, List.length_drop]; omega
                replace hgr := Lib.hid hgr
                generalize (x.a.pairs.drop k).take (q - k) = l at C hgr hgl
                have B16 : wr.cell? ⟨BB, 16, none⟩ = some (.slice a4 l.length c4) := C.blk.at 16 rfl
                have hBl3 : BB < wr.heap.size := C.blk.lt
                have hbx : Below wr.heap.size wr ((wr.alloc (.cells #[.string pk, .int .u64 pvv] 78)).drew) := ((Below.refl _ _).alloc (Nat.le_refl _) _).drew
                obtain ⟨g4, d4, w5, A4⟩ := ((C.own.below hbx).rep (wr' := (wr.alloc (.cells #[.string pk, .int .u64 pvv] 78)).drew) (S' := []) (fun _ _ h => flat_pair.any h)).addLit tinPair (by decide) ((Blk.new wr #[.string pk, .int .u64 pvv] 78).drew) (x := ⟨pk, pvv⟩) (pairT_mk hpok) (by omega) (by decide) (by have := hbx.size; omega)
                obtain ⟨C', B5⟩ := C.grow hbx A4
                have hr4 := Lib.hid A4.run
                have s16 : w5.cell? ⟨BB, 16, none⟩ = some (.slice a4 l.length c4) := B5.at 16 rfl
                have g16 := B5.free 16
                clear A4 B5 hbx hpok BA3 C
                go_upto_region 22 with (fail)
                go_region_law (refine step_append_run hr4.out rfl (by rfl) (by rfl) (by rfl) ?_)
                all_goals
                  clear A3 hAl3 p0 p1 B16 hBl3 hr4 s16 g16
                  go_wp2_with fail
                  go_roundg (x.a.pairs.length - (q + 1))
                  case measure => omega
                  case rel => exact ⟨q + 1, _, _, by omega, by omega, by omega, by omega, by go_num, by rw [hgr.out]; exact C'⟩
              · have h2' : decide ((q : Int) < (k : Int) + (f : Int)) = false := by simp; omega
                have hdn := chunk_done (ps := x.a.pairs) hkq hqn hqf (by omega)
                rw [hdn] at C
                have hcl : ((x.a.pairs.drop k).take f).length ≤ 300 := by rw [List.length_take, List.length_drop]; omega
                generalize (x.a.pairs.drop k).take f = l at C hE1 hcl
                have P4 := P3.under C.b
                have hold := P3.old
                have hlo4 := C.own.lt
                have hB4 := hBB.out
                have hCH : HRow pairT wr (rfS [AB] a1 a2 (some ⟨g2, 0, none⟩)) ⟨a4, c4⟩ l := (C.own.rep (wr' := wr) (S' := rfS [AB] a1 a2 (some ⟨g2, 0, none⟩)) (fun _ _ h => flat_pair.any h)).hrow (by decide) (fun g hg e => by have := hold g e; have := (hlo4 g hg).1; omega)
                have hbx : Below wr.heap.size wr (wr.alloc (.cells (blkP a4 l.length c4) 48)) := (Below.refl _ _).alloc (Nat.le_refl _) _
                have P5 := P4.under hbx
                obtain ⟨g5, d5, w6, A5⟩ := P5.out.addLit tinBlock (by decide) (Blk.new wr (blkP a4 l.length c4) 48) (blkP_rep (q := ⟨a4, c4⟩) (hCH.keep (Keeps.of_below hbx))) (by omega) (by decide) P5.b.size
                have P6 := P5.addOut A5
                have hr5 := Lib.hid A5.run
                have CB := C.blk
                have hkj' : Hid (k + f = (j + 1) * f) := Lib.hid (by rw [Nat.succ_mul, hkj.out])
                clear P4 hold hlo4 hCH hbx P5 A5 hdn C P3 hB4
                go_wp2_with (first
                  | (at_builtin; refine wpList_append_run hr5.out rfl (by rfl) (by rfl) (by rfl) ?_)
                  | (refine wpList_load_row rfl 48 _ rfl BB rfl 48 _ (0, 0) _ CB.h Try.underlying48 rfl (by kernel_rfl) ?_))
                go_roundg (chunkN f x.a.pairs.length - (j + 1))
                case measure => omega
                case rel => exact ⟨j + 1, k + f, _, _, _, _, by omega, by omega, hkj', by omega, by go_num, by rw [hE1.out, List.length_append]; rfl, by rw [hE2.out, List.length_append]; rfl, by rw [hE1.out, hE2.out]; exact P6⟩
            · have h1' : ¬ (q : Int) < (x.a.pairs.length : Int) := by omega
              have hdn := chunk_done (ps := x.a.pairs) hkq hqn hqf (by omega)
              rw [hdn] at C
              have hcl : ((x.a.pairs.drop k).take f).length ≤ 300 := by rw [List.length_take, List.length_drop]; omega
              generalize (x.a.pairs.drop k).take f = l at C hE1 hcl
              have P4 := P3.under C.b
              have hold := P3.old
              have hlo4 := C.own.lt
              have hB4 := hBB.out
              have hCH : HRow pairT wr (rfS [AB] a1 a2 (some ⟨g2, 0, none⟩)) ⟨a4, c4⟩ l := (C.own.rep (wr' := wr) (S' := rfS [AB] a1 a2 (some ⟨g2, 0, none⟩)) (fun _ _ h => flat_pair.any h)).hrow (by decide) (fun g hg e => by have := hold g e; have := (hlo4 g hg).1; omega)
              have hbx : Below wr.heap.size wr (wr.alloc (.cells (blkP a4 l.length c4) 48)) := (Below.refl _ _).alloc (Nat.le_refl _) _
              have P5 := P4.under hbx
              obtain ⟨g5, d5, w6, A5⟩ := P5.out.addLit tinBlock (by decide) (Blk.new wr (blkP a4 l.length c4) 48) (blkP_rep (q := ⟨a4, c4⟩) (hCH.keep (Keeps.of_below hbx))) (by omega) (by decide) P5.b.size
              have P6 := P5.addOut A5
              have hr5 := Lib.hid A5.run
              have CB := C.blk
              have hkj' : Hid (k + f = (j + 1) * f) := Lib.hid (by rw [Nat.succ_mul, hkj.out])
              clear P4 hold hlo4 hCH hbx P5 A5 hdn C P3 hB4
              go_wp2_with (first
                | (at_builtin; refine wpList_append_run hr5.out rfl (by rfl) (by rfl) (by rfl) ?_)
                | (refine wpList_load_row rfl 48 _ rfl BB rfl 48 _ (0, 0) _ CB.h Try.underlying48 rfl (by kernel_rfl) ?_))
              go_roundg (chunkN f x.a.pairs.length - (j + 1))
              case measure => omega
              case rel => exact ⟨j + 1, k + f, _, _, _, _, by omega, by omega, hkj', by omega, by go_num, by rw [hE1.out, List.length_append]; rfl, by rw [hE2.out, List.length_append]; rfl, by rw [hE1.out, hE2.out]; exact P6⟩
        · obtain rfl : j = chunkN f x.a.pairs.length := by
            have h1 : ¬ j < chunkN f x.a.pairs.length := fun h => hlt (by have := (hNl.out j).1 h; have := hkj.out; omega)
            omega
          have hfz : fillV x = (L1 ++ chsL f x.a.pairs (chunkN f x.a.pairs.length)) ++ [⟨2, fNodeZ, ⟨x.thread, ⟨x.a.code, x.a.key, x.a.val, []⟩, L2, (x.words.drop (fullN x.c)).take (chunkN f x.a.pairs.length)⟩, []⟩] := by
            unfold fillV fPlan fExtra
            rw [hf.out, Int.toNat_natCast, hL1.out, hL2.out, List.append_assoc]
            unfold chunksV chsL
            rw [List.map_map]; rfl
          have hle : (L1 ++ chsL f x.a.pairs (chunkN f x.a.pairs.length)).length ≤ 400 := by
            rw [List.length_append, chsL_len]; have := hn1.out; have := hwl.out; omega
          generalize L1 ++ chsL f x.a.pairs (chunkN f x.a.pairs.length) = L at P hfz hle ⊢
          generalize (x.words.drop (fullN x.c)).take (chunkN f x.a.pairs.length) = W at P hfz ⊢
          replace hfz := Lib.hid hfz
          have g3 := BA'.free 3
          have hABv := hAB.out
          have BF := BA'.set 3 (.slice none 0 0)
          simp only [List.setIfInBounds_toArray, List.set_cons_succ, List.set_cons_zero] at BF
          have FF : Fr [AB] wr (wr.setCell ⟨AB, 3, none⟩ (.slice none 0 0)) := (Fr.refl _ _).set _ _ (.inl (by simp))
          have hbF : Below w.heap.size w (wr.setCell ⟨AB, 3, none⟩ (.slice none 0 0)) := (below_push2 hb0 P.b (Nat.le_refl _)).setCell (p := ⟨AB, 3, none⟩) (show w.heap.size ≤ AB by omega) _
          have a0 := BF.at 0 rfl
          have b1 := BF.at 1 rfl
          have b2 := BF.at 2 rfl
          have b3 := BF.at 3 rfl
          have hO := P.out.lt
          have hT := P.st.lt
          have hV := P.wo.lt
          have hbX : Below (wr.setCell ⟨AB, 3, none⟩ (.slice none 0 0)).heap.size (wr.setCell ⟨AB, 3, none⟩ (.slice none 0 0)) ((wr.setCell ⟨AB, 3, none⟩ (.slice none 0 0)).alloc (.cells #[.int .i64 2, .int .i64 0, .string ⟨#[]⟩, .string ⟨#[]⟩, .bool false, .int .i64 0, .slice none 0 0, .slice none 0 0, .slice none 0 0, .int .i64 x.thread, .int .i64 x.a.code, .string x.a.key, .int .u64 x.a.val, .slice none 0 0, .slice a2 L2.length c2, .slice a3 W.length c3, .slice none 0 0] 48)) := (Below.refl _ _).alloc (Nat.le_refl _) _
          have BX := Blk.new (wr.setCell ⟨AB, 3, none⟩ (.slice none 0 0)) #[.int .i64 2, .int .i64 0, .string ⟨#[]⟩, .string ⟨#[]⟩, .bool false, .int .i64 0, .slice none 0 0, .slice none 0 0, .slice none 0 0, .int .i64 x.thread, .int .i64 x.a.code, .string x.a.key, .int .u64 x.a.val, .slice none 0 0, .slice a2 L2.length c2, .slice a3 W.length c3, .slice none 0 0] 48
          have FX : Fr [AB] wr ((wr.setCell ⟨AB, 3, none⟩ (.slice none 0 0)).alloc (.cells #[.int .i64 2, .int .i64 0, .string ⟨#[]⟩, .string ⟨#[]⟩, .bool false, .int .i64 0, .slice none 0 0, .slice none 0 0, .slice none 0 0, .int .i64 x.thread, .int .i64 x.a.code, .string x.a.key, .int .u64 x.a.val, .slice none 0 0, .slice a2 L2.length c2, .slice a3 W.length c3, .slice none 0 0] 48)) := FF.trans (Fr.of_below hbX)
          have hbY := below_push2 hbF hbX (Nat.le_refl _)
          have nA : ∀ a : Option Addr, (∀ g ∈ ob a, w0.heap.size ≤ g ∧ g < wr.heap.size) → ∀ g ∈ ob a, g ∉ [AB] := fun a h g hg e => by
            have := (h g hg).1
            simp at e; omega
          have O9 : OwnV blockT ((wr.setCell ⟨AB, 3, none⟩ (.slice none 0 0)).alloc (.cells #[.int .i64 2, .int .i64 0, .string ⟨#[]⟩, .string ⟨#[]⟩, .bool false, .int .i64 0, .slice none 0 0, .slice none 0 0, .slice none 0 0, .int .i64 x.thread, .int .i64 x.a.code, .string x.a.key, .int .u64 x.a.val, .slice none 0 0, .slice a2 L2.length c2, .slice a3 W.length c3, .slice none 0 0] 48)) (AB :: ob a1) ((wr.setCell ⟨AB, 3, none⟩ (.slice none 0 0)).alloc (.cells #[.int .i64 2, .int .i64 0, .string ⟨#[]⟩, .string ⟨#[]⟩, .bool false, .int .i64 0, .slice none 0 0, .slice none 0 0, .slice none 0 0, .int .i64 x.thread, .int .i64 x.a.code, .string x.a.key, .int .u64 x.a.val, .slice none 0 0, .slice a2 L2.length c2, .slice a3 W.length c3, .slice none 0 0] 48)) w0.heap.size 48 a1 c1 L := ((P.out.keep (FX.keeps.more (by simp [rfS]))).fr FX (nA a1 hO)).more (fun b hb => .inl (by
            rcases List.mem_cons.1 hb with e | e
            · simp [rfS, e]
            · simp [rfS, e]))
          have hSt : HRow Dp.stepT ((wr.setCell ⟨AB, 3, none⟩ (.slice none 0 0)).alloc (.cells #[.int .i64 2, .int .i64 0, .string ⟨#[]⟩, .string ⟨#[]⟩, .bool false, .int .i64 0, .slice none 0 0, .slice none 0 0, .slice none 0 0, .int .i64 x.thread, .int .i64 x.a.code, .string x.a.key, .int .u64 x.a.val, .slice none 0 0, .slice a2 L2.length c2, .slice a3 W.length c3, .slice none 0 0] 48)) (AB :: ob a1) ⟨a2, c2⟩ L2 := ((P.st.fr FX (nA a2 hT)).rep (wr' := (wr.setCell ⟨AB, 3, none⟩ (.slice none 0 0)).alloc (.cells #[.int .i64 2, .int .i64 0, .string ⟨#[]⟩, .string ⟨#[]⟩, .bool false, .int .i64 0, .slice none 0 0, .slice none 0 0, .slice none 0 0, .int .i64 x.thread, .int .i64 x.a.code, .string x.a.key, .int .u64 x.a.val, .slice none 0 0, .slice a2 L2.length c2, .slice a3 W.length c3, .slice none 0 0] 48)) (S' := AB :: ob a1) (fun _ _ h => h)).hrow (by decide) (fun g hg e => by
            rcases List.mem_cons.1 e with e | e
            · have := (hT g hg).1; omega
            · exact P.n12 g e hg)
          have hWr : HRow u64C ((wr.setCell ⟨AB, 3, none⟩ (.slice none 0 0)).alloc (.cells #[.int .i64 2, .int .i64 0, .string ⟨#[]⟩, .string ⟨#[]⟩, .bool false, .int .i64 0, .slice none 0 0, .slice none 0 0, .slice none 0 0, .int .i64 x.thread, .int .i64 x.a.code, .string x.a.key, .int .u64 x.a.val, .slice none 0 0, .slice a2 L2.length c2, .slice a3 W.length c3, .slice none 0 0] 48)) (AB :: ob a1) ⟨a3, c3⟩ W := ((P.wo.fr FX (nA a3 hV)).rep (wr' := (wr.setCell ⟨AB, 3, none⟩ (.slice none 0 0)).alloc (.cells #[.int .i64 2, .int .i64 0, .string ⟨#[]⟩, .string ⟨#[]⟩, .bool false, .int .i64 0, .slice none 0 0, .slice none 0 0, .slice none 0 0, .int .i64 x.thread, .int .i64 x.a.code, .string x.a.key, .int .u64 x.a.val, .slice none 0 0, .slice a2 L2.length c2, .slice a3 W.length c3, .slice none 0 0] 48)) (S' := AB :: ob a1) (fun _ _ h => h)).hrow (by decide) (fun g hg e => by
            rcases List.mem_cons.1 e with e | e
            · have := (hV g hg).1; omega
            · exact P.n13 g e hg)
          have hrep : blockT.rep ((wr.setCell ⟨AB, 3, none⟩ (.slice none 0 0)).alloc (.cells #[.int .i64 2, .int .i64 0, .string ⟨#[]⟩, .string ⟨#[]⟩, .bool false, .int .i64 0, .slice none 0 0, .slice none 0 0, .slice none 0 0, .int .i64 x.thread, .int .i64 x.a.code, .string x.a.key, .int .u64 x.a.val, .slice none 0 0, .slice a2 L2.length c2, .slice a3 W.length c3, .slice none 0 0] 48)) (AB :: ob a1) (#[.int .i64 2, .int .i64 0, .string ⟨#[]⟩, .string ⟨#[]⟩, .bool false, .int .i64 0, .slice none 0 0, .slice none 0 0, .slice none 0 0, .int .i64 x.thread, .int .i64 x.a.code, .string x.a.key, .int .u64 x.a.val, .slice none 0 0, .slice a2 L2.length c2, .slice a3 W.length c3, .slice none 0 0]).toList ⟨2, fNodeZ, ⟨x.thread, ⟨x.a.code, x.a.key, x.a.val, []⟩, L2, W⟩, []⟩ :=
            blockT_mk (q := ⟨⟨Hd.nil, Hd.nil, Hd.nil⟩, ⟨Hd.nil, ⟨a2, c2⟩, ⟨a3, c3⟩⟩, Hd.nil⟩) (x := ⟨2, fNodeZ, ⟨x.thread, ⟨x.a.code, x.a.key, x.a.val, []⟩, L2, W⟩, []⟩) ⟨show I64 2 from ⟨by decide, by decide⟩, node0_ok _ _, ⟨H.thread, ⟨H.a.code, H.a.key, H.a.val, HRow.nil _ _ _⟩, hSt, hWr⟩, HRow.nil _ _ _⟩
          obtain ⟨g, cf, w10, A9⟩ := O9.addLit tinBlock (by decide) BX hrep (by omega) (by decide) (by have := FX.size; have := P.b.size; omega)
          have hr9 := A9.run
          simp only [World.size_setCell] at hr9
          replace hr9 := Lib.hid hr9
          have OF : OwnV blockT w10 [] w10 w0.heap.size 48 (some ⟨g, 0, none⟩) cf (fillV x) := by
            rw [hfz.out]
            exact more_own A9.own (A9.at'.imp (fun k => by simp [k]) id) A9.fr (fun b hb => by simp [hb]) (by simp)
          have hbZ : Below w.heap.size w w10 := A9.fr.below hbY (Nat.le_refl _) (fun b hb => by have := (hO b hb).1; omega)
          have hlf : Hid ((fillV x).length = L.length + 1) := Lib.hid (by rw [hfz.out, List.length_append]; rfl)
          clear A9 O9 hSt hWr hrep BX FX hbX hbY nA BF FF hbF hO hT hV P BA' hABv
          go_wp2_with (at_builtin; refine wpList_append_run hr9.out rfl (by rfl) (by rfl) (by rfl) ?_)
          go_ret
          exact ⟨some ⟨g, 0, none⟩, cf, by rw [hlf.out]; rfl, OF.hrow (by decide) (by simp), hbZ⟩
end Go.Proofs.Ytnecikholpiefaa.Dp
