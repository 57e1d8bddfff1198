/-
  PlanAnswers: the law's walk.
-/
import Derived.Test.YtnecikholpiefaaPlanS
import Derived.Deep.DeepCutAuto
import Derived.Deep.LoopGhost
namespace Go.Proofs.Ytnecikholpiefaa.Dp
open Go.RowKit RefP FoP Go.Sort HazP
set_option linter.unusedVariables false
set_option linter.unusedSimpArgs false
abbrev filledX (n : Int) (h : BlockH) (x : BlockV) : Array Value := #[.int .u64 n, .int .i64 x.kind, .int .i64 x.node.level, .string x.node.low, .string x.node.high, .bool x.node.last, .int .i64 x.node.next, .slice h.node.keys.a x.node.keys.length h.node.keys.c, .slice h.node.vals.a x.node.vals.length h.node.vals.c, .slice h.node.kids.a x.node.kids.length h.node.kids.c, .int .i64 x.plan.thread, .int .i64 x.plan.ans.code, .string x.plan.ans.key, .int .u64 x.plan.ans.val, .slice h.plan.pairs.a x.plan.ans.pairs.length h.plan.pairs.c, .slice h.plan.steps.a x.plan.steps.length h.plan.steps.c, .slice h.plan.extra.a x.plan.extra.length h.plan.extra.c, .slice h.pairs.a x.pairs.length h.pairs.c]
theorem filled_row {w : World} {S : List Nat} {h : Hd} {xs : List (Int × BlockV)} (H : HRow filledT w S h xs) (k : Nat) (hk : k < xs.length) : ∃ b off q, h.a = some ⟨b, off, none⟩ ∧ b < w.heap.size ∧ w.rangeAt b (off + k * 18) (filledX xs[k].1 q xs[k].2).toList ∧ BlockOk w S q xs[k].2 := by
  obtain ⟨b, off, e, hb, _, hc⟩ := H.row (by omega)
  obtain ⟨cs, hr, hv⟩ := hc k xs[k] (List.getElem?_eq_getElem hk)
  obtain ⟨q, rfl, hu, hok⟩ := filledT_of hr
  exact ⟨b, off, q, e, hb, hv, hok⟩
theorem filled_plan {w : World} {b o : Nat} {n : Int} {q : BlockH} {x : BlockV} (h : w.rangeAt b o (filledX n q x).toList) : w.rangeAt b (o + 1 + 9) (planA q.plan x.plan).toList := fun j v hj => by
  have hj7 : j < 7 := (List.getElem?_eq_some_iff.1 hj).1
  have h7 : j = 0 ∨ j = 1 ∨ j = 2 ∨ j = 3 ∨ j = 4 ∨ j = 5 ∨ j = 6 := by omega
  have := h (10 + j) v (by rcases h7 with e | e | e | e | e | e | e <;> subst e <;> exact hj)
  rw [show o + 1 + 9 + j = o + (10 + j) by omega]
  exact this
theorem hrow_take {α : Type} {C : Cod α} {w : World} {S : List Nat} {h : Hd} {xs : List α} (H : HRow C w S h xs) (k : Nat) : HRow C w S h (xs.take k) := by
  refine ⟨by have := H.le; rw [List.length_take]; omega, H.cap, fun h0 => ?_⟩
  rw [List.length_take] at h0
  obtain ⟨b, off, e, hb, hs, hc⟩ := H.row (by omega)
  refine ⟨b, off, e, hb, hs, fun i x hi => ?_⟩
  rw [List.getElem?_take] at hi
  split at hi
  · exact hc i x hi
  · cases hi
theorem u64s_of {w : World} {S : List Nat} {h : Hd} {xs : List Int} (H : HRow u64C w S h xs) (hl : xs.length ≤ 60000) : U64s w h.a xs := by
  refine ⟨⟨fun h0 => ?_⟩, words_ok H, by omega⟩
  obtain ⟨b, off, e, hb, _, hc⟩ := H.row h0
  refine ⟨b, off, e, hb, fun i hi => ?_⟩
  obtain ⟨cs, ⟨rfl, _⟩, hv⟩ := hc i xs[i] (List.getElem?_eq_getElem hi)
  have := hv 0 _ rfl
  rw [show u64C.k = 1 from rfl, Nat.mul_one, Nat.add_zero] at this
  rw [this]
  simp [u64F, at0, List.getD_eq_getElem?_getD, List.getElem?_eq_getElem hi]
theorem fill_last {x : AskV} (h : 0 < (x.words.zip (fillV x)).length) (hn : (fillV x).length = x.words.length) : ∃ n, (x.words.zip (fillV x)).length = n + 1 ∧ ∀ (hi : n < (x.words.zip (fillV x)).length), (x.words.zip (fillV x))[n].2 = ⟨2, fNodeZ, fPlan x, []⟩ := by
  have hz : (x.words.zip (fillV x)).length = (fillV x).length := by rw [List.length_zip]; omega
  refine ⟨(fillV x).length - 1, by omega, fun hi => ?_⟩
  have e : (fillV x)[(fillV x).length - 1]? = some ⟨2, fNodeZ, fPlan x, []⟩ := by
    unfold fillV
    rw [← List.append_assoc]
    rw [List.length_append, List.length_singleton, Nat.add_sub_cancel, List.getElem?_append_right (Nat.le_refl _)]
    simp
  rw [List.getElem_zip]
  rw [List.getElem?_eq_getElem (by omega)] at e
  exact Option.some.inj e
theorem fill_len {x : AskV} (hm : mayK x = true) : (fillV x).length = x.words.length ∧ 0 < x.words.length ∧ x.fan = ((x.fan.toNat : Nat) : Int) ∧ 1 ≤ x.fan.toNat ∧ x.words.length = 1 + chunkN x.fan.toNat x.a.pairs.length + fullN x.c := by
  obtain ⟨f, hf, f0, f1, hwl, hfr⟩ := may_parts hm
  have := fillV_length x
  unfold costK at this
  rw [hf, Int.toNat_natCast] at this ⊢
  exact ⟨by omega, by omega, rfl, by omega, hwl⟩
theorem nodup_step {xs : List Int} {k : Nat} (hk : k < xs.length) (h : (xs.take k).Nodup) (hm : memB (xs.take k) xs[k] = false) : (xs.take (k + 1)).Nodup := by
  rw [List.take_succ_eq_append_getElem hk, List.nodup_append]
  refine ⟨h, by simp, fun a ha b hb e => ?_⟩
  simp at hb
  subst hb
  subst e
  rw [memB_iff.2 ha] at hm
  cases hm
set_option maxRecDepth 100000 in
set_option maxHeartbeats 6400000 in
theorem answers_walk (q : AskH) (x : AskV) (w : World) (H : AskOk w [] q x) : Calls Try.prog 4 #[.agg (askA q x)] w fun e w' => e = .returned (.bool true) ∧ Below w.heap.size w w' := by
  have hb0 : Below w.heap.size w (w.alloc (.cells (askA q x) 29)) := by (repeat (first | exact Below.refl _ _ | assumption | refine below_alloc2 ?_ (by first | exact Nat.le_refl _ | omega) _ | refine Below.drew ?_ | refine below_drewN ?_ _ | refine below_push2 ?_ ‹_› (by first | exact Nat.le_refl _ | omega) | refine Below.setCell ?_ (by first | (simp; done) | (simp; omega) | omega) _))
  have BX := Blk.new w (askA q x) 29
  obtain ⟨X, hX⟩ : ∃ b, b = w.heap.size := ⟨_, rfl⟩
  go_enter Try.func4, Try.ntmps4
  go_upto_region 1 with (fail)
  rw [← hX] at BX ⊢
  replace hX := Lib.hid hX
  generalize w.alloc (.cells (askA q x) 29) = w1 at hb0 BX ⊢
  have a0 := BX.at 0 rfl
  have a1 := BX.at 1 rfl
  have a2 := BX.at 2 rfl
  have a3 := BX.at 3 rfl
  have a4 := BX.at 4 rfl
  have a5 := BX.at 5 rfl
  have a6 := BX.at 6 rfl
  have a7 := BX.at 7 rfl
  go_wp2_with fail
  refine (show Calls _ _ _ _ _ from light34_any [] q x _ (H.keep (Keeps.of_below hb0))).mono ?_
  rintro e w2 ⟨rfl, hb2⟩
  replace hb0 := below_push2 hb0 hb2 (Nat.le_refl _)
  replace BX := BX.below hb2
  clear a0 a1 a2 a3 a4 a5 a6 a7 hb2
  cases hl : lightK x
  · replace hl := Lib.hid hl
    go_wp2_with fail
    refine (plives_any _).mono ?_
    rintro e w3 ⟨rfl, hb3⟩
    go_wp2_with fail
    go_ret
    exact ⟨rfl, below_push2 hb0 hb3 (Nat.le_refl _)⟩
  obtain ⟨l1, l2, l3⟩ := light_parts hl
  replace hl := Lib.hid hl
  have a0 := BX.at 0 rfl
  have a1 := BX.at 1 rfl
  have a2 := BX.at 2 rfl
  have a3 := BX.at 3 rfl
  have a4 := BX.at 4 rfl
  have a5 := BX.at 5 rfl
  have a6 := BX.at 6 rfl
  have a7 := BX.at 7 rfl
  have k0 := rmay_any [] q x w2 (H.keep (Keeps.of_below hb0)) l1 l2 l3
  cases hm : mayK x
  · rw [hm] at k0
    replace hm := Lib.hid hm
    go_wp2_with fail
    refine (show Calls _ _ _ _ _ from k0).mono ?_
    rintro e w3 ⟨rfl, hb3⟩
    clear k0 a0 a1 a2 a3 a4 a5 a6 a7
    replace hb0 := below_push2 hb0 hb3 (Nat.le_refl _)
    go_wp2_with fail
    refine (plives_any _).mono ?_
    rintro e w3 ⟨rfl, hb3⟩
    go_wp2_with fail
    go_ret
    exact ⟨rfl, below_push2 hb0 hb3 (Nat.le_refl _)⟩
  rw [hm] at k0
  replace hm := Lib.hid hm
  go_wp2_with fail
  refine (show Calls _ _ _ _ _ from k0).mono ?_
  rintro e w3 ⟨rfl, hb3⟩
  clear k0 a0 a1 a2 a3 a4 a5 a6 a7
  replace hb0 := below_push2 hb0 hb3 (Nat.le_refl _)
  replace BX := BX.below hb3
  have a0 := BX.at 0 rfl
  have a1 := BX.at 1 rfl
  have a2 := BX.at 2 rfl
  have a3 := BX.at 3 rfl
  have a4 := BX.at 4 rfl
  have a5 := BX.at 5 rfl
  have a6 := BX.at 6 rfl
  have a7 := BX.at 7 rfl
  have k1 := pfill_yes [] q x w3 (H.keep (Keeps.of_below hb0)) l1 l2 l3 hm.out
  go_wp2_with fail
  refine (show Calls _ _ _ _ _ from k1).mono ?_
  rintro e w4 ⟨la, lc, rfl, HL, hb4⟩
  clear k1 a0 a1 a2 a3 a4 a5 a6 a7 hb3
  replace hb0 := below_push2 hb0 hb4 (Nat.le_refl _)
  replace BX := BX.below hb4
  obtain ⟨hfl, hw0, hfan, hfan1, hwl⟩ := fill_len hm.out
  have hzl : (x.words.zip (fillV x)).length = x.words.length := by rw [List.length_zip]; omega
  obtain ⟨n1, hn1, hlast⟩ := fill_last (by omega) hfl
  have hfa := fun hnd => found_all hfan hfan1 hwl hnd
  have hex : (fExtra x).length ≤ 300 := by unfold fExtra; rw [List.length_take, List.length_drop]; omega
  have hn300 : n1 ≤ 300 := by omega
  replace hfan := Lib.hid hfan
  replace hwl := Lib.hid hwl
  replace hfl := Lib.hid hfl
  replace hzl := Lib.hid hzl
  replace hfa := Lib.hid hfa
  generalize hLz : x.words.zip (fillV x) = L at HL hn1 hlast hfa hzl ⊢
  replace hLz := Lib.hid hLz
  obtain ⟨bl, ol, ql, hla, hlb, hlc, hlok⟩ := filled_row HL n1 (by omega)
  have hl2 := hlast (by omega)
  simp only at hla
  subst hla
  rw [hl2] at hlc hlok
  have hplan := filled_plan hlc
  have hst := hlok.plan.steps
  have hxt := hlok.plan.extra
  simp only at hplan hst hxt
  rw [hn1]
  have hpos : ((n1 : Int) + 1 == 0) = false := by simp; omega
  have hpos2 : (n1 + 1 == 0) = false := by simp
  have hn1' : (n1 : Int) < (n1 : Int) + 1 := by omega
  generalize hPV : fPlan x = PV at hplan hst hxt
  replace hPV := Lib.hid hPV
  clear hl2 hlast hlok hlc
  replace hn1 := Lib.hid hn1
  generalize ql.plan = qp0 at hplan hst hxt
  obtain ⟨qpp, qps, ⟨xa, xc⟩⟩ := qp0
  simp only at hst hxt
  have hbP : Below w4.heap.size w4 (w4.alloc (.cells (planA ⟨qpp, qps, ⟨xa, xc⟩⟩ PV) 46)) := (Below.refl _ _).alloc (Nat.le_refl _) _
  have BP := Blk.new w4 (planA ⟨qpp, qps, ⟨xa, xc⟩⟩ PV) 46
  obtain ⟨PB, hPB⟩ : ∃ b, b = w4.heap.size := ⟨_, rfl⟩
  go_upto_region 7 with (first
    | (refine wpList_load_mid rfl 46 _ rfl bl (ol + n1 * 18 + 1 + 9) rfl (planA ⟨qpp, qps, ⟨xa, xc⟩⟩ PV).toList _ hplan Try.underlying46 rfl (by kernel_rfl) ?_)
    | (refine wpList_store_row rfl 46 _ _ rfl _ _ rfl rfl 46 _ (Blk.new w4 _ _).h (by kernel_rfl) (by rfl) (by kernel_rfl) ?_; rw [World.setRow_alloc_new]))
  rw [← hPB] at BP ⊢
  have hb5 := below_push2 hb0 hbP (Nat.le_refl _)
  have BX5 := BX.below hbP
  have HL5 := HL.keep (Keeps.of_below hbP)
  have hst5 := hst.keep (Keeps.of_below hbP)
  have hxt5 := hxt.keep (Keeps.of_below hbP)
  replace hPB := Lib.hid hPB
  clear hbP BX HL hst hxt hplan hb0 hb4 hlb
  generalize w4.alloc (.cells (planA ⟨qpp, qps, ⟨xa, xc⟩⟩ PV) 46) = w5 at BP hb5 BX5 HL5 hst5 hxt5 ⊢
  have hE300 : PV.extra.length ≤ 300 := by rw [← hPV.out]; exact hex
  have hS60 : PV.steps.length ≤ 60 := by
    rw [← hPV.out]
    show (fsAll x.words x.c).st.length ≤ 60
    have := (fsAll_len x.words x.c x.c.length (Nat.le_refl _)).1
    rw [List.take_length] at this; omega
  have hEx : Hid (PV.extra = fExtra x) := Lib.hid (by rw [← hPV.out]; rfl)
  have hAn : Hid (PV.ans = ⟨x.a.code, x.a.key, x.a.val, []⟩) := Lib.hid (by rw [← hPV.out]; rfl)
  have p6 := BP.at 6 rfl
  try simp only [Act.put]
  go_wp2_with fail
  clear p6
  go_loopg [6, 62] PV.extra.length (fun gg v6 i wr => ∃ (k : Nat) (pa : Option Addr) (pc : Nat), k ≤ PV.extra.length ∧ PV.extra.length ≤ k + gg ∧ i = .int .i64 k ∧ v6 = .slice pa (foundL L (PV.extra.take k)).length pc ∧ Below w5.heap.size w5 wr ∧ OwnV (rowC pairT) w5 [] wr w5.heap.size 23 pa pc (foundL L (PV.extra.take k)))
  case atStart => exact ⟨0, none, 0, Nat.zero_le _, by omega, rfl, by simp [foundL], Below.refl _ _, by simpa [foundL] using OwnV.nil _ _ _ _ _⟩
  case round =>
    obtain ⟨k, pa, pc, hk, hkg, rfl, rfl, hb, O⟩ := hrel
    by_cases hlt : k < PV.extra.length
    · have hlt' : (k : Int) < (PV.extra.length : Int) := by omega
      obtain ⟨be, oe, hea, hebl, hec, heu⟩ := word_cell (hxt5.keep (Keeps.of_below hb)) k hlt
      simp only at hea
      subst hea
      have hfnd : ∀ i (hi : i < L.length), hitB PV.extra[k] L[i] = true → (∀ j (hj : j < L.length), j < i → hitB PV.extra[k] L[j] = false) → foundL L (PV.extra.take (k + 1)) = foundL L (PV.extra.take k) ++ [L[i].2.pairs] := fun i hi => foundL_hit (L := L) hlt hi
      have hmis := foundL_miss (L := L) hlt
      have hlp := foundL_le L (PV.extra.take k)
      rw [List.length_take] at hlp
      generalize PV.extra[k] = wd at hec heu hfnd hmis
      generalize foundL L (PV.extra.take k) = PS at O hfnd hmis hlp ⊢
      replace hfnd := Lib.hid hfnd
      replace hmis := Lib.hid hmis
      obtain ⟨wo, rfl⟩ : ∃ wo : World, wo = wr := ⟨_, rfl⟩
      go_upto_region 11 with (fail)
      clear hec
      go_wp2_with fail
      go_loopg [6, 68] (n1 + 1) (fun gg v6 i wr => ∃ j : Nat, j ≤ n1 + 1 ∧ n1 + 1 ≤ j + gg ∧ i = .int .i64 j ∧ v6 = .slice pa PS.length pc ∧ Below wo.heap.size wo wr ∧ Hid (∀ i (hi : i < L.length), i < j → hitB wd L[i] = false))
      case atStart => exact ⟨0, Nat.zero_le _, by omega, rfl, rfl, Below.refl _ _, Lib.hid (fun i _ h => absurd h (by omega))⟩
      case round =>
        obtain ⟨j, hj, hjg, rfl, rfl, hb2, hno⟩ := hrel
        have hbw := below_push2 hb hb2 (Nat.le_refl _)
        have hLn : L.length = n1 + 1 := hn1.out
        by_cases hjl : j < n1 + 1
        · have hjl' : (j : Int) < (n1 : Int) + 1 := by omega
          have hjL : j < L.length := by omega
          obtain ⟨bl', ol', qf, hla, hfb, hfc0, hfok⟩ := filled_row HL5 j hjL
          simp only [Option.some.injEq, Addr.mk.injEq, and_true] at hla
          obtain ⟨rfl, rfl⟩ := hla
          have hfc := range_keep hfc0 (Keeps.of_below (S := []) hbw) hfb (by simp)
          have hrow := rowC_mk hfok.pairs
          have hhit : hitB wd L[j] = true → foundL L (PV.extra.take (k + 1)) = PS ++ [L[j].2.pairs] := fun h => hfnd.out j hjL h (fun i hi hlt => hno.out i hi hlt)
          have hstep : hitB wd L[j] = false → ∀ i (hi : i < L.length), i < j + 1 → hitB wd L[i] = false := fun h i hi hlt => by
            by_cases e : i = j
            · subst e; exact h
            · exact hno.out i hi (by omega)
          have hB : hitB wd L[j] = (L[j].1 == wd && L[j].2.kind == 3) := rfl
          generalize hitB wd L[j] = hbit at hhit hstep hB
          generalize L[j].1 = fw at hfc hB
          generalize L[j].2 = y at hfc hrow hhit hB
          replace hhit := Lib.hid hhit
          replace hstep := Lib.hid hstep
          replace hB := Lib.hid hB
          have hbf : Below wr.heap.size wr (wr.alloc (.cells (filledX fw qf y) 50)) := (Below.refl _ _).alloc (Nat.le_refl _) _
          have BF := Blk.new wr (filledX fw qf y) 50
          obtain ⟨FB, hFB⟩ : ∃ b, b = wr.heap.size := ⟨_, rfl⟩
          clear hfc0 hfok hLn
          go_upto_region 14 with (first
            | (refine wpList_load_mid rfl 50 _ rfl bl (ol + j * 18) rfl (filledX fw qf y).toList _ hfc Try.underlying50 rfl (by kernel_rfl) ?_)
            | (refine wpList_store_row rfl 50 _ _ rfl _ _ rfl rfl 50 _ (Blk.new wr _ _).h (by kernel_rfl) (by rfl) (by kernel_rfl) ?_; rw [World.setRow_alloc_new]))
          rw [← hFB] at BF ⊢
          have hb26 := below_push2 hb2 hbf (Nat.le_refl _)
          have hbw6 := below_push2 hb hb26 (Nat.le_refl _)
          replace hFB := Lib.hid hFB
          generalize wr.alloc (.cells (filledX fw qf y) 50) = w6 at hbf BF hb26 hbw6 ⊢
          have BP6 := BP.below hbw6
          have c0 := BF.at 0 rfl
          have c1 := BF.at 1 rfl
          have c17 := BF.at 17 rfl
          have p6 := BP6.at 6 rfl
          try simp only [Act.put]
          clear hfc
          by_cases e1 : fw = wd
          · subst e1
            by_cases e2 : y.kind = 3
            · have q2 : (y.kind == 3) = true := by simpa using e2
              have hE := Lib.hid (hhit.out (by rw [hB.out, q2]; simp))
              have hlt2 : (PS.length : Int) < (PV.extra.length : Int) := by omega
              have hbl := (Below.refl w6.heap.size w6).alloc (Nat.le_refl _) (.cells #[.slice qf.pairs.a y.pairs.length qf.pairs.c] 23)
              have O6 := (O.below hb26).below hbl
              obtain ⟨g8, d8, w8, A8⟩ := O6.addLit tinRows (by decide) (Blk.new w6 #[.slice qf.pairs.a y.pairs.length qf.pairs.c] 23) (x := y.pairs) hrow (by omega) (by decide) (by have := hbw6.size; have := hbl.size; omega)
              have hr8 := Lib.hid A8.run
              have hb8 := A8.fr.below (below_push2 hbw6 hbl (Nat.le_refl _)) (Nat.le_refl _) (fun b hb => (O6.lt b hb).1)
              have O8 := A8.own
              clear A8 O6 hbl e2 BF BP6 hrow
              go_wp2_with (at_builtin; refine wpList_append_run hr8.out rfl (by rfl) (by rfl) (by rfl) ?_)
              go_roundg (PV.extra.length - (k + 1))
              case measure => omega
              case rel => exact ⟨k + 1, _, _, by omega, by omega, by go_num, by rw [hE.out, List.length_append]; rfl, hb8, by rw [hE.out]; exact O8⟩
            · have q2 : (y.kind == 3) = false := by simpa using e2
              have hN := Lib.hid (hstep.out (by rw [hB.out, q2]; simp))
              clear e2 BF BP6 hrow
              go_wp2_with fail
              go_roundg (n1 + 1 - (j + 1))
              case measure => omega
              case rel => exact ⟨j + 1, by omega, by omega, by go_num, rfl, hb26, hN⟩
          · have q1 : (fw == wd) = false := by simpa using e1
            have hN := Lib.hid (hstep.out (by rw [hB.out, q1]; simp))
            clear e1 BF BP6 hrow
            go_wp2_with fail
            go_roundg (n1 + 1 - (j + 1))
            case measure => omega
            case rel => exact ⟨j + 1, by omega, by omega, by go_num, rfl, hb26, hN⟩
        · obtain rfl : j = n1 + 1 := by omega
          have hE := Lib.hid (hmis.out (fun j hj => hno.out j hj (by omega)))
          have O2 : OwnV (rowC pairT) w5 [] wr w5.heap.size 23 pa pc PS := O.below hb2
          clear hLn hjl
          go_wp2_with fail
          go_roundg (PV.extra.length - (k + 1))
          case measure => omega
          case rel => exact ⟨k + 1, pa, pc, by omega, by omega, by go_num, by rw [hE.out], hbw, by rw [hE.out]; exact O2⟩
    · obtain rfl : k = PV.extra.length := by omega
      rw [List.take_length] at O
      rw [List.take_length]
      have hfa2 : Hid (x.words.Nodup → (foundL L PV.extra).flatten = x.a.pairs) := Lib.hid (by rw [hEx.out]; exact hfa.out)
      have hPSl := foundL_le L PV.extra
      generalize foundL L PV.extra = PS at O hfa2 hPSl ⊢
      have hb6 := below_push2 hb5 hb (Nat.le_refl _)
      have BX6 := BX5.below hb
      have BP6 := BP.below hb
      have hst6 := hst5.keep (Keeps.of_below hb)
      have HR6 : HRow (rowC pairT) wr [] ⟨pa, pc⟩ PS := (O.keep (Keeps.of_below hb)).hrow (by decide) (by simp)
      clear O hkg hk hlt hEx hfa hst5 hxt5 BX5 BP
      obtain ⟨qpa, qca, ⟨wa, wq⟩⟩ := q
      obtain ⟨bw, ow, hwa, hrr⟩ := word_cell H.words 0 hw0
      clear hrr
      simp only at hwa
      subst hwa
      have a5 := BX6.at 5 rfl
      go_wp2_with fail
      clear a5
      obtain ⟨w6, rfl⟩ : ∃ w6 : World, w6 = wr := ⟨_, rfl⟩
      go_loopg [101] x.words.length (fun gg i wr => ∃ k : Nat, k ≤ x.words.length ∧ x.words.length ≤ k + gg ∧ i = .int .i64 k ∧ Below w6.heap.size w6 wr ∧ Hid ((x.words.take k).Nodup))
      case atStart => exact ⟨0, Nat.zero_le _, by omega, rfl, Below.refl _ _, Lib.hid (by simp)⟩
      case round =>
        obtain ⟨k, hk, hkg, rfl, hb7, hnd⟩ := hrel
        have hbw := below_push2 hb6 hb7 (Nat.le_refl _)
        have BX7 := BX6.below hb7
        have BP7 := BP6.below hb7
        by_cases hlt : k < x.words.length
        · have hlt' : (k : Int) < (x.words.length : Int) := by omega
          have a5 := BX7.at 5 rfl
          have HW7 := H.words.keep (Keeps.of_below hbw)
          have hwc := HW7.le
          have hwm := HW7.cap
          simp only at hwc hwm
          have hkc : k ≤ wq := by omega
          have hkc' : (k : Int) ≤ (wq : Int) := by omega
          obtain ⟨bw', ow', hwa, _, hwcell, hwu⟩ := word_cell HW7 k hlt
          simp only [Option.some.injEq, Addr.mk.injEq, and_true] at hwa
          obtain ⟨rfl, rfl⟩ := hwa
          have hkk := dnamed_any (some ⟨bw, ow, none⟩) wq (x.words.take k) x.words[k] wr (u64s_of (hrow_take HW7 k) (by rw [List.length_take]; omega))
          rw [List.length_take, Nat.min_eq_left (by omega)] at hkk
          have hns := nodup_step hlt hnd.out
          generalize x.words[k] = wd at hwcell hkk hns hwu
          generalize memB (x.words.take k) wd = mb at hkk hns
          replace hns := Lib.hid hns
          go_wp2_with fail
          refine (show Calls _ _ _ _ _ from hkk).mono ?_
          rintro e w8 ⟨rfl, rfl⟩
          clear hkk a5 hwcell
          cases mb
          · have hN := Lib.hid (hns.out rfl)
            clear hns
            go_wp2_with fail
            go_roundg (x.words.length - (k + 1))
            case measure => omega
            case rel => exact ⟨k + 1, by omega, by omega, by go_num, hb7, hN⟩
          · clear hns
            have hst7 := hst6.keep (Keeps.of_below hb7)
            go_upto_region 22 with (fail)
            refine wp_region_held_drew (S := fun w' => (w'.cell? ⟨PB, 0, none⟩ = some (.int .i64 PV.thread) ∧ w'.cell? ⟨PB, 1, none⟩ = some (.int .i64 PV.ans.code) ∧ w'.cell? ⟨PB, 2, none⟩ = some (.string PV.ans.key) ∧ w'.cell? ⟨PB, 3, none⟩ = some (.int .u64 PV.ans.val) ∧ w'.cell? ⟨PB, 4, none⟩ = some (.slice qpp.a PV.ans.pairs.length qpp.c) ∧ w'.cell? ⟨PB, 5, none⟩ = some (.slice qps.a PV.steps.length qps.c) ∧ w'.cell? ⟨PB, 6, none⟩ = some (.slice xa PV.extra.length xc)) ∧ (w'.cell? ⟨X, 0, none⟩ = some (.int .i64 x.a.code) ∧ w'.cell? ⟨X, 1, none⟩ = some (.string x.a.key) ∧ w'.cell? ⟨X, 2, none⟩ = some (.int .u64 x.a.val) ∧ w'.cell? ⟨X, 3, none⟩ = some (.slice qpa.a x.a.pairs.length qpa.c))) (by kernel_rfl) ⟨⟨BP7.at 0 rfl, BP7.at 1 rfl, BP7.at 2 rfl, BP7.at 3 rfl, BP7.at 4 rfl, BP7.at 5 rfl, BP7.at 6 rfl⟩, ⟨BX7.at 0 rfl, BX7.at 1 rfl, BX7.at 2 rfl, BX7.at 3 rfl⟩⟩ (fun hHeld => ?_)
            have hbd := (Below.refl wr.heap.size wr).drew
            have BPd := BP7.below hbd
            have BXd := BX7.below hbd
            have hstd := hst7.keep (Keeps.of_below hbd)
            have hb0d := below_push2 hbw hbd (Nat.le_refl _)
            clear hHeld
            generalize wr.drew = wd2 at hbd BPd BXd hstd hb0d ⊢
            have hSd : (wd2.cell? ⟨PB, 0, none⟩ = some (.int .i64 PV.thread) ∧ wd2.cell? ⟨PB, 1, none⟩ = some (.int .i64 PV.ans.code) ∧ wd2.cell? ⟨PB, 2, none⟩ = some (.string PV.ans.key) ∧ wd2.cell? ⟨PB, 3, none⟩ = some (.int .u64 PV.ans.val) ∧ wd2.cell? ⟨PB, 4, none⟩ = some (.slice qpp.a PV.ans.pairs.length qpp.c) ∧ wd2.cell? ⟨PB, 5, none⟩ = some (.slice qps.a PV.steps.length qps.c) ∧ wd2.cell? ⟨PB, 6, none⟩ = some (.slice xa PV.extra.length xc)) ∧ (wd2.cell? ⟨X, 0, none⟩ = some (.int .i64 x.a.code) ∧ wd2.cell? ⟨X, 1, none⟩ = some (.string x.a.key) ∧ wd2.cell? ⟨X, 2, none⟩ = some (.int .u64 x.a.val) ∧ wd2.cell? ⟨X, 3, none⟩ = some (.slice qpa.a x.a.pairs.length qpa.c)) := ⟨⟨BPd.at 0 rfl, BPd.at 1 rfl, BPd.at 2 rfl, BPd.at 3 rfl, BPd.at 4 rfl, BPd.at 5 rfl, BPd.at 6 rfl⟩, ⟨BXd.at 0 rfl, BXd.at 1 rfl, BXd.at 2 rfl, BXd.at 3 rfl⟩⟩
            refine wpAnyH_take (i := 0) (oi := ⟨_, _, _, _, _, _⟩) (v := ?_) rfl (by kernel_rfl) (by kernel_rfl) (by kernel_rfl) (fun _ _ _ h => h) (Or.inl ⟨by rfl, ?_⟩) (by assumption) ?_
            rotate_left
            · intro wS hSw
              try dsimp only at hSw
              go_simp
              try with_reducible rfl
            try simp only [Act.put, List.setIfInBounds_toArray, List.set_cons_zero, List.set_cons_succ]
            refine wpAnyH_take (i := 2) (oi := ⟨_, _, _, _, _, _⟩) (v := ?_) rfl (by kernel_rfl) (by kernel_rfl) (by kernel_rfl) (fun _ _ _ h => h) (Or.inl ⟨by rfl, ?_⟩) (by assumption) ?_
            rotate_left
            · intro wS hSw
              try dsimp only at hSw
              go_simp
              try with_reducible rfl
            try simp only [Act.put, List.setIfInBounds_toArray, List.set_cons_zero, List.set_cons_succ]
            refine wpAnyH_ready (rs := [1]) (by kernel_rfl) (by simp) ?_
            refine AllReadyH.cons rfl (fun K hK => ?_) AllReadyH.nil
            go_simp
            refine (show Calls _ _ _ _ _ from polds_any [] ⟨qpp, qps, ⟨xa, xc⟩⟩ PV wd2 hstd hS60).mono ?_
            rintro e wA ⟨oa, oc, rfl, OA, hbA⟩
            have BPA := BPd.below hbA
            have BXA := BXd.below hbA
            have hSA : (wA.cell? ⟨PB, 0, none⟩ = some (.int .i64 PV.thread) ∧ wA.cell? ⟨PB, 1, none⟩ = some (.int .i64 PV.ans.code) ∧ wA.cell? ⟨PB, 2, none⟩ = some (.string PV.ans.key) ∧ wA.cell? ⟨PB, 3, none⟩ = some (.int .u64 PV.ans.val) ∧ wA.cell? ⟨PB, 4, none⟩ = some (.slice qpp.a PV.ans.pairs.length qpp.c) ∧ wA.cell? ⟨PB, 5, none⟩ = some (.slice qps.a PV.steps.length qps.c) ∧ wA.cell? ⟨PB, 6, none⟩ = some (.slice xa PV.extra.length xc)) ∧ (wA.cell? ⟨X, 0, none⟩ = some (.int .i64 x.a.code) ∧ wA.cell? ⟨X, 1, none⟩ = some (.string x.a.key) ∧ wA.cell? ⟨X, 2, none⟩ = some (.int .u64 x.a.val) ∧ wA.cell? ⟨X, 3, none⟩ = some (.slice qpa.a x.a.pairs.length qpa.c)) := ⟨⟨BPA.at 0 rfl, BPA.at 1 rfl, BPA.at 2 rfl, BPA.at 3 rfl, BPA.at 4 rfl, BPA.at 5 rfl, BPA.at 6 rfl⟩, ⟨BXA.at 0 rfl, BXA.at 1 rfl, BXA.at 2 rfl, BXA.at 3 rfl⟩⟩
            have hstA := hstd.keep (Keeps.of_below hbA)
            refine hK.out _ _ hSA (fun hHeld => ?_)
            clear hK K
            refine wpAnyH_ready (rs := [3]) (by kernel_rfl) (by simp) ?_
            refine AllReadyH.cons rfl (fun K hK => ?_) AllReadyH.nil
            go_simp
            refine (show Calls _ _ _ _ _ from rolds_any [] ⟨qpp, qps, ⟨xa, xc⟩⟩ PV wA hstA hS60).mono ?_
            rintro e wB ⟨oa2, oc2, rfl, OB, hbB⟩
            have BPB := BPA.below hbB
            have BXB := BXA.below hbB
            have hSB : (wB.cell? ⟨PB, 0, none⟩ = some (.int .i64 PV.thread) ∧ wB.cell? ⟨PB, 1, none⟩ = some (.int .i64 PV.ans.code) ∧ wB.cell? ⟨PB, 2, none⟩ = some (.string PV.ans.key) ∧ wB.cell? ⟨PB, 3, none⟩ = some (.int .u64 PV.ans.val) ∧ wB.cell? ⟨PB, 4, none⟩ = some (.slice qpp.a PV.ans.pairs.length qpp.c) ∧ wB.cell? ⟨PB, 5, none⟩ = some (.slice qps.a PV.steps.length qps.c) ∧ wB.cell? ⟨PB, 6, none⟩ = some (.slice xa PV.extra.length xc)) ∧ (wB.cell? ⟨X, 0, none⟩ = some (.int .i64 x.a.code) ∧ wB.cell? ⟨X, 1, none⟩ = some (.string x.a.key) ∧ wB.cell? ⟨X, 2, none⟩ = some (.int .u64 x.a.val) ∧ wB.cell? ⟨X, 3, none⟩ = some (.slice qpa.a x.a.pairs.length qpa.c)) := ⟨⟨BPB.at 0 rfl, BPB.at 1 rfl, BPB.at 2 rfl, BPB.at 3 rfl, BPB.at 4 rfl, BPB.at 5 rfl, BPB.at 6 rfl⟩, ⟨BXB.at 0 rfl, BXB.at 1 rfl, BXB.at 2 rfl, BXB.at 3 rfl⟩⟩
            have hstB := hstA.keep (Keeps.of_below hbB)
            refine hK.out _ _ hSB (fun hHeld => ?_)
            clear hK K
            have hol := oldsV_le PV.steps
            have OA2 := (OA.words (by omega)).below hbB
            have OB2 := OB.words (by omega)
            generalize oldsV PV.steps = ol2 at OA2 OB2 OA OB hol ⊢
            refine wpAnyH_ready (rs := [4]) (by kernel_rfl) (by simp) ?_
            refine AllReadyH.cons rfl (fun K hK => ?_) AllReadyH.nil
            go_simp
            refine (same_any oa oa2 oc oc2 ol2 wB OA2 OB2).mono ?_
            rintro e wC ⟨rfl, hbC⟩
            have BPC := BPB.below hbC
            have BXC := BXB.below hbC
            have hSC : (wC.cell? ⟨PB, 0, none⟩ = some (.int .i64 PV.thread) ∧ wC.cell? ⟨PB, 1, none⟩ = some (.int .i64 PV.ans.code) ∧ wC.cell? ⟨PB, 2, none⟩ = some (.string PV.ans.key) ∧ wC.cell? ⟨PB, 3, none⟩ = some (.int .u64 PV.ans.val) ∧ wC.cell? ⟨PB, 4, none⟩ = some (.slice qpp.a PV.ans.pairs.length qpp.c) ∧ wC.cell? ⟨PB, 5, none⟩ = some (.slice qps.a PV.steps.length qps.c) ∧ wC.cell? ⟨PB, 6, none⟩ = some (.slice xa PV.extra.length xc)) ∧ (wC.cell? ⟨X, 0, none⟩ = some (.int .i64 x.a.code) ∧ wC.cell? ⟨X, 1, none⟩ = some (.string x.a.key) ∧ wC.cell? ⟨X, 2, none⟩ = some (.int .u64 x.a.val) ∧ wC.cell? ⟨X, 3, none⟩ = some (.slice qpa.a x.a.pairs.length qpa.c)) := ⟨⟨BPC.at 0 rfl, BPC.at 1 rfl, BPC.at 2 rfl, BPC.at 3 rfl, BPC.at 4 rfl, BPC.at 5 rfl, BPC.at 6 rfl⟩, ⟨BXC.at 0 rfl, BXC.at 1 rfl, BXC.at 2 rfl, BXC.at 3 rfl⟩⟩
            have hstC := hstB.keep (Keeps.of_below hbC)
            refine hK.out _ _ hSC (fun hHeld => ?_)
            clear hK K OA OB OA2 OB2
            refine wpAnyH_take (i := 5) (oi := ⟨_, _, _, _, _, _⟩) (v := ?_) rfl (by kernel_rfl) (by kernel_rfl) (by kernel_rfl) (fun _ _ _ h => h) (Or.inl ⟨by rfl, ?_⟩) (by assumption) ?_
            rotate_left
            · intro wS hSw
              try dsimp only at hSw
              go_simp
              try with_reducible rfl
            try simp only [Act.put, List.setIfInBounds_toArray, List.set_cons_zero, List.set_cons_succ]
            refine wpAnyH_take (i := 6) (oi := ⟨_, _, _, _, _, _⟩) (v := ?_) rfl (by kernel_rfl) (by kernel_rfl) (by kernel_rfl) (fun _ _ _ h => h) (Or.inl ⟨by rfl, ?_⟩) (by assumption) ?_
            rotate_left
            · intro wS hSw
              try dsimp only at hSw
              go_simp
              try with_reducible rfl
            try simp only [Act.put, List.setIfInBounds_toArray, List.set_cons_zero, List.set_cons_succ]
            refine wpAnyH_take (i := 8) (oi := ⟨_, _, _, _, _, _⟩) (v := ?_) rfl (by kernel_rfl) (by kernel_rfl) (by kernel_rfl) (fun _ _ _ h => h) (Or.inl ⟨by rfl, ?_⟩) (by assumption) ?_
            rotate_left
            · intro wS hSw
              try dsimp only at hSw
              go_simp
              try with_reducible rfl
            try simp only [Act.put, List.setIfInBounds_toArray, List.set_cons_zero, List.set_cons_succ]
            refine wpAnyH_ready (rs := [7]) (by kernel_rfl) (by simp) ?_
            refine AllReadyH.cons rfl (fun K hK => ?_) AllReadyH.nil
            go_simp
            refine (show Calls _ _ _ _ _ from plin_any [] ⟨qpp, qps, ⟨xa, xc⟩⟩ PV wC hstC hS60).mono ?_
            rintro e wD ⟨rfl, hbD⟩
            have BPD := BPC.below hbD
            have BXD := BXC.below hbD
            have hSD : (wD.cell? ⟨PB, 0, none⟩ = some (.int .i64 PV.thread) ∧ wD.cell? ⟨PB, 1, none⟩ = some (.int .i64 PV.ans.code) ∧ wD.cell? ⟨PB, 2, none⟩ = some (.string PV.ans.key) ∧ wD.cell? ⟨PB, 3, none⟩ = some (.int .u64 PV.ans.val) ∧ wD.cell? ⟨PB, 4, none⟩ = some (.slice qpp.a PV.ans.pairs.length qpp.c) ∧ wD.cell? ⟨PB, 5, none⟩ = some (.slice qps.a PV.steps.length qps.c) ∧ wD.cell? ⟨PB, 6, none⟩ = some (.slice xa PV.extra.length xc)) ∧ (wD.cell? ⟨X, 0, none⟩ = some (.int .i64 x.a.code) ∧ wD.cell? ⟨X, 1, none⟩ = some (.string x.a.key) ∧ wD.cell? ⟨X, 2, none⟩ = some (.int .u64 x.a.val) ∧ wD.cell? ⟨X, 3, none⟩ = some (.slice qpa.a x.a.pairs.length qpa.c)) := ⟨⟨BPD.at 0 rfl, BPD.at 1 rfl, BPD.at 2 rfl, BPD.at 3 rfl, BPD.at 4 rfl, BPD.at 5 rfl, BPD.at 6 rfl⟩, ⟨BXD.at 0 rfl, BXD.at 1 rfl, BXD.at 2 rfl, BXD.at 3 rfl⟩⟩
            have hstD := hstC.keep (Keeps.of_below hbD)
            refine hK.out _ _ hSD (fun hHeld => ?_)
            clear hK K
            refine wpAnyH_ready (rs := [9]) (by kernel_rfl) (by simp) ?_
            refine AllReadyH.cons rfl (fun K hK => ?_) AllReadyH.nil
            go_simp
            refine (show Calls _ _ _ _ _ from rlin_any [] ⟨qpp, qps, ⟨xa, xc⟩⟩ PV wD hstD hS60).mono ?_
            rintro e wE ⟨rfl, hbE⟩
            have BPE := BPD.below hbE
            have BXE := BXD.below hbE
            have hSE : (wE.cell? ⟨PB, 0, none⟩ = some (.int .i64 PV.thread) ∧ wE.cell? ⟨PB, 1, none⟩ = some (.int .i64 PV.ans.code) ∧ wE.cell? ⟨PB, 2, none⟩ = some (.string PV.ans.key) ∧ wE.cell? ⟨PB, 3, none⟩ = some (.int .u64 PV.ans.val) ∧ wE.cell? ⟨PB, 4, none⟩ = some (.slice qpp.a PV.ans.pairs.length qpp.c) ∧ wE.cell? ⟨PB, 5, none⟩ = some (.slice qps.a PV.steps.length qps.c) ∧ wE.cell? ⟨PB, 6, none⟩ = some (.slice xa PV.extra.length xc)) ∧ (wE.cell? ⟨X, 0, none⟩ = some (.int .i64 x.a.code) ∧ wE.cell? ⟨X, 1, none⟩ = some (.string x.a.key) ∧ wE.cell? ⟨X, 2, none⟩ = some (.int .u64 x.a.val) ∧ wE.cell? ⟨X, 3, none⟩ = some (.slice qpa.a x.a.pairs.length qpa.c)) := ⟨⟨BPE.at 0 rfl, BPE.at 1 rfl, BPE.at 2 rfl, BPE.at 3 rfl, BPE.at 4 rfl, BPE.at 5 rfl, BPE.at 6 rfl⟩, ⟨BXE.at 0 rfl, BXE.at 1 rfl, BXE.at 2 rfl, BXE.at 3 rfl⟩⟩
            refine hK.out _ _ hSE (fun hHeld => ?_)
            clear hK K
            refine wpAnyH_take (i := 10) (oi := ⟨_, _, _, _, _, _⟩) (v := ?_) rfl (by kernel_rfl) (by kernel_rfl) (by kernel_rfl) (fun _ _ _ h => h) (Or.inl ⟨by rfl, ?_⟩) (by assumption) ?_
            rotate_left
            · intro wS hSw
              try dsimp only at hSw
              go_simp
              try with_reducible rfl
            try simp only [Act.put, List.setIfInBounds_toArray, List.set_cons_zero, List.set_cons_succ]
            refine wpAnyH_take (i := 11) (oi := ⟨_, _, _, _, _, _⟩) (v := ?_) rfl (by kernel_rfl) (by kernel_rfl) (by kernel_rfl) (fun _ _ _ h => h) (Or.inl ⟨by rfl, ?_⟩) (by assumption) ?_
            rotate_left
            · intro wS hSw
              try dsimp only at hSw
              go_simp
              try with_reducible rfl
            try simp only [Act.put, List.setIfInBounds_toArray, List.set_cons_zero, List.set_cons_succ]
            refine wpAnyH_take (i := 12) (oi := ⟨_, _, _, _, _, _⟩) (v := ?_) rfl (by kernel_rfl) (by kernel_rfl) (by kernel_rfl) (fun _ _ _ h => h) (Or.inl ⟨by rfl, ?_⟩) (by assumption) ?_
            rotate_left
            · intro wS hSw
              try dsimp only at hSw
              go_simp
              try with_reducible rfl
            try simp only [Act.put, List.setIfInBounds_toArray, List.set_cons_zero, List.set_cons_succ]
            refine wpAnyH_ready (rs := [13]) (by kernel_rfl) (by simp) ?_
            refine AllReadyH.cons rfl (fun K hK => ?_) AllReadyH.nil
            go_simp
            refine (plives_any wE).mono ?_
            rintro e wF ⟨rfl, hbF⟩
            have BPF := BPE.below hbF
            have BXF := BXE.below hbF
            have hSF : (wF.cell? ⟨PB, 0, none⟩ = some (.int .i64 PV.thread) ∧ wF.cell? ⟨PB, 1, none⟩ = some (.int .i64 PV.ans.code) ∧ wF.cell? ⟨PB, 2, none⟩ = some (.string PV.ans.key) ∧ wF.cell? ⟨PB, 3, none⟩ = some (.int .u64 PV.ans.val) ∧ wF.cell? ⟨PB, 4, none⟩ = some (.slice qpp.a PV.ans.pairs.length qpp.c) ∧ wF.cell? ⟨PB, 5, none⟩ = some (.slice qps.a PV.steps.length qps.c) ∧ wF.cell? ⟨PB, 6, none⟩ = some (.slice xa PV.extra.length xc)) ∧ (wF.cell? ⟨X, 0, none⟩ = some (.int .i64 x.a.code) ∧ wF.cell? ⟨X, 1, none⟩ = some (.string x.a.key) ∧ wF.cell? ⟨X, 2, none⟩ = some (.int .u64 x.a.val) ∧ wF.cell? ⟨X, 3, none⟩ = some (.slice qpa.a x.a.pairs.length qpa.c)) := ⟨⟨BPF.at 0 rfl, BPF.at 1 rfl, BPF.at 2 rfl, BPF.at 3 rfl, BPF.at 4 rfl, BPF.at 5 rfl, BPF.at 6 rfl⟩, ⟨BXF.at 0 rfl, BXF.at 1 rfl, BXF.at 2 rfl, BXF.at 3 rfl⟩⟩
            refine hK.out _ _ hSF (fun hHeld => ?_)
            clear hK K
            refine wpAnyH_take (i := 14) (oi := ⟨_, _, _, _, _, _⟩) (v := ?_) rfl (by kernel_rfl) (by kernel_rfl) (by kernel_rfl) (fun _ _ _ h => h) (Or.inl ⟨by rfl, ?_⟩) (by assumption) ?_
            rotate_left
            · intro wS hSw
              try dsimp only at hSw
              go_simp
              try with_reducible rfl
            try simp only [Act.put, List.setIfInBounds_toArray, List.set_cons_zero, List.set_cons_succ]
            refine wpAnyH_take (i := 15) (oi := ⟨_, _, _, _, _, _⟩) (v := ?_) rfl (by kernel_rfl) (by kernel_rfl) (by kernel_rfl) (fun _ _ _ h => h) (Or.inl ⟨by rfl, ?_⟩) (by assumption) ?_
            rotate_left
            · intro wS hSw
              try dsimp only at hSw
              go_simp
              try with_reducible rfl
            try simp only [Act.put, List.setIfInBounds_toArray, List.set_cons_zero, List.set_cons_succ]
            refine wpAnyH_done (by kernel_rfl) ?_ _
            go_wp2_with fail
            go_ret
            exact ⟨rfl, below_push2 (below_push2 (below_push2 (below_push2 (below_push2 (below_push2 hb0d hbA (Nat.le_refl _)) hbB (Nat.le_refl _)) hbC (Nat.le_refl _)) hbD (Nat.le_refl _)) hbE (Nat.le_refl _)) hbF (Nat.le_refl _)⟩
        · obtain rfl : k = x.words.length := by omega
          rw [List.take_length] at hnd
          have hflat : PS.flatten = x.a.pairs := hfa2.out hnd.out
          have hst7 := hst6.keep (Keeps.of_below hb7)
          have HR7 := HR6.keep (Keeps.of_below hb7)
          have HP7 := H.a.pairs.keep (Keeps.of_below hbw)
          simp only at HP7
          have hfl5 : PS.flatten.length ≤ 50000 := by rw [hflat]; omega
          obtain ⟨FL, hFL⟩ : ∃ FL, FL = PS.flatten := ⟨_, rfl⟩
          have hans : Hid ((⟨PV.ans.code, PV.ans.key, PV.ans.val, FL⟩ : AnsV) = x.a) := Lib.hid (by rw [hFL, hAn.out, hflat])
          replace hFL := Lib.hid hFL
          replace hfl5 := Lib.hid hfl5
          clear hflat hlt hk hkg
          go_upto_region 24 with (fail)
          refine wp_region_held_drew (S := fun w' => (w'.cell? ⟨PB, 0, none⟩ = some (.int .i64 PV.thread) ∧ w'.cell? ⟨PB, 1, none⟩ = some (.int .i64 PV.ans.code) ∧ w'.cell? ⟨PB, 2, none⟩ = some (.string PV.ans.key) ∧ w'.cell? ⟨PB, 3, none⟩ = some (.int .u64 PV.ans.val) ∧ w'.cell? ⟨PB, 4, none⟩ = some (.slice qpp.a PV.ans.pairs.length qpp.c) ∧ w'.cell? ⟨PB, 5, none⟩ = some (.slice qps.a PV.steps.length qps.c) ∧ w'.cell? ⟨PB, 6, none⟩ = some (.slice xa PV.extra.length xc)) ∧ (w'.cell? ⟨X, 0, none⟩ = some (.int .i64 x.a.code) ∧ w'.cell? ⟨X, 1, none⟩ = some (.string x.a.key) ∧ w'.cell? ⟨X, 2, none⟩ = some (.int .u64 x.a.val) ∧ w'.cell? ⟨X, 3, none⟩ = some (.slice qpa.a x.a.pairs.length qpa.c))) (by kernel_rfl) ⟨⟨BP7.at 0 rfl, BP7.at 1 rfl, BP7.at 2 rfl, BP7.at 3 rfl, BP7.at 4 rfl, BP7.at 5 rfl, BP7.at 6 rfl⟩, ⟨BX7.at 0 rfl, BX7.at 1 rfl, BX7.at 2 rfl, BX7.at 3 rfl⟩⟩ (fun hHeld => ?_)
          have hbd := (Below.refl wr.heap.size wr).drew
          have BPd := BP7.below hbd
          have BXd := BX7.below hbd
          have hstd := hst7.keep (Keeps.of_below hbd)
          have HRd := HR7.keep (Keeps.of_below hbd)
          have HPd := HP7.keep (Keeps.of_below hbd)
          have hb0d := below_push2 hbw hbd (Nat.le_refl _)
          clear hHeld
          generalize wr.drew = wd2 at hbd BPd BXd hstd HRd HPd hb0d ⊢
          have hSd : (wd2.cell? ⟨PB, 0, none⟩ = some (.int .i64 PV.thread) ∧ wd2.cell? ⟨PB, 1, none⟩ = some (.int .i64 PV.ans.code) ∧ wd2.cell? ⟨PB, 2, none⟩ = some (.string PV.ans.key) ∧ wd2.cell? ⟨PB, 3, none⟩ = some (.int .u64 PV.ans.val) ∧ wd2.cell? ⟨PB, 4, none⟩ = some (.slice qpp.a PV.ans.pairs.length qpp.c) ∧ wd2.cell? ⟨PB, 5, none⟩ = some (.slice qps.a PV.steps.length qps.c) ∧ wd2.cell? ⟨PB, 6, none⟩ = some (.slice xa PV.extra.length xc)) ∧ (wd2.cell? ⟨X, 0, none⟩ = some (.int .i64 x.a.code) ∧ wd2.cell? ⟨X, 1, none⟩ = some (.string x.a.key) ∧ wd2.cell? ⟨X, 2, none⟩ = some (.int .u64 x.a.val) ∧ wd2.cell? ⟨X, 3, none⟩ = some (.slice qpa.a x.a.pairs.length qpa.c)) := ⟨⟨BPd.at 0 rfl, BPd.at 1 rfl, BPd.at 2 rfl, BPd.at 3 rfl, BPd.at 4 rfl, BPd.at 5 rfl, BPd.at 6 rfl⟩, ⟨BXd.at 0 rfl, BXd.at 1 rfl, BXd.at 2 rfl, BXd.at 3 rfl⟩⟩
          refine wpAnyH_take (i := 0) (oi := ⟨_, _, _, _, _, _⟩) (v := ?_) rfl (by kernel_rfl) (by kernel_rfl) (by kernel_rfl) (fun _ _ _ h => h) (Or.inl ⟨by rfl, ?_⟩) (by assumption) ?_
          rotate_left
          · intro wS hSw
            try dsimp only at hSw
            go_simp
            try with_reducible rfl
          try simp only [Act.put, List.setIfInBounds_toArray, List.set_cons_zero, List.set_cons_succ]
          refine wpAnyH_take (i := 1) (oi := ⟨_, _, _, _, _, _⟩) (v := ?_) rfl (by kernel_rfl) (by kernel_rfl) (by kernel_rfl) (fun _ _ _ h => h) (Or.inl ⟨by rfl, ?_⟩) (by assumption) ?_
          rotate_left
          · intro wS hSw
            try dsimp only at hSw
            go_simp
            try with_reducible rfl
          try simp only [Act.put, List.setIfInBounds_toArray, List.set_cons_zero, List.set_cons_succ]
          refine wpAnyH_take (i := 3) (oi := ⟨_, _, _, _, _, _⟩) (v := ?_) rfl (by kernel_rfl) (by kernel_rfl) (by kernel_rfl) (fun _ _ _ h => h) (Or.inl ⟨by rfl, ?_⟩) (by assumption) ?_
          rotate_left
          · intro wS hSw
            try dsimp only at hSw
            go_simp
            try with_reducible rfl
          try simp only [Act.put, List.setIfInBounds_toArray, List.set_cons_zero, List.set_cons_succ]
          refine wpAnyH_take (i := 4) (oi := ⟨_, _, _, _, _, _⟩) (v := ?_) rfl (by kernel_rfl) (by kernel_rfl) (by kernel_rfl) (fun _ _ _ h => h) (Or.inl ⟨by rfl, ?_⟩) (by assumption) ?_
          rotate_left
          · intro wS hSw
            try dsimp only at hSw
            go_simp
            try with_reducible rfl
          try simp only [Act.put, List.setIfInBounds_toArray, List.set_cons_zero, List.set_cons_succ]
          have kA := answer_any [] ⟨qpp, qps, ⟨xa, xc⟩⟩ PV ⟨pa, pc⟩ PS wd2 HRd (by omega) hfl5.out
          rw [← hFL.out] at kA
          refine wpAnyH_ready (rs := [2]) (by kernel_rfl) (by simp) ?_
          refine AllReadyH.cons rfl (fun K hK => ?_) AllReadyH.nil
          go_simp
          refine (show Calls _ _ _ _ _ from kA).mono ?_
          clear kA
          rintro e wG ⟨hg, rfl, HRG, hbG⟩
          have BPG := BPd.below hbG
          have BXG := BXd.below hbG
          have hSG : (wG.cell? ⟨PB, 0, none⟩ = some (.int .i64 PV.thread) ∧ wG.cell? ⟨PB, 1, none⟩ = some (.int .i64 PV.ans.code) ∧ wG.cell? ⟨PB, 2, none⟩ = some (.string PV.ans.key) ∧ wG.cell? ⟨PB, 3, none⟩ = some (.int .u64 PV.ans.val) ∧ wG.cell? ⟨PB, 4, none⟩ = some (.slice qpp.a PV.ans.pairs.length qpp.c) ∧ wG.cell? ⟨PB, 5, none⟩ = some (.slice qps.a PV.steps.length qps.c) ∧ wG.cell? ⟨PB, 6, none⟩ = some (.slice xa PV.extra.length xc)) ∧ (wG.cell? ⟨X, 0, none⟩ = some (.int .i64 x.a.code) ∧ wG.cell? ⟨X, 1, none⟩ = some (.string x.a.key) ∧ wG.cell? ⟨X, 2, none⟩ = some (.int .u64 x.a.val) ∧ wG.cell? ⟨X, 3, none⟩ = some (.slice qpa.a x.a.pairs.length qpa.c)) := ⟨⟨BPG.at 0 rfl, BPG.at 1 rfl, BPG.at 2 rfl, BPG.at 3 rfl, BPG.at 4 rfl, BPG.at 5 rfl, BPG.at 6 rfl⟩, ⟨BXG.at 0 rfl, BXG.at 1 rfl, BXG.at 2 rfl, BXG.at 3 rfl⟩⟩
          have hstG := hstd.keep (Keeps.of_below hbG)
          have HPG := HPd.keep (Keeps.of_below hbG)
          refine hK.out _ _ hSG (fun hHeld => ?_)
          clear hK K
          refine wpAnyH_ready (rs := [5]) (by kernel_rfl) (by simp) ?_
          refine AllReadyH.cons rfl (fun K hK => ?_) AllReadyH.nil
          go_simp
          have kS := same17_any [] [] hg qpa ⟨PV.ans.code, PV.ans.key, PV.ans.val, FL⟩ x.a wG HRG HPG
          rw [decide_eq_true hans.out] at kS
          refine (show Calls _ _ _ _ _ from kS).mono ?_
          rintro e wH ⟨rfl, hbH⟩
          have BPH := BPG.below hbH
          have BXH := BXG.below hbH
          have hSH : (wH.cell? ⟨PB, 0, none⟩ = some (.int .i64 PV.thread) ∧ wH.cell? ⟨PB, 1, none⟩ = some (.int .i64 PV.ans.code) ∧ wH.cell? ⟨PB, 2, none⟩ = some (.string PV.ans.key) ∧ wH.cell? ⟨PB, 3, none⟩ = some (.int .u64 PV.ans.val) ∧ wH.cell? ⟨PB, 4, none⟩ = some (.slice qpp.a PV.ans.pairs.length qpp.c) ∧ wH.cell? ⟨PB, 5, none⟩ = some (.slice qps.a PV.steps.length qps.c) ∧ wH.cell? ⟨PB, 6, none⟩ = some (.slice xa PV.extra.length xc)) ∧ (wH.cell? ⟨X, 0, none⟩ = some (.int .i64 x.a.code) ∧ wH.cell? ⟨X, 1, none⟩ = some (.string x.a.key) ∧ wH.cell? ⟨X, 2, none⟩ = some (.int .u64 x.a.val) ∧ wH.cell? ⟨X, 3, none⟩ = some (.slice qpa.a x.a.pairs.length qpa.c)) := ⟨⟨BPH.at 0 rfl, BPH.at 1 rfl, BPH.at 2 rfl, BPH.at 3 rfl, BPH.at 4 rfl, BPH.at 5 rfl, BPH.at 6 rfl⟩, ⟨BXH.at 0 rfl, BXH.at 1 rfl, BXH.at 2 rfl, BXH.at 3 rfl⟩⟩
          have hstH := hstG.keep (Keeps.of_below hbH)
          have hb0H := below_push2 (below_push2 hb0d hbG (Nat.le_refl _)) hbH (Nat.le_refl _)
          refine hK.out _ _ hSH (fun hHeld => ?_)
          clear hK K kS HRG HPG hstG BPG BXG hSG hSd BPd BXd hstd hb0d HRd HPd
          have BPd := BPH
          have BXd := BXH
          have hstd := hstH
          have hb0d := hb0H
          clear BPH BXH hstH hb0H
          refine wpAnyH_take (i := 6) (oi := ⟨_, _, _, _, _, _⟩) (v := ?_) rfl (by kernel_rfl) (by kernel_rfl) (by kernel_rfl) (fun _ _ _ h => h) (Or.inl ⟨by rfl, ?_⟩) (by assumption) ?_
          rotate_left
          · intro wS hSw
            try dsimp only at hSw
            go_simp
            try with_reducible rfl
          try simp only [Act.put, List.setIfInBounds_toArray, List.set_cons_zero, List.set_cons_succ]
          refine wpAnyH_take (i := 7) (oi := ⟨_, _, _, _, _, _⟩) (v := ?_) rfl (by kernel_rfl) (by kernel_rfl) (by kernel_rfl) (fun _ _ _ h => h) (Or.inl ⟨by rfl, ?_⟩) (by assumption) ?_
          rotate_left
          · intro wS hSw
            try dsimp only at hSw
            go_simp
            try with_reducible rfl
          try simp only [Act.put, List.setIfInBounds_toArray, List.set_cons_zero, List.set_cons_succ]
          refine wpAnyH_take (i := 9) (oi := ⟨_, _, _, _, _, _⟩) (v := ?_) rfl (by kernel_rfl) (by kernel_rfl) (by kernel_rfl) (fun _ _ _ h => h) (Or.inl ⟨by rfl, ?_⟩) (by assumption) ?_
          rotate_left
          · intro wS hSw
            try dsimp only at hSw
            go_simp
            try with_reducible rfl
          try simp only [Act.put, List.setIfInBounds_toArray, List.set_cons_zero, List.set_cons_succ]
          refine wpAnyH_ready (rs := [8]) (by kernel_rfl) (by simp) ?_
          refine AllReadyH.cons rfl (fun K hK => ?_) AllReadyH.nil
          go_simp
          refine (show Calls _ _ _ _ _ from polds_any [] ⟨qpp, qps, ⟨xa, xc⟩⟩ PV wH hstd hS60).mono ?_
          rintro e wA ⟨oa, oc, rfl, OA, hbA⟩
          have BPA := BPd.below hbA
          have BXA := BXd.below hbA
          have hSA : (wA.cell? ⟨PB, 0, none⟩ = some (.int .i64 PV.thread) ∧ wA.cell? ⟨PB, 1, none⟩ = some (.int .i64 PV.ans.code) ∧ wA.cell? ⟨PB, 2, none⟩ = some (.string PV.ans.key) ∧ wA.cell? ⟨PB, 3, none⟩ = some (.int .u64 PV.ans.val) ∧ wA.cell? ⟨PB, 4, none⟩ = some (.slice qpp.a PV.ans.pairs.length qpp.c) ∧ wA.cell? ⟨PB, 5, none⟩ = some (.slice qps.a PV.steps.length qps.c) ∧ wA.cell? ⟨PB, 6, none⟩ = some (.slice xa PV.extra.length xc)) ∧ (wA.cell? ⟨X, 0, none⟩ = some (.int .i64 x.a.code) ∧ wA.cell? ⟨X, 1, none⟩ = some (.string x.a.key) ∧ wA.cell? ⟨X, 2, none⟩ = some (.int .u64 x.a.val) ∧ wA.cell? ⟨X, 3, none⟩ = some (.slice qpa.a x.a.pairs.length qpa.c)) := ⟨⟨BPA.at 0 rfl, BPA.at 1 rfl, BPA.at 2 rfl, BPA.at 3 rfl, BPA.at 4 rfl, BPA.at 5 rfl, BPA.at 6 rfl⟩, ⟨BXA.at 0 rfl, BXA.at 1 rfl, BXA.at 2 rfl, BXA.at 3 rfl⟩⟩
          have hstA := hstd.keep (Keeps.of_below hbA)
          refine hK.out _ _ hSA (fun hHeld => ?_)
          clear hK K
          refine wpAnyH_ready (rs := [10]) (by kernel_rfl) (by simp) ?_
          refine AllReadyH.cons rfl (fun K hK => ?_) AllReadyH.nil
          go_simp
          refine (show Calls _ _ _ _ _ from rolds_any [] ⟨qpp, qps, ⟨xa, xc⟩⟩ PV wA hstA hS60).mono ?_
          rintro e wB ⟨oa2, oc2, rfl, OB, hbB⟩
          have BPB := BPA.below hbB
          have BXB := BXA.below hbB
          have hSB : (wB.cell? ⟨PB, 0, none⟩ = some (.int .i64 PV.thread) ∧ wB.cell? ⟨PB, 1, none⟩ = some (.int .i64 PV.ans.code) ∧ wB.cell? ⟨PB, 2, none⟩ = some (.string PV.ans.key) ∧ wB.cell? ⟨PB, 3, none⟩ = some (.int .u64 PV.ans.val) ∧ wB.cell? ⟨PB, 4, none⟩ = some (.slice qpp.a PV.ans.pairs.length qpp.c) ∧ wB.cell? ⟨PB, 5, none⟩ = some (.slice qps.a PV.steps.length qps.c) ∧ wB.cell? ⟨PB, 6, none⟩ = some (.slice xa PV.extra.length xc)) ∧ (wB.cell? ⟨X, 0, none⟩ = some (.int .i64 x.a.code) ∧ wB.cell? ⟨X, 1, none⟩ = some (.string x.a.key) ∧ wB.cell? ⟨X, 2, none⟩ = some (.int .u64 x.a.val) ∧ wB.cell? ⟨X, 3, none⟩ = some (.slice qpa.a x.a.pairs.length qpa.c)) := ⟨⟨BPB.at 0 rfl, BPB.at 1 rfl, BPB.at 2 rfl, BPB.at 3 rfl, BPB.at 4 rfl, BPB.at 5 rfl, BPB.at 6 rfl⟩, ⟨BXB.at 0 rfl, BXB.at 1 rfl, BXB.at 2 rfl, BXB.at 3 rfl⟩⟩
          have hstB := hstA.keep (Keeps.of_below hbB)
          refine hK.out _ _ hSB (fun hHeld => ?_)
          clear hK K
          have hol := oldsV_le PV.steps
          have OA2 := (OA.words (by omega)).below hbB
          have OB2 := OB.words (by omega)
          generalize oldsV PV.steps = ol2 at OA2 OB2 OA OB hol ⊢
          refine wpAnyH_ready (rs := [11]) (by kernel_rfl) (by simp) ?_
          refine AllReadyH.cons rfl (fun K hK => ?_) AllReadyH.nil
          go_simp
          refine (same_any oa oa2 oc oc2 ol2 wB OA2 OB2).mono ?_
          rintro e wC ⟨rfl, hbC⟩
          have BPC := BPB.below hbC
          have BXC := BXB.below hbC
          have hSC : (wC.cell? ⟨PB, 0, none⟩ = some (.int .i64 PV.thread) ∧ wC.cell? ⟨PB, 1, none⟩ = some (.int .i64 PV.ans.code) ∧ wC.cell? ⟨PB, 2, none⟩ = some (.string PV.ans.key) ∧ wC.cell? ⟨PB, 3, none⟩ = some (.int .u64 PV.ans.val) ∧ wC.cell? ⟨PB, 4, none⟩ = some (.slice qpp.a PV.ans.pairs.length qpp.c) ∧ wC.cell? ⟨PB, 5, none⟩ = some (.slice qps.a PV.steps.length qps.c) ∧ wC.cell? ⟨PB, 6, none⟩ = some (.slice xa PV.extra.length xc)) ∧ (wC.cell? ⟨X, 0, none⟩ = some (.int .i64 x.a.code) ∧ wC.cell? ⟨X, 1, none⟩ = some (.string x.a.key) ∧ wC.cell? ⟨X, 2, none⟩ = some (.int .u64 x.a.val) ∧ wC.cell? ⟨X, 3, none⟩ = some (.slice qpa.a x.a.pairs.length qpa.c)) := ⟨⟨BPC.at 0 rfl, BPC.at 1 rfl, BPC.at 2 rfl, BPC.at 3 rfl, BPC.at 4 rfl, BPC.at 5 rfl, BPC.at 6 rfl⟩, ⟨BXC.at 0 rfl, BXC.at 1 rfl, BXC.at 2 rfl, BXC.at 3 rfl⟩⟩
          have hstC := hstB.keep (Keeps.of_below hbC)
          refine hK.out _ _ hSC (fun hHeld => ?_)
          clear hK K OA OB OA2 OB2
          refine wpAnyH_take (i := 12) (oi := ⟨_, _, _, _, _, _⟩) (v := ?_) rfl (by kernel_rfl) (by kernel_rfl) (by kernel_rfl) (fun _ _ _ h => h) (Or.inl ⟨by rfl, ?_⟩) (by assumption) ?_
          rotate_left
          · intro wS hSw
            try dsimp only at hSw
            go_simp
            try with_reducible rfl
          try simp only [Act.put, List.setIfInBounds_toArray, List.set_cons_zero, List.set_cons_succ]
          refine wpAnyH_take (i := 13) (oi := ⟨_, _, _, _, _, _⟩) (v := ?_) rfl (by kernel_rfl) (by kernel_rfl) (by kernel_rfl) (fun _ _ _ h => h) (Or.inl ⟨by rfl, ?_⟩) (by assumption) ?_
          rotate_left
          · intro wS hSw
            try dsimp only at hSw
            go_simp
            try with_reducible rfl
          try simp only [Act.put, List.setIfInBounds_toArray, List.set_cons_zero, List.set_cons_succ]
          refine wpAnyH_take (i := 14) (oi := ⟨_, _, _, _, _, _⟩) (v := ?_) rfl (by kernel_rfl) (by kernel_rfl) (by kernel_rfl) (fun _ _ _ h => h) (Or.inl ⟨by rfl, ?_⟩) (by assumption) ?_
          rotate_left
          · intro wS hSw
            try dsimp only at hSw
            go_simp
            try with_reducible rfl
          try simp only [Act.put, List.setIfInBounds_toArray, List.set_cons_zero, List.set_cons_succ]
          refine wpAnyH_take (i := 16) (oi := ⟨_, _, _, _, _, _⟩) (v := ?_) rfl (by kernel_rfl) (by kernel_rfl) (by kernel_rfl) (fun _ _ _ h => h) (Or.inl ⟨by rfl, ?_⟩) (by assumption) ?_
          rotate_left
          · intro wS hSw
            try dsimp only at hSw
            go_simp
            try with_reducible rfl
          try simp only [Act.put, List.setIfInBounds_toArray, List.set_cons_zero, List.set_cons_succ]
          refine wpAnyH_ready (rs := [15]) (by kernel_rfl) (by simp) ?_
          refine AllReadyH.cons rfl (fun K hK => ?_) AllReadyH.nil
          go_simp
          refine (show Calls _ _ _ _ _ from plin_any [] ⟨qpp, qps, ⟨xa, xc⟩⟩ PV wC hstC hS60).mono ?_
          rintro e wD ⟨rfl, hbD⟩
          have BPD := BPC.below hbD
          have BXD := BXC.below hbD
          have hSD : (wD.cell? ⟨PB, 0, none⟩ = some (.int .i64 PV.thread) ∧ wD.cell? ⟨PB, 1, none⟩ = some (.int .i64 PV.ans.code) ∧ wD.cell? ⟨PB, 2, none⟩ = some (.string PV.ans.key) ∧ wD.cell? ⟨PB, 3, none⟩ = some (.int .u64 PV.ans.val) ∧ wD.cell? ⟨PB, 4, none⟩ = some (.slice qpp.a PV.ans.pairs.length qpp.c) ∧ wD.cell? ⟨PB, 5, none⟩ = some (.slice qps.a PV.steps.length qps.c) ∧ wD.cell? ⟨PB, 6, none⟩ = some (.slice xa PV.extra.length xc)) ∧ (wD.cell? ⟨X, 0, none⟩ = some (.int .i64 x.a.code) ∧ wD.cell? ⟨X, 1, none⟩ = some (.string x.a.key) ∧ wD.cell? ⟨X, 2, none⟩ = some (.int .u64 x.a.val) ∧ wD.cell? ⟨X, 3, none⟩ = some (.slice qpa.a x.a.pairs.length qpa.c)) := ⟨⟨BPD.at 0 rfl, BPD.at 1 rfl, BPD.at 2 rfl, BPD.at 3 rfl, BPD.at 4 rfl, BPD.at 5 rfl, BPD.at 6 rfl⟩, ⟨BXD.at 0 rfl, BXD.at 1 rfl, BXD.at 2 rfl, BXD.at 3 rfl⟩⟩
          have hstD := hstC.keep (Keeps.of_below hbD)
          refine hK.out _ _ hSD (fun hHeld => ?_)
          clear hK K
          refine wpAnyH_ready (rs := [17]) (by kernel_rfl) (by simp) ?_
          refine AllReadyH.cons rfl (fun K hK => ?_) AllReadyH.nil
          go_simp
          refine (show Calls _ _ _ _ _ from rlin_any [] ⟨qpp, qps, ⟨xa, xc⟩⟩ PV wD hstD hS60).mono ?_
          rintro e wE ⟨rfl, hbE⟩
          have BPE := BPD.below hbE
          have BXE := BXD.below hbE
          have hSE : (wE.cell? ⟨PB, 0, none⟩ = some (.int .i64 PV.thread) ∧ wE.cell? ⟨PB, 1, none⟩ = some (.int .i64 PV.ans.code) ∧ wE.cell? ⟨PB, 2, none⟩ = some (.string PV.ans.key) ∧ wE.cell? ⟨PB, 3, none⟩ = some (.int .u64 PV.ans.val) ∧ wE.cell? ⟨PB, 4, none⟩ = some (.slice qpp.a PV.ans.pairs.length qpp.c) ∧ wE.cell? ⟨PB, 5, none⟩ = some (.slice qps.a PV.steps.length qps.c) ∧ wE.cell? ⟨PB, 6, none⟩ = some (.slice xa PV.extra.length xc)) ∧ (wE.cell? ⟨X, 0, none⟩ = some (.int .i64 x.a.code) ∧ wE.cell? ⟨X, 1, none⟩ = some (.string x.a.key) ∧ wE.cell? ⟨X, 2, none⟩ = some (.int .u64 x.a.val) ∧ wE.cell? ⟨X, 3, none⟩ = some (.slice qpa.a x.a.pairs.length qpa.c)) := ⟨⟨BPE.at 0 rfl, BPE.at 1 rfl, BPE.at 2 rfl, BPE.at 3 rfl, BPE.at 4 rfl, BPE.at 5 rfl, BPE.at 6 rfl⟩, ⟨BXE.at 0 rfl, BXE.at 1 rfl, BXE.at 2 rfl, BXE.at 3 rfl⟩⟩
          refine hK.out _ _ hSE (fun hHeld => ?_)
          clear hK K
          refine wpAnyH_take (i := 18) (oi := ⟨_, _, _, _, _, _⟩) (v := ?_) rfl (by kernel_rfl) (by kernel_rfl) (by kernel_rfl) (fun _ _ _ h => h) (Or.inl ⟨by rfl, ?_⟩) (by assumption) ?_
          rotate_left
          · intro wS hSw
            try dsimp only at hSw
            go_simp
            try with_reducible rfl
          try simp only [Act.put, List.setIfInBounds_toArray, List.set_cons_zero, List.set_cons_succ]
          refine wpAnyH_take (i := 19) (oi := ⟨_, _, _, _, _, _⟩) (v := ?_) rfl (by kernel_rfl) (by kernel_rfl) (by kernel_rfl) (fun _ _ _ h => h) (Or.inl ⟨by rfl, ?_⟩) (by assumption) ?_
          rotate_left
          · intro wS hSw
            try dsimp only at hSw
            go_simp
            try with_reducible rfl
          try simp only [Act.put, List.setIfInBounds_toArray, List.set_cons_zero, List.set_cons_succ]
          refine wpAnyH_take (i := 20) (oi := ⟨_, _, _, _, _, _⟩) (v := ?_) rfl (by kernel_rfl) (by kernel_rfl) (by kernel_rfl) (fun _ _ _ h => h) (Or.inl ⟨by rfl, ?_⟩) (by assumption) ?_
          rotate_left
          · intro wS hSw
            try dsimp only at hSw
            go_simp
            try with_reducible rfl
          try simp only [Act.put, List.setIfInBounds_toArray, List.set_cons_zero, List.set_cons_succ]
          refine wpAnyH_ready (rs := [21]) (by kernel_rfl) (by simp) ?_
          refine AllReadyH.cons rfl (fun K hK => ?_) AllReadyH.nil
          go_simp
          refine (plives_any wE).mono ?_
          rintro e wF ⟨rfl, hbF⟩
          have BPF := BPE.below hbF
          have BXF := BXE.below hbF
          have hSF : (wF.cell? ⟨PB, 0, none⟩ = some (.int .i64 PV.thread) ∧ wF.cell? ⟨PB, 1, none⟩ = some (.int .i64 PV.ans.code) ∧ wF.cell? ⟨PB, 2, none⟩ = some (.string PV.ans.key) ∧ wF.cell? ⟨PB, 3, none⟩ = some (.int .u64 PV.ans.val) ∧ wF.cell? ⟨PB, 4, none⟩ = some (.slice qpp.a PV.ans.pairs.length qpp.c) ∧ wF.cell? ⟨PB, 5, none⟩ = some (.slice qps.a PV.steps.length qps.c) ∧ wF.cell? ⟨PB, 6, none⟩ = some (.slice xa PV.extra.length xc)) ∧ (wF.cell? ⟨X, 0, none⟩ = some (.int .i64 x.a.code) ∧ wF.cell? ⟨X, 1, none⟩ = some (.string x.a.key) ∧ wF.cell? ⟨X, 2, none⟩ = some (.int .u64 x.a.val) ∧ wF.cell? ⟨X, 3, none⟩ = some (.slice qpa.a x.a.pairs.length qpa.c)) := ⟨⟨BPF.at 0 rfl, BPF.at 1 rfl, BPF.at 2 rfl, BPF.at 3 rfl, BPF.at 4 rfl, BPF.at 5 rfl, BPF.at 6 rfl⟩, ⟨BXF.at 0 rfl, BXF.at 1 rfl, BXF.at 2 rfl, BXF.at 3 rfl⟩⟩
          refine hK.out _ _ hSF (fun hHeld => ?_)
          clear hK K
          refine wpAnyH_take (i := 22) (oi := ⟨_, _, _, _, _, _⟩) (v := ?_) rfl (by kernel_rfl) (by kernel_rfl) (by kernel_rfl) (fun _ _ _ h => h) (Or.inl ⟨by rfl, ?_⟩) (by assumption) ?_
          rotate_left
          · intro wS hSw
            try dsimp only at hSw
            go_simp
            try with_reducible rfl
          try simp only [Act.put, List.setIfInBounds_toArray, List.set_cons_zero, List.set_cons_succ]
          refine wpAnyH_take (i := 23) (oi := ⟨_, _, _, _, _, _⟩) (v := ?_) rfl (by kernel_rfl) (by kernel_rfl) (by kernel_rfl) (fun _ _ _ h => h) (Or.inl ⟨by rfl, ?_⟩) (by assumption) ?_
          rotate_left
          · intro wS hSw
            try dsimp only at hSw
            go_simp
            try with_reducible rfl
          try simp only [Act.put, List.setIfInBounds_toArray, List.set_cons_zero, List.set_cons_succ]
          refine wpAnyH_done (by kernel_rfl) ?_ _
          go_wp2_with fail
          go_ret
          exact ⟨rfl, below_push2 (below_push2 (below_push2 (below_push2 (below_push2 (below_push2 hb0d hbA (Nat.le_refl _)) hbB (Nat.le_refl _)) hbC (Nat.le_refl _)) hbD (Nat.le_refl _)) hbE (Nat.le_refl _)) hbF (Nat.le_refl _)⟩
end Go.Proofs.Ytnecikholpiefaa.Dp
