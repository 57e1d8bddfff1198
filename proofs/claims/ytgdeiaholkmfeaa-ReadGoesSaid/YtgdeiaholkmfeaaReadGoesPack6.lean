/-
  ReadGoes: the walk.
-/
import Derived.Test.YtgdeiaholkmfeaaReadGoesPack5

namespace Go.Proofs.Ytgdeiaholkmfeaa.readGoes
open Go.ChangeShapes Go.WideShapes Go.ChangeAt Go.RowKit RefP CellP MemP Dp
set_option linter.unusedVariables false
set_option linter.unusedSimpArgs false
theorem acc_eq {th nd : Int} {x : RS} (ra : 0 ≤ th) (rb : th < 2) (rc : 0 ≤ nd) (rd : nd < 5) : (if x.at_ = 1 then accY 2 (16 + 2 * th + 1) 0 x.word else if x.at_ = 3 then accY 4 0 0 x.word else accY 1 nd 0 0) = (acc26 nilH (rsAcc 5 2 th nd x)).toArray := by
  have h1 : hazI 5 2 th 1 = 16 + 2 * th + 1 := by
    unfold hazI
    rw [if_pos (by omega)]; omega
  have h2 : atI 5 2 0 nd = nd := by
    rw [atI_yes rc (by simp only [sizeI]; omega)]; simp [fromI]
  unfold rsAcc
  rw [h1, h2]
  by_cases e1 : x.at_ = 1
  · rw [if_pos e1, if_pos e1]; rfl
  · rw [if_neg e1, if_neg e1]
    by_cases e3 : x.at_ = 3
    · rw [if_pos e3, if_pos e3]; rfl
    · rw [if_neg e3, if_neg e3]; rfl
theorem wpList_load_midw {P : Program} {ops : Array Oper} {rest : List Oper} {op : Oper} {a : Act} {w : World} {Q : Exit → Act → World → Prop} (hw : Region.wanted op (yielded ops a.tmps) = true) (ty : TypeId) (x : Operand) (ho : op.op = .load ty x)
    (b o : Nat) (hx : a.eval x = .pointer (some ⟨b, o, none⟩)) (cs : List Value) (d : TypeDesc) (hc : w.rangeAt b o cs)
    (hu : P.underlying ty = some d) (hd : d.isRow = true) (hi : (P.info? ty).map (·.size) = some cs.length)
    (h : wpList P ops Q rest (a.put op.dst (.agg cs.toArray)) w) : wpList P ops Q (op :: rest) a w :=
  wpList_step fun K hK => by
    rw [if_pos hw]
    exact wp_load_mid ty x ho b o hx cs d hc hu hd hi (hK _ _ h)
theorem kn_node {w : World} {b : Nat} {c wd v : Int} {q : NodeH} {x : NodeV} {T : TypeId} (B : Blk w b (knA c wd v (.int .i64 x.level) (.string x.low) (.string x.high) (.bool x.last) (.int .i64 x.next) (.slice q.keys.a x.keys.length q.keys.c) (.slice q.vals.a x.vals.length q.vals.c) (.slice q.kids.a x.kids.length q.kids.c)) T) : w.rangeAt b 3 (nodeL q x) :=
  range_blk B 3 _ (fun j v hv => by
    have hj : j < 8 := (List.getElem?_eq_some_iff.1 hv).1
    rcases lt8 hj with e | e | e | e | e | e | e | e <;> subst e <;> exact hv)
theorem ds_node {w : World} {b : Nat} {cell hz : Int} {y : RS} {q : NodeH} {T : TypeId} (B : Blk w b (dsA cell hz y q) T) : w.rangeAt b 8 (nodeL q y.node) :=
  range_blk B 8 _ (fun j v hv => by
    have hj : j < 8 := (List.getElem?_eq_some_iff.1 hv).1
    rcases lt8 hj with e | e | e | e | e | e | e | e <;> subst e <;> exact hv)
set_option maxRecDepth 100000 in
set_option maxHeartbeats 6400000 in
theorem walk (a : Option Addr) (c : Nat) (xs : List AccV) (th nd : Int) (a' : Option Addr) (c' : Nat) (ys : List AccV) (w : World) (H : RowRep accT w [] a xs) (H' : RowRep accT w [] a' ys) (hm : xs.length ≤ 9223372036854775807) (hm' : ys.length ≤ 9223372036854775807) (sx : ∀ x ∈ xs, SmB x.block) (sy : ∀ x ∈ ys, SmB x.block) (ith : I64 th) (ind : I64 nd) :
    Calls Try.prog 3 #[.slice a xs.length c, .int .i64 th, .int .i64 nd, .slice a' ys.length c'] w fun e w' => e = .returned (.bool true) ∧ Below w.heap.size w w' := by
  have ith' := ith
  have ind' := ind
  obtain ⟨t0, t1⟩ := ith'
  obtain ⟨n0, n1⟩ := ind'
  go_enter Try.func3, Try.ntmps3
  go_wp2_with fail
  refine (light_any [] a c xs w H hm).mono ?_
  rintro e w1 ⟨rfl, hb1⟩
  cases hL : lightL xs
  · go_wp2_with fail
    refine (rdLives_any _).mono ?_
    rintro e w3 ⟨rfl, hb3⟩
    go_wp2_with fail
    go_ret
    exact ⟨rfl, below_push2 hb1 hb3 (Nat.le_refl _)⟩
  go_wp2_with fail
  refine (light_any [] a' c' ys w1 (H'.keep (Keeps.of_below hb1)) hm').mono ?_
  rintro e w2 ⟨rfl, hb2⟩
  have hB2 := below_push2 hb1 hb2 (Nat.le_refl _)
  clear hb1 hb2
  cases hL' : lightL ys
  · go_wp2_with fail
    refine (rdLives_any _).mono ?_
    rintro e w3 ⟨rfl, hb3⟩
    go_wp2_with fail
    go_ret
    exact ⟨rfl, below_push2 hB2 hb3 (Nat.le_refl _)⟩
  have fx := few_all hL sx
  have fy := few_all hL' sy
  have lx := light_len hL
  have ly := light_len hL'
  clear hL hL' sx sy hm hm'
  go_wp2_with fail
  refine (mnew_yes 5 2 0 _ (by omega) (by omega) (by omega) (by omega) (by omega) (by omega)).mono ?_
  rintro e w3 ⟨o, oc, g, gb, gr, rfl, hM, hb3, ho, hoc, hg, hgb, hgr⟩
  have hs2 := hB2.size
  have hR0 : MStep w w3 ⟨o, oc, g, gb, gr⟩ (newV 5 2 0) 0 := ⟨below_push2 hB2 hb3 (Nat.le_refl _), new_is hM, ⟨rfl, rfl, by simp [newV, freshL]⟩, fresh_vb _ _ _, by simp only [MemId.own, List.mem_cons, List.not_mem_nil, or_false, forall_eq_or_imp, forall_eq]; omega⟩
  obtain ⟨m, hm⟩ : ∃ m : MemId, m = ⟨o, oc, g, gb, gr⟩ := ⟨_, rfl⟩
  have ho' : o = m.o := by rw [hm]
  rw [← hm] at hR0
  clear hm
  subst ho'
  generalize newV 5 2 0 = M0 at hR0
  clear hM hb3 ho hoc hg hgb hgr hs2 hB2
  go_wp2_with fail
  go_loopw [40] (fun i wr => ∃ (k : Nat) (M : MemV), k ≤ xs.length ∧ i = .int .i64 k ∧ MStep w wr m M k) (fun i _ => xs.length - (intOf i).toNat)
  case atStart => exact ⟨0, M0, Nat.zero_le _, rfl, hR0⟩
  case round =>
    clear hR0
    obtain ⟨k, M, hk, rfl, hR⟩ := hrel
    by_cases hlt : k < xs.length
    · have hlt' : (k : Int) < (xs.length : Int) := by omega
      obtain ⟨b, off, qa, hxa, hbl, hcs, hok⟩ := acc_cell (H.keep (Keeps.of_below hR.b)) k hlt
      obtain rfl := hxa
      have hfa := fx _ (List.getElem_mem hlt)
      generalize xs[k] = ac at hcs hok hfa
      have BX := Blk.new wr (acc26 qa ac).toArray 44
      have hbx : Below wr.heap.size wr (wr.alloc (.cells (acc26 qa ac).toArray 44)) := (Below.refl _ wr).alloc (Nat.le_refl _) _
      have hok1 := hok.keep (Keeps.of_below hbx)
      have hR1 := hR.under hbx
      have hlw := hR.mem.lt
      go_wp2_with (first
        | (refine wpList_load_mid rfl 44 _ rfl b (off + k * 26) rfl (acc26 qa ac) _ hcs Try.underlying44 rfl (by kernel_rfl) ?_)
        | (refine wpList_load_row rfl 44 _ rfl wr.heap.size rfl 44 _ (0, 0) _ BX.h Try.underlying44 rfl (by kernel_rfl) ?_)
        | (refine wpList_store_row rfl 44 _ _ rfl _ _ rfl rfl 44 _ (Blk.new wr _ _).h (by kernel_rfl) (by rfl) (by kernel_rfl) ?_; rw [World.setRow_alloc_new]))
      refine (show Calls _ _ _ _ _ from do_any ac qa _ hR1.mem (fun b hb => by have := hlw b hb; simp; omega) hok1 hfa).mono ?_
      intro e w5 hD
      obtain ⟨⟨qr, rfl, _, _⟩, _, _⟩ := id hD
      have hR2 := hR1.did (by omega) hD
      clear hR hR1 hD hok hok1 hcs BX hbx
      go_wp2_with fail
      go_roundw
      case rel => exact ⟨k + 1, _, by omega, by go_num, hR2⟩
      case measure => simp [intOf]; omega
    obtain rfl : k = xs.length := by omega
    clear hlt fx H
    go_wp2_with fail
    refine (rdNew_any _ _ _ _).mono ?_
    rintro e w4 ⟨rfl, hw4⟩
    have hR0 := RdIs.start (X := []) hR th nd
    have hw4' : w4 = wr.alloc (.cells (rdX (some ⟨m.o, 0, none⟩) th nd rs0 nilH.node) 70) := hw4
    rw [← hw4'] at hR0
    obtain ⟨t, ht⟩ : ∃ t, t = wr.heap.size := ⟨_, rfl⟩
    rw [← ht] at hR0 ⊢
    clear hw4 hw4' hR ht
    by_cases hrange : 0 ≤ th ∧ th < 2 ∧ 0 ≤ nd ∧ nd < 5
    · obtain ⟨ra, rb, rc, rd⟩ := hrange
      have hR1 := hR0.beside (.cells #[.int .i64 nd, .int .i64 (16 + 2 * th + 1), .int .i64 0, .int .i64 0, .bool false, .int .i64 nd, .int .u64 0, .int .u64 0, .int .i64 0, .string ⟨#[]⟩, .string ⟨#[]⟩, .bool false, .int .i64 0, .slice none 0 0, .slice none 0 0, .slice none 0 0] 58)
      have BD : Blk (w4.alloc (.cells #[.int .i64 nd, .int .i64 (16 + 2 * th + 1), .int .i64 0, .int .i64 0, .bool false, .int .i64 nd, .int .u64 0, .int .u64 0, .int .i64 0, .string ⟨#[]⟩, .string ⟨#[]⟩, .bool false, .int .i64 0, .slice none 0 0, .slice none 0 0, .slice none 0 0] 58)) w4.heap.size (dsA nd (16 + 2 * th + 1) rs0 nilH.node) 58 := Blk.new w4 #[.int .i64 nd, .int .i64 (16 + 2 * th + 1), .int .i64 0, .int .i64 0, .bool false, .int .i64 nd, .int .u64 0, .int .u64 0, .int .i64 0, .string ⟨#[]⟩, .string ⟨#[]⟩, .bool false, .int .i64 0, .slice none 0 0, .slice none 0 0, .slice none 0 0] 58
      have hs4 := hR0.b.size
      have htd : w.heap.size ≤ w4.heap.size ∧ w4.heap.size ≠ t ∧ w4.heap.size ∉ m.own := ⟨hs4, fun e => by have := hR0.task.lt; omega, fun e => by have := hR0.mem.lt _ e; omega⟩
      generalize hW : w4.alloc (.cells #[.int .i64 nd, .int .i64 (16 + 2 * th + 1), .int .i64 0, .int .i64 0, .bool false, .int .i64 nd, .int .u64 0, .int .u64 0, .int .i64 0, .string ⟨#[]⟩, .string ⟨#[]⟩, .bool false, .int .i64 0, .slice none 0 0, .slice none 0 0, .slice none 0 0] 58) = w5 at hR1 BD
      replace hW := Lib.hid hW
      go_upto_region 15 with (refine wpList_store_row rfl 58 _ _ rfl _ _ rfl rfl 58 _ (Blk.new w4 _ _).h (by kernel_rfl) (by rfl) (by kernel_rfl) ?_; rw [World.setRow_alloc_new, hW.out])
      try simp only [Act.put]
      clear hW hR0
      generalize w4.heap.size = td at hR1 BD htd ⊢
      have hND : NodeOk w5 (t :: ([td] ++ m.own)) nilH.node rs0.node := (blockZ_ok _ _).node
      go_wp2_with fail
      go_loopw [98] (fun i wr => ∃ (i' : Nat) (M : MemV) (x y : RS) (q qd : NodeH), i' ≤ 4 ∧ i = .int .i64 i' ∧ RdIs [td] w wr m M t th nd x q ∧ DsIs wr (t :: ([td] ++ m.own)) td nd (16 + 2 * th + 1) x y qd ∧ (x.st = 0 → x.at_ = (i' : Int) ∧ i' ≤ 3)) (fun i _ => 6 - (intOf i).toNat)
      case atStart => exact ⟨0, M, rs0, rs0, nilH.node, nilH.node, by omega, rfl, hR1, ⟨BD, hND, rfl, rfl, rfl, rfl, rfl, fun _ => rfl⟩, fun _ => ⟨rfl, by omega⟩⟩
      case round =>
        clear hR1 BD hND
        obtain ⟨i, M, x, y, q, qd, hi, rfl, hR, hDs, hat⟩ := hrel
        have hlt' : (i : Int) < 6 := by omega
        by_cases hx : x.st = 0
        · obtain ⟨hDb, hDn, yat, yst, ysu, ywo, yve, ygo⟩ := hDs
          obtain ⟨x1, x2, x3, x4, x5, node⟩ := x
          obtain ⟨at_, st, su, word, ver, ynode⟩ := y
          simp only at hx yat yst ysu ywo yve ygo hDn hat
          subst yat yst ysu ywo yve hx
          obtain ⟨hat1, hat2⟩ := hat rfl
          clear hat
          replace hat1 := Lib.hid hat1
          have hE := acc_eq (x := ⟨at_, 0, su, word, ver, ynode⟩) ra rb rc rd
          have hac0 : rsAcc 5 2 th nd ⟨at_, 0, su, word, ver, ynode⟩ = rsAcc 5 2 th nd ⟨at_, 0, su, word, ver, node⟩ := rfl
          rw [hac0] at hE
          go_wp2_with fail
          refine (rd_next hR ra rb rc rd rfl).mono ?_
          rintro e w6 ⟨rfl, hb6⟩
          obtain ⟨ac, hac⟩ : ∃ ac, ac = rsAcc 5 2 th nd ⟨at_, 0, su, word, ver, node⟩ := ⟨_, rfl⟩
          rw [← hac] at hE ⊢
          replace hac := Lib.hid hac
          replace hE := Lib.hid hE
          have hbx : Below w6.heap.size w6 (w6.alloc (.cells (acc26 nilH ac).toArray 44)) := (Below.refl _ w6).alloc (Nat.le_refl _) _
          have BX := Blk.new w6 (acc26 nilH ac).toArray 44
          replace hR := (hR.under hb6).under hbx
          replace hDb := (hDb.below hb6).below hbx
          replace hDn := (hDn.keep (Keeps.of_below hb6)).keep (Keeps.of_below hbx)
          generalize hW : w6.alloc (.cells (acc26 nilH ac).toArray 44) = w7 at hR hDb hDn BX
          replace hW := Lib.hid hW
          clear hbx hb6
          go_wp2_with (first
            | (refine wpList_store_row rfl 44 _ _ rfl _ _ rfl rfl 44 _ (Blk.new w6 _ _).h (by kernel_rfl) (by rfl) (by kernel_rfl) ?_; rw [World.setRow_alloc_new, hW.out])
            | (refine wpList_load_row rfl 58 _ rfl td rfl 58 _ (0, 0) _ hDb.h Try.underlying58 rfl (by kernel_rfl) ?_))
          have ha := hR.at_ rfl
          simp only at ha
          refine (show Calls _ _ _ _ _ from ds_next (cell := nd) (hz := 16 + 2 * th + 1) (x := ⟨at_, 0, su, word, ver, ynode⟩) (q := qd) w7 rfl ha.1 ha.2).mono ?_
          rw [hE.out]
          rintro e w8 ⟨rfl, hb8⟩
          have hbx : Below w8.heap.size w8 (w8.alloc (.cells (acc26 nilH ac).toArray 44)) := (Below.refl _ w8).alloc (Nat.le_refl _) _
          have BY := Blk.new w8 (acc26 nilH ac).toArray 44
          replace hR := (hR.under hb8).under hbx
          replace hDb := (hDb.below hb8).below hbx
          replace hDn := (hDn.keep (Keeps.of_below hb8)).keep (Keeps.of_below hbx)
          replace BX := (BX.below hb8).below hbx
          clear hW
          generalize hW : w8.alloc (.cells (acc26 nilH ac).toArray 44) = w9 at hR hDb hDn BX BY
          replace hW := Lib.hid hW
          clear hbx hb8
          obtain ⟨bs, hMA⟩ := hR.mem.at_
          rw [hR.sh.1, hR.sh.2.1] at hMA
          go_wp2_with (refine wpList_store_row rfl 44 _ _ rfl _ _ rfl rfl 44 _ (Blk.new w8 _ _).h (by kernel_rfl) (by rfl) (by kernel_rfl) ?_; rw [World.setRow_alloc_new, hW.out])
          refine (rdKnown_no t th at_ 0 su nd word ver _ _ _ _ _ _ _ _ w9 hMA hR.task ra (by omega) rc (by omega) (by decide)).mono ?_
          rintro e w10 ⟨rfl, hb10⟩
          have hbx : Below w10.heap.size w10 (w10.alloc (.cells (knA 0 0 0 (.int .i64 0) (.string ⟨#[]⟩) (.string ⟨#[]⟩) (.bool false) (.int .i64 0) (.slice none 0 0) (.slice none 0 0) (.slice none 0 0)) 53)) := (Below.refl _ w10).alloc (Nat.le_refl _) _
          replace hR := (hR.under hb10).under hbx
          replace hDb := (hDb.below hb10).below hbx
          replace hDn := (hDn.keep (Keeps.of_below hb10)).keep (Keeps.of_below hbx)
          replace BX := (BX.below hb10).below hbx
          replace BY := (BY.below hb10).below hbx
          replace hMA := (hMA.below hb10).below hbx
          clear hW
          generalize hW : w10.alloc (.cells (knA 0 0 0 (.int .i64 0) (.string ⟨#[]⟩) (.string ⟨#[]⟩) (.bool false) (.int .i64 0) (.slice none 0 0) (.slice none 0 0) (.slice none 0 0)) 53) = w11 at hR hDb hDn BX BY hMA
          replace hW := Lib.hid hW
          clear hbx hb10
          go_upto_region 21 with (refine wpList_store_row rfl 53 _ _ rfl _ _ rfl rfl 53 _ (Blk.new w10 _ _).h (by kernel_rfl) (by rfl) (by kernel_rfl) ?_; rw [World.setRow_alloc_new, hW.out])
          try simp only [Act.put]
          have hT := hR.task
          have ka0 := fun dd os => cell_regrown (BX.at 0 rfl) dd os
          have ka1 := fun dd os => cell_regrown (BX.at 1 rfl) dd os
          have ka3 := fun dd os => cell_regrown (BX.at 3 rfl) dd os
          have kb0 := fun dd os => cell_regrown (BY.at 0 rfl) dd os
          have kb1 := fun dd os => cell_regrown (BY.at 1 rfl) dd os
          have kb3 := fun dd os => cell_regrown (BY.at 3 rfl) dd os
          have kd3 := fun dd os => cell_regrown (show w11.cell? ⟨td, 3, none⟩ = some (.int .i64 0) from hDb.at 3 rfl) dd os
          have kd4 := fun dd os => cell_regrown (show w11.cell? ⟨td, 4, none⟩ = some (.bool su) from hDb.at 4 rfl) dd os
          have kS := fun dd os => Calls.regrown_of (rdState_on t th at_ 0 su nd word ver _ _ _ _ _ _ _ _ (Go.Sort.grow (redrawn w11 dd) os) (hMA.below (below_regrown w11 dd os)) (hT.below (below_regrown w11 dd os)) ra (by omega) rc (by omega))
          have kU := fun dd os => Calls.regrown_of ((rdSure_any t su (Go.Sort.grow (redrawn w11 dd) os) ((hT.below (below_regrown w11 dd os)).at 4 rfl)).mono fun e w' h => ⟨h.1, h.2 ▸ Below.refl _ _⟩)
          refine wp_region_quiet_below (by kernel_rfl) (by kernel_rfl) ?_
          iterate 45 (go_big_quiet_step (first | exact kS _ _ | exact kU _ _))
          refine wpQuiet_nil ?_
          intro w12 hw'
          have hb12 := RefP.below_of_regrown hw'
          clear hw' ka0 ka1 ka3 kb0 kb1 kb3 kd3 kd4 kS kU
          replace hR := hR.under hb12
          replace hDb := hDb.below hb12
          replace hDn := hDn.keep (Keeps.of_below hb12)
          replace BX := BX.below hb12
          clear hb12 hMA hT BY hW
          have hacc : AccOk w12 [] nilH ac := by rw [hac.out]; exact rs_ok (by omega) (by omega) hR.word
          have hfew : Few ac.block := by rw [hac.out]; exact rs_few
          have hrz : at_ ≠ 3 → ac.kind ≠ 4 ∧ (repV M ac).block = blockZ ∧ (repV M ac).op = opZ := fun h3 => by rw [hac.out]; exact rs_rep (x := ⟨at_, 0, su, word, ver, node⟩) h3
          replace hrz := Lib.hid hrz
          replace htd := Lib.hid htd
          go_upto_region 27 with (fail)
          try simp only [Act.put]
          go_wp2_with (refine wpList_load_row rfl 44 _ rfl w6.heap.size rfl 44 _ (0, 0) _ BX.h Try.underlying44 rfl (by kernel_rfl) ?_)
          refine (show Calls _ _ _ _ _ from do_any ac nilH _ hR.mem hR.lt hacc hfew).mono ?_
          intro e w13 hD
          have hlw := hR.lt
          obtain ⟨⟨qr, rfl, hrep, hz⟩, _, _⟩ := id hD
          have hS3 : ∀ b ∈ [m.g, m.gb, m.gr], b ∈ m.own := by simp [MemId.own]
          replace hrep := hrep.more (S' := t :: ([td] ++ m.own)) (fun b hb => .inl (by simpa using hlw b hb))
          replace hDb := hD.fr.blk hDb (fun e => htd.out.2.2 (hS3 _ e))
          replace hDn := hDn.keep (hD.fr.keeps.more fun b hb => List.mem_cons_of_mem _ (List.mem_append_right _ (hS3 b hb)))
          replace hR := hR.did hD
          have hlt13 : t < w13.heap.size ∧ td < w13.heap.size := ⟨hR.task.lt, hDb.lt⟩
          clear hD BX hlw hacc hfew hS3
          generalize doV M ac = M' at hR
          generalize hrv : repV M ac = r at hrep hrz ⊢
          clear hrv
          have hzz : at_ ≠ 3 → qr = nilH ∧ r.block = blockZ ∧ r.op = opZ := fun h3 => ⟨hz (hrz.out h3).1, (hrz.out h3).2⟩
          replace hzz := Lib.hid hzz
          clear hz hrz hac hE
          have hbx : Below w13.heap.size w13 (w13.alloc (.cells (repA qr r) 46)) := (Below.refl _ w13).alloc (Nat.le_refl _) _
          have BQ := Blk.new w13 (repA qr r) 46
          replace hR := hR.under hbx
          replace hDb := hDb.below hbx
          replace hDn := hDn.keep (Keeps.of_below hbx)
          replace hrep := hrep.keep (Keeps.of_below hbx)
          generalize hW : w13.alloc (.cells (repA qr r) 46) = w14 at hR hDb hDn BQ hrep
          replace hW := Lib.hid hW
          clear hbx
          go_wp2_with (first
            | (refine wpList_store_row rfl 46 _ _ rfl _ _ rfl rfl 46 _ (Blk.new w13 _ _).h (by kernel_rfl) (by rfl) (by kernel_rfl) ?_; rw [World.setRow_alloc_new, hW.out])
            | (refine wpList_load_row rfl 46 _ rfl w13.heap.size rfl 46 _ (0, 0) _ BQ.h Try.underlying46 rfl (by kernel_rfl) ?_))
          clear hW
          refine (rd_tell hR ra rb rc rd rfl hrep (fun h3 => hzz.out h3)).mono ?_
          intro e w15 hT
          obtain ⟨rfl, q', hR4, F15⟩ := hT
          have htd0 := htd.out
          have hqt : w13.heap.size ≠ t ∧ w13.heap.size ≠ td := by have := hlt13; omega
          have hrw := hrep.word
          have hNr := hrep.block.node.keep (F15.keeps.more (by simp))
          replace hDb := F15.blk hDb (by simpa using htd0.2.1)
          replace BQ := F15.blk BQ (by simpa using hqt.1)
          replace hDn := hDn.keep (F15.keeps.more (by simp))
          clear hR hrep F15
          go_wp2_with (first
            | (refine wpList_load_row rfl 58 _ rfl td rfl 58 _ (0, 0) _ hDb.h Try.underlying58 rfl (by kernel_rfl) ?_)
            | (refine wpList_load_row rfl 46 _ rfl w13.heap.size rfl 46 _ (0, 0) _ BQ.h Try.underlying46 rfl (by kernel_rfl) ?_))
          obtain ⟨qd2, hqd⟩ : ∃ q2 : NodeH, q2 = (if at_ = 3 ∧ r.ok = true ∧ r.block.kind = 1 then qr.node else qd) := ⟨_, rfl⟩
          have hdt : Calls Try.prog 18 #[.agg (dsA nd (16 + 2 * th + 1) ⟨at_, 0, su, word, ver, ynode⟩ qd), .agg (repA qr r)] w15 fun e w' => e = .returned (.agg (dsA nd (16 + 2 * th + 1) (dsTell ⟨at_, 0, su, word, ver, ynode⟩ r) qd2)) ∧ Below w15.heap.size w15 w' := by
            rw [hqd]
            exact ds_tell (cell := nd) (hz := 16 + 2 * th + 1) (x := ⟨at_, 0, su, word, ver, ynode⟩) (q := qd) w15 rfl ha.1 ha.2 hrw hzz.out
          replace hqd := Lib.hid hqd
          refine hdt.mono ?_
          rintro e w16 ⟨rfl, hb16⟩
          replace hR4 := hR4.under hb16
          replace hDb := hDb.below hb16
          replace hDn := hDn.keep (Keeps.of_below hb16)
          replace hNr := hNr.keep (Keeps.of_below hb16)
          have hst := rsTell_at ⟨at_, 0, su, word, ver, node⟩ r ha.1 ha.2
          have hat' : (rsTell ⟨at_, 0, su, word, ver, node⟩ r).st = 0 → (rsTell ⟨at_, 0, su, word, ver, node⟩ r).at_ = ((i + 1 : Nat) : Int) ∧ i + 1 ≤ 3 := fun h => by
            have e1 := hst h
            have e2 := hat1.out
            simp only at e1
            omega
          have FSx := Fr.row (S := [td]) (w := w16) td (dsA nd (16 + 2 * th + 1) (dsTell ⟨at_, 0, su, word, ver, ynode⟩ r) qd2) (by simp)
          have hDs := DsIs.told (x := ⟨at_, 0, su, word, ver, node⟩) (y := ⟨at_, 0, su, word, ver, ynode⟩) (r := r) rfl rfl rfl rfl rfl ha.1 ha.2 hqd.out (Blk.row hDb (dsA nd (16 + 2 * th + 1) (dsTell ⟨at_, 0, su, word, ver, ynode⟩ r) qd2)) (hDn.keep (FSx.keeps.more (by simp))) (hNr.keep (FSx.keeps.more (by simp)))
          have hR5 := hR4.side FSx (fun b hb => by simp only [List.mem_singleton] at hb; subst hb; exact ⟨htd0.1, htd0.2.1, htd0.2.2⟩)
          replace hat' := Lib.hid hat'
          clear hst hNr hDn hzz FSx BQ hqd hdt hb16 hrw hqt ygo htd0
          generalize hW : w16.setRow td (dsA nd (16 + 2 * th + 1) (dsTell ⟨at_, 0, su, word, ver, ynode⟩ r) qd2) = w17 at hDs hR5
          replace hW := Lib.hid hW
          go_wp2_with (refine wpList_store_row rfl 58 _ _ rfl td _ rfl rfl 58 _ hDb.h (by kernel_rfl) (by rfl) (by kernel_rfl) ?_; rw [hW.out])
          clear hW hDb hR4
          generalize rsTell ⟨at_, 0, su, word, ver, node⟩ r = x' at hat' hDs hR5
          generalize dsTell ⟨at_, 0, su, word, ver, ynode⟩ r = y' at hDs
          clear hat1 hac0 ha
          go_loopw [211] (fun j wr => ∃ (k : Nat) (M : MemV), k ≤ ys.length ∧ j = .int .i64 k ∧ RdIs [td] w wr m M t th nd x' q' ∧ DsIs wr (t :: ([td] ++ m.own)) td nd (16 + 2 * th + 1) x' y' qd2) (fun j _ => ys.length - (intOf j).toNat)
          case atStart => exact ⟨0, M', Nat.zero_le _, rfl, hR5, hDs⟩
          case round =>
            clear hR5 hDs
            obtain ⟨k, M1, hk, rfl, hR, hDs⟩ := hrel
            by_cases hlt : k < ys.length
            · have hlt' : (k : Int) < (ys.length : Int) := by omega
              obtain ⟨b, off, qa, hxa, hbl, hcs, hok⟩ := acc_cell (H'.keep (Keeps.of_below hR.b)) k hlt
              obtain rfl := hxa
              have hfa := fy _ (List.getElem_mem hlt)
              generalize ys[k] = ac at hcs hok hfa
              have BX := Blk.new wr (acc26 qa ac).toArray 44
              have hbx : Below wr.heap.size wr (wr.alloc (.cells (acc26 qa ac).toArray 44)) := (Below.refl _ wr).alloc (Nat.le_refl _) _
              have hok1 := hok.keep (Keeps.of_below hbx)
              have hR1 := hR.under hbx
              have hlw := hR.mem.lt
              have hS3 : ∀ b ∈ [m.g, m.gb, m.gr], b ∈ m.own := by simp [MemId.own]
              by_cases hc : k % 4 = i
              · have q0 : (k : Int).tmod 4 = (k : Int) % 4 := Int.tmod_eq_emod_of_nonneg (by omega)
                have q1 : ((k : Int).tmod 4 == (i : Int)) = true := by rw [q0]; simp; omega
                have q2 : ((k : Int) % 4 == (i : Int)) = true := by simp; omega
                have q3 : decide ((k : Int) % 4 = (i : Int)) = true := by simp; omega
                clear hc hok
                go_wp2_with (first
                  | (refine wpList_load_mid rfl 44 _ rfl b (off + k * 26) rfl (acc26 qa ac) _ hcs Try.underlying44 rfl (by kernel_rfl) ?_)
                  | (refine wpList_load_row rfl 44 _ rfl wr.heap.size rfl 44 _ (0, 0) _ BX.h Try.underlying44 rfl (by kernel_rfl) ?_)
                  | (refine wpList_store_row rfl 44 _ _ rfl _ _ rfl rfl 44 _ (Blk.new wr _ _).h (by kernel_rfl) (by rfl) (by kernel_rfl) ?_; rw [World.setRow_alloc_new]))
                refine (show Calls _ _ _ _ _ from do_any ac qa _ hR1.mem hR1.lt hok1 hfa).mono ?_
                intro e w5 hD
                obtain ⟨⟨qr, rfl, _, _⟩, _, _⟩ := id hD
                have hR2 := hR1.did hD
                have hD2 := (hDs.under hbx).keep hD.fr (fun b hb => List.mem_cons_of_mem _ (List.mem_append_right _ (hS3 b hb))) (fun e => htd.out.2.2 (hS3 _ e))
                clear hR hR1 hD hok1 hcs BX hbx hDs q0 q1 q2 q3
                go_wp2_with fail
                go_roundw
                case rel => exact ⟨k + 1, _, by omega, by go_num, hR2, hD2⟩
                case measure => simp [intOf]; omega
              · have q0 : (k : Int).tmod 4 = (k : Int) % 4 := Int.tmod_eq_emod_of_nonneg (by omega)
                have q1 : ((k : Int).tmod 4 == (i : Int)) = false := by rw [q0]; simp; omega
                have q2 : ((k : Int) % 4 == (i : Int)) = false := by simp; omega
                have q3 : decide ((k : Int) % 4 = (i : Int)) = false := by simp; omega
                have hD2 := hDs.under hbx
                clear hc hok hok1 hDs hR
                go_wp2_with (first
                  | (refine wpList_load_mid rfl 44 _ rfl b (off + k * 26) rfl (acc26 qa ac) _ hcs Try.underlying44 rfl (by kernel_rfl) ?_)
                  | (refine wpList_store_row rfl 44 _ _ rfl _ _ rfl rfl 44 _ (Blk.new wr _ _).h (by kernel_rfl) (by rfl) (by kernel_rfl) ?_; rw [World.setRow_alloc_new]))
                clear q0 q1 q2 q3
                go_roundw
                case rel => exact ⟨k + 1, _, by omega, by go_num, hR1, hD2⟩
                case measure => simp [intOf]; omega
            obtain rfl : k = ys.length := by omega
            go_wp2_with fail
            go_roundw
            case rel => exact ⟨i + 1, M1, x', y', q', qd2, by omega, by go_num, hR, hDs, hat'.out⟩
            case measure => simp [intOf]; omega
        · obtain ⟨hDb, hDn, yat, yst, ysu, ywo, yve, ygo⟩ := hDs
          obtain ⟨at_, st, su, word, ver, node⟩ := x
          obtain ⟨yat_, yst_, ysu_, yword, yver, ynode⟩ := y
          simp only at hx yat yst ysu ywo yve ygo hDn
          subst yat yst ysu ywo yve
          clear hat htd
          go_wp2_with fail
          refine (rd_over hR ra rb rc rd hx).mono ?_
          rintro e w6 ⟨rfl, hb6⟩
          have hbx : Below w6.heap.size w6 (w6.alloc (.cells (accY 0 0 0 0) 44)) := (Below.refl _ w6).alloc (Nat.le_refl _) _
          have BX := Blk.new w6 (accY 0 0 0 0) 44
          replace hR := (hR.under hb6).under hbx
          replace hDb := (hDb.below hb6).below hbx
          replace hDn := (hDn.keep (Keeps.of_below hb6)).keep (Keeps.of_below hbx)
          generalize hW : w6.alloc (.cells (accY 0 0 0 0) 44) = w7 at hR hDb hDn BX
          replace hW := Lib.hid hW
          clear hbx hb6
          go_wp2_with (first
            | (refine wpList_store_row rfl 44 _ _ rfl _ _ rfl rfl 44 _ (Blk.new w6 _ _).h (by kernel_rfl) (by rfl) (by kernel_rfl) ?_; rw [World.setRow_alloc_new, hW.out])
            | (refine wpList_load_row rfl 58 _ rfl td rfl 58 _ (0, 0) _ hDb.h Try.underlying58 rfl (by kernel_rfl) ?_))
          refine (show Calls _ _ _ _ _ from dsNext_over nd (16 + 2 * th + 1) yat_ yst_ ysu_ yword yver ynode qd w7 hx).mono ?_
          rintro e w8 ⟨rfl, hb8⟩
          have hbx : Below w8.heap.size w8 (w8.alloc (.cells (accY 0 0 0 0) 44)) := (Below.refl _ w8).alloc (Nat.le_refl _) _
          have BY := Blk.new w8 (accY 0 0 0 0) 44
          replace hR := (hR.under hb8).under hbx
          replace hDb := (hDb.below hb8).below hbx
          replace hDn := (hDn.keep (Keeps.of_below hb8)).keep (Keeps.of_below hbx)
          replace BX := (BX.below hb8).below hbx
          clear hW
          generalize hW : w8.alloc (.cells (accY 0 0 0 0) 44) = w9 at hR hDb hDn BX BY
          replace hW := Lib.hid hW
          clear hbx hb8
          obtain ⟨bs, hMA⟩ := hR.mem.at_
          rw [hR.sh.1, hR.sh.2.1] at hMA
          go_wp2_with (refine wpList_store_row rfl 44 _ _ rfl _ _ rfl rfl 44 _ (Blk.new w8 _ _).h (by kernel_rfl) (by rfl) (by kernel_rfl) ?_; rw [World.setRow_alloc_new, hW.out])
          have hi' : (i : Int) ≤ 4 := by omega
          by_cases h4 : yst_ = 4
          · subst h4
            obtain rfl := ygo rfl
            clear ygo hx
            refine (rdKnown_yes t th yat_ ysu_ nd yword yver q ynode w9 hMA hR.task ra (by omega) rc (by omega)).mono ?_
            rintro e w10 ⟨rfl, hb10⟩
            have hbx : Below w10.heap.size w10 (w10.alloc (.cells (knA nd yword yver (.int .i64 ynode.level) (.string ynode.low) (.string ynode.high) (.bool ynode.last) (.int .i64 ynode.next) (.slice q.keys.a ynode.keys.length q.keys.c) (.slice q.vals.a ynode.vals.length q.vals.c) (.slice q.kids.a ynode.kids.length q.kids.c)) 53)) := (Below.refl _ w10).alloc (Nat.le_refl _) _
            have BK := Blk.new w10 (knA nd yword yver (.int .i64 ynode.level) (.string ynode.low) (.string ynode.high) (.bool ynode.last) (.int .i64 ynode.next) (.slice q.keys.a ynode.keys.length q.keys.c) (.slice q.vals.a ynode.vals.length q.vals.c) (.slice q.kids.a ynode.kids.length q.kids.c)) 53
            replace hR := (hR.under hb10).under hbx
            replace hDb := (hDb.below hb10).below hbx
            replace hDn := (hDn.keep (Keeps.of_below hb10)).keep (Keeps.of_below hbx)
            replace BX := (BX.below hb10).below hbx
            replace BY := (BY.below hb10).below hbx
            replace hMA := (hMA.below hb10).below hbx
            clear hW
            generalize hW : w10.alloc (.cells (knA nd yword yver (.int .i64 ynode.level) (.string ynode.low) (.string ynode.high) (.bool ynode.last) (.int .i64 ynode.next) (.slice q.keys.a ynode.keys.length q.keys.c) (.slice q.vals.a ynode.vals.length q.vals.c) (.slice q.kids.a ynode.kids.length q.kids.c)) 53) = w11 at hR hDb hDn BX BY hMA BK
            replace hW := Lib.hid hW
            clear hbx hb10
            go_upto_region 21 with (refine wpList_store_row rfl 53 _ _ rfl _ _ rfl rfl 53 _ (Blk.new w10 _ _).h (by kernel_rfl) (by rfl) (by kernel_rfl) ?_; rw [World.setRow_alloc_new, hW.out])
            try simp only [Act.put]
            have hT := hR.task
            have ka0 := fun dd os => cell_regrown (BX.at 0 rfl) dd os
            have ka1 := fun dd os => cell_regrown (BX.at 1 rfl) dd os
            have ka3 := fun dd os => cell_regrown (BX.at 3 rfl) dd os
            have kb0 := fun dd os => cell_regrown (BY.at 0 rfl) dd os
            have kb1 := fun dd os => cell_regrown (BY.at 1 rfl) dd os
            have kb3 := fun dd os => cell_regrown (BY.at 3 rfl) dd os
            have kd3 := fun dd os => cell_regrown (show w11.cell? ⟨td, 3, none⟩ = some (.int .i64 (4)) from hDb.at 3 rfl) dd os
            have kd4 := fun dd os => cell_regrown (show w11.cell? ⟨td, 4, none⟩ = some (.bool ysu_) from hDb.at 4 rfl) dd os
            have kS := fun dd os => Calls.regrown_of (rdState_on t th yat_ 4 ysu_ nd yword yver _ _ _ _ _ _ _ _ (Go.Sort.grow (redrawn w11 dd) os) (hMA.below (below_regrown w11 dd os)) (hT.below (below_regrown w11 dd os)) ra (by omega) rc (by omega))
            have kU := fun dd os => Calls.regrown_of ((rdSure_any t ysu_ (Go.Sort.grow (redrawn w11 dd) os) ((hT.below (below_regrown w11 dd os)).at 4 rfl)).mono fun e w' h => ⟨h.1, h.2 ▸ Below.refl _ _⟩)
            refine wp_region_quiet_below (by kernel_rfl) (by kernel_rfl) ?_
            iterate 45 (go_big_quiet_step (first | exact kS _ _ | exact kU _ _))
            refine wpQuiet_nil ?_
            intro w12 hw'
            have hb12 := RefP.below_of_regrown hw'
            clear hw' ka0 ka1 ka3 kb0 kb1 kb3 kd3 kd4 kS kU hT hW
            replace hR := hR.under hb12
            replace hDb := hDb.below hb12
            replace hDn := hDn.keep (Keeps.of_below hb12)
            replace BK := BK.below hb12
            have hN := hR.node
            have hRb := hR.b
            have k0 := BK.at 0 rfl
            have k1 := BK.at 1 rfl
            have k2 := BK.at 2 rfl
            have d6 : w12.cell? ⟨td, 6, none⟩ = some (.int .u64 yword) := hDb.at 6 rfl
            have d7 : w12.cell? ⟨td, 7, none⟩ = some (.int .u64 yver) := hDb.at 7 rfl
            have hr1 := kn_node (q := q) (x := ynode) BK
            have hr2 := ds_node hDb
            clear hR hDb BK BX BY hMA hb12
            go_wp2_with (first
              | (refine wpList_load_midw (by rfl) 32 _ rfl w10.heap.size 3 rfl (nodeL q ynode) _ hr1 Try.underlying32 rfl (by kernel_rfl) ?_)
              | (refine wpList_load_midw (by rfl) 32 _ rfl td 8 rfl (nodeL qd ynode) _ hr2 Try.underlying32 rfl (by kernel_rfl) ?_))
            refine (show Calls _ _ _ _ _ from same10_any _ _ q qd ynode ynode w12 hN hDn).mono ?_
            rw [decide_eq_true (rfl : ynode = ynode)]
            rintro e w13 ⟨rfl, hb13⟩
            replace hRb := below_push2 hRb hb13 (Nat.le_refl _)
            clear hN hDn hr1 hr2 k0 k1 k2 d6 d7
            go_wp2_with fail
            refine (rdLives_any _).mono ?_
            rintro e w3 ⟨rfl, hb3⟩
            go_wp2_with fail
            go_ret
            exact ⟨rfl, below_push2 hRb hb3 (Nat.le_refl _)⟩
          · clear ygo
            refine (rdKnown_no t th yat_ yst_ ysu_ nd yword yver _ _ _ _ _ _ _ _ w9 hMA hR.task ra (by omega) rc (by omega) h4).mono ?_
            rintro e w10 ⟨rfl, hb10⟩
            have hbx : Below w10.heap.size w10 (w10.alloc (.cells (knA 0 0 0 (.int .i64 0) (.string ⟨#[]⟩) (.string ⟨#[]⟩) (.bool false) (.int .i64 0) (.slice none 0 0) (.slice none 0 0) (.slice none 0 0)) 53)) := (Below.refl _ w10).alloc (Nat.le_refl _) _
            have BK := Blk.new w10 (knA 0 0 0 (.int .i64 0) (.string ⟨#[]⟩) (.string ⟨#[]⟩) (.bool false) (.int .i64 0) (.slice none 0 0) (.slice none 0 0) (.slice none 0 0)) 53
            replace hR := (hR.under hb10).under hbx
            replace hDb := (hDb.below hb10).below hbx
            replace hDn := (hDn.keep (Keeps.of_below hb10)).keep (Keeps.of_below hbx)
            replace BX := (BX.below hb10).below hbx
            replace BY := (BY.below hb10).below hbx
            replace hMA := (hMA.below hb10).below hbx
            clear hW
            generalize hW : w10.alloc (.cells (knA 0 0 0 (.int .i64 0) (.string ⟨#[]⟩) (.string ⟨#[]⟩) (.bool false) (.int .i64 0) (.slice none 0 0) (.slice none 0 0) (.slice none 0 0)) 53) = w11 at hR hDb hDn BX BY hMA BK
            replace hW := Lib.hid hW
            clear hbx hb10
            go_upto_region 21 with (refine wpList_store_row rfl 53 _ _ rfl _ _ rfl rfl 53 _ (Blk.new w10 _ _).h (by kernel_rfl) (by rfl) (by kernel_rfl) ?_; rw [World.setRow_alloc_new, hW.out])
            try simp only [Act.put]
            have q4 : (yst_ == 4) = false := by simpa using h4
            have hT := hR.task
            have ka0 := fun dd os => cell_regrown (BX.at 0 rfl) dd os
            have ka1 := fun dd os => cell_regrown (BX.at 1 rfl) dd os
            have ka3 := fun dd os => cell_regrown (BX.at 3 rfl) dd os
            have kb0 := fun dd os => cell_regrown (BY.at 0 rfl) dd os
            have kb1 := fun dd os => cell_regrown (BY.at 1 rfl) dd os
            have kb3 := fun dd os => cell_regrown (BY.at 3 rfl) dd os
            have kd3 := fun dd os => cell_regrown (show w11.cell? ⟨td, 3, none⟩ = some (.int .i64 (yst_)) from hDb.at 3 rfl) dd os
            have kd4 := fun dd os => cell_regrown (show w11.cell? ⟨td, 4, none⟩ = some (.bool ysu_) from hDb.at 4 rfl) dd os
            have kS := fun dd os => Calls.regrown_of (rdState_on t th yat_ yst_ ysu_ nd yword yver _ _ _ _ _ _ _ _ (Go.Sort.grow (redrawn w11 dd) os) (hMA.below (below_regrown w11 dd os)) (hT.below (below_regrown w11 dd os)) ra (by omega) rc (by omega))
            have kU := fun dd os => Calls.regrown_of ((rdSure_any t ysu_ (Go.Sort.grow (redrawn w11 dd) os) ((hT.below (below_regrown w11 dd os)).at 4 rfl)).mono fun e w' h => ⟨h.1, h.2 ▸ Below.refl _ _⟩)
            refine wp_region_quiet_below (by kernel_rfl) (by kernel_rfl) ?_
            iterate 45 (go_big_quiet_step (first | exact kS _ _ | exact kU _ _))
            refine wpQuiet_nil ?_
            intro w12 hw'
            have hb12 := RefP.below_of_regrown hw'
            clear hw' ka0 ka1 ka3 kb0 kb1 kb3 kd3 kd4 kS kU hT hW
            clear q4 h4 hx
            replace hR := hR.under hb12
            have hRb := hR.b
            clear hR hDb hDn BX hb12 hMA BY
            go_wp2_with fail
            refine (rdLives_any _).mono ?_
            rintro e w3 ⟨rfl, hb3⟩
            go_wp2_with fail
            go_ret
            exact ⟨rfl, below_push2 hRb hb3 (Nat.le_refl _)⟩
    · have hN : NoneAt w4 (some ⟨t, 0, none⟩) := fun W hW => by
        have hq := hR0.under hW
        obtain ⟨bs, hMA⟩ := hq.mem.at_
        exact none_out t th nd W hMA hq.task ith ind (by rw [hq.sh.1, hq.sh.2.1]; exact hrange)
      have hBB := hR0.b
      clear hR0 H'
      have hor : th < 0 ∨ (0 ≤ th ∧ 1 < th) ∨ (0 ≤ th ∧ th ≤ 1 ∧ nd < 0) ∨ (0 ≤ th ∧ th ≤ 1 ∧ 0 ≤ nd ∧ 4 < nd) := by omega
      clear hrange ith ind
      rcases hor with hh | hh | hh | hh
      all_goals
        try (obtain ⟨hh1, hh⟩ := hh)
        try (obtain ⟨hh2, hh⟩ := hh)
        try (obtain ⟨hh3, hh⟩ := hh)
        go_wp2_with fail
        refine (nNext_by _ _ hN).mono ?_
        rintro e w5 ⟨rfl, hb5⟩
        have hbx : Below w5.heap.size w5 (w5.alloc (.cells (accY 0 0 0 0) 44)) := (Below.refl _ w5).alloc (Nat.le_refl _) _
        replace hBB := below_push2 (below_push2 hBB hb5 (Nat.le_refl _)) hbx (Nat.le_refl _)
        replace hN := (hN.below hb5).below hbx
        generalize hW : w5.alloc (.cells (accY 0 0 0 0) 44) = w6 at hBB hN
        replace hW := Lib.hid hW
        clear hbx hb5
        go_wp2_with (refine wpList_store_row rfl 44 _ _ rfl _ _ rfl rfl 44 _ (Blk.new w5 _ _).h (by kernel_rfl) (by rfl) (by kernel_rfl) ?_; rw [World.setRow_alloc_new, hW.out])
        refine (nKnown_by _ _ hN).mono ?_
        rintro e w7 ⟨rfl, hb7⟩
        have hbx : Below w7.heap.size w7 (w7.alloc (.cells (knA 0 0 0 (.int .i64 0) (.string ⟨#[]⟩) (.string ⟨#[]⟩) (.bool false) (.int .i64 0) (.slice none 0 0) (.slice none 0 0) (.slice none 0 0)) 53)) := (Below.refl _ w7).alloc (Nat.le_refl _) _
        replace hBB := below_push2 (below_push2 hBB hb7 (Nat.le_refl _)) hbx (Nat.le_refl _)
        replace hN := (hN.below hb7).below hbx
        clear hW
        generalize hW : w7.alloc (.cells (knA 0 0 0 (.int .i64 0) (.string ⟨#[]⟩) (.string ⟨#[]⟩) (.bool false) (.int .i64 0) (.slice none 0 0) (.slice none 0 0) (.slice none 0 0)) 53) = w8 at hBB hN
        replace hW := Lib.hid hW
        clear hbx hb7
        go_wp2_with (refine wpList_store_row rfl 53 _ _ rfl _ _ rfl rfl 53 _ (Blk.new w7 _ _).h (by kernel_rfl) (by rfl) (by kernel_rfl) ?_; rw [World.setRow_alloc_new, hW.out])
        refine (nState_by _ _ hN).mono ?_
        rintro e w9 ⟨rfl, hb9⟩
        replace hBB := below_push2 hBB hb9 (Nat.le_refl _)
        clear hN hW
        go_wp2_with fail
        refine (rdLives_any _).mono ?_
        rintro e w3 ⟨rfl, hb3⟩
        go_wp2_with fail
        go_ret
        exact ⟨rfl, below_push2 hBB hb3 (Nat.le_refl _)⟩
end Go.Proofs.Ytgdeiaholkmfeaa.readGoes
