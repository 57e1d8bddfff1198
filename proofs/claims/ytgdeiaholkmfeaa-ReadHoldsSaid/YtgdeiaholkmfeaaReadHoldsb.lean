/-
  ReadHolds: what is got stood in its cell at the moment of which it is sure, and its hazard names it then, whatever else is done, but to this hazard. For every two lists of accesses; no condition.
-/
import Derived.Lib.QuietBelow
import Derived.BigQuiet
import Derived.Test.YtgdeiaholkmfeaaReadHoldsPack5

namespace Go.Proofs.Ytgdeiaholkmfeaa.readHolds
open Go.ChangeShapes Go.WideShapes Go.ChangeAt Go.RowKit RefP CellP MemP Dp
set_option linter.unusedVariables false
set_option linter.unusedSimpArgs false
set_option maxRecDepth 100000 in
set_option maxHeartbeats 6400000 in
theorem walk (a : Option Addr) (c : Nat) (xs : List AccV) (a' : Option Addr) (c' : Nat) (ys : List AccV) (w : World) (H : RowRep accT w [] a xs) (H' : RowRep accT w [] a' ys) (hm : xs.length ≤ 9223372036854775807) (hm' : ys.length ≤ 9223372036854775807) (sx : ∀ x ∈ xs, SmB x.block) (sy : ∀ x ∈ ys, SmB x.block) :
    Calls Try.prog 4 #[.slice a xs.length c, .slice a' ys.length c'] w fun e w' => e = .returned (.bool true) ∧ Below w.heap.size w w' := by
  go_enter Try.func4, Try.ntmps4
  go_wp2_with fail
  refine (light_any [] a c xs w H hm).mono ?_
  rintro e w1 ⟨rfl, hb1⟩
  cases hL : lightL xs
  · go_wp2_with fail
    refine (rdLives_any _).mono ?_
    rintro e w3 ⟨rfl, hb3⟩
    go_wp2_with fail
    go_ret
    exact ⟨rfl, below_push2 hb1 hb3 (Nat.le_refl _)⟩
  go_wp2_with fail
  refine (light_any [] a' c' ys w1 (H'.keep (Keeps.of_below hb1)) hm').mono ?_
  rintro e w2 ⟨rfl, hb2⟩
  have hB2 := below_push2 hb1 hb2 (Nat.le_refl _)
  clear hb1 hb2
  cases hL' : lightL ys
  · go_wp2_with fail
    refine (rdLives_any _).mono ?_
    rintro e w3 ⟨rfl, hb3⟩
    go_wp2_with fail
    go_ret
    exact ⟨rfl, below_push2 hB2 hb3 (Nat.le_refl _)⟩
  have fx := few_all hL sx
  have fy := few_all hL' sy
  have lx := light_len hL
  have ly := light_len hL'
  clear hL hL' sx sy hm hm'
  go_wp2_with fail
  refine (mnew_yes 5 2 0 _ (by omega) (by omega) (by omega) (by omega) (by omega) (by omega)).mono ?_
  rintro e w3 ⟨o, oc, g, gb, gr, rfl, hM, hb3, ho, hoc, hg, hgb, hgr⟩
  have hs2 := hB2.size
  have hR0 : MStep w w3 ⟨o, oc, g, gb, gr⟩ (newV 5 2 0) 0 := ⟨below_push2 hB2 hb3 (Nat.le_refl _), new_is hM, ⟨rfl, rfl, by simp [newV, freshL]⟩, fresh_vb _ _ _, by simp only [MemId.own, List.mem_cons, List.not_mem_nil, or_false, forall_eq_or_imp, forall_eq]; omega⟩
  obtain ⟨m, hm⟩ : ∃ m : MemId, m = ⟨o, oc, g, gb, gr⟩ := ⟨_, rfl⟩
  have ho' : o = m.o := by rw [hm]
  rw [← hm] at hR0
  clear hm
  subst ho'
  generalize newV 5 2 0 = M0 at hR0
  clear hM hb3 ho hoc hg hgb hgr hs2 hB2
  go_wp2_with fail
  go_loopw [35] (fun i wr => ∃ (k : Nat) (M : MemV), k ≤ xs.length ∧ i = .int .i64 k ∧ MStep w wr m M k) (fun i _ => xs.length - (intOf i).toNat)
  case atStart => exact ⟨0, M0, Nat.zero_le _, rfl, hR0⟩
  case round =>
    clear hR0
    obtain ⟨k, M, hk, rfl, hR⟩ := hrel
    by_cases hlt : k < xs.length
    · have hlt' : (k : Int) < (xs.length : Int) := by omega
      obtain ⟨b, off, qa, hxa, hbl, hcs, hok⟩ := acc_cell (H.keep (Keeps.of_below hR.b)) k hlt
      obtain rfl := hxa
      have hfa := fx _ (List.getElem_mem hlt)
      generalize xs[k] = ac at hcs hok hfa
      have BX := Blk.new wr (acc26 qa ac).toArray 44
      have hbx : Below wr.heap.size wr (wr.alloc (.cells (acc26 qa ac).toArray 44)) := (Below.refl _ wr).alloc (Nat.le_refl _) _
      have hok1 := hok.keep (Keeps.of_below hbx)
      have hR1 := hR.under hbx
      have hlw := hR.mem.lt
      go_wp2_with (first
        | (refine wpList_load_mid rfl 44 _ rfl b (off + k * 26) rfl (acc26 qa ac) _ hcs Try.underlying44 rfl (by kernel_rfl) ?_)
        | (refine wpList_load_row rfl 44 _ rfl wr.heap.size rfl 44 _ (0, 0) _ BX.h Try.underlying44 rfl (by kernel_rfl) ?_)
        | (refine wpList_store_row rfl 44 _ _ rfl _ _ rfl rfl 44 _ (Blk.new wr _ _).h (by kernel_rfl) (by rfl) (by kernel_rfl) ?_; rw [World.setRow_alloc_new]))
      refine (show Calls _ _ _ _ _ from do_any ac qa _ hR1.mem (fun b hb => by have := hlw b hb; simp; omega) hok1 hfa).mono ?_
      intro e w5 hD
      obtain ⟨⟨qr, rfl, _, _⟩, _, _⟩ := id hD
      have hR2 := hR1.did (by omega) hD
      clear hR hR1 hD hok hok1 hcs BX hbx
      go_wp2_with fail
      go_roundw
      case rel => exact ⟨k + 1, _, by omega, by go_num, hR2⟩
      case measure => simp [intOf]; omega
    obtain rfl : k = xs.length := by omega
    clear hlt fx H
    go_wp2_with fail
    refine (rdNew_any _ _ _ _).mono ?_
    rintro e w4 ⟨rfl, hw4⟩
    have hR0 := RdIs.start hR 0 0
    have hI0 : RI xs.length M.L rs0 0 0 := RI.start hR.sh.2.2 hR.vb 0
    obtain ⟨t, ht⟩ : ∃ t, t = wr.heap.size := ⟨_, rfl⟩
    have hw4' : w4 = wr.alloc (.cells (rdX (some ⟨m.o, 0, none⟩) 0 0 rs0 nilH.node) 70) := hw4
    rw [← hw4', ← ht] at hR0
    rw [← ht]
    clear hw4 hw4' hR ht
    go_wp2_with fail
    go_loopw [45, 9] (fun i su wr => ∃ (i' : Nat) (M : MemV) (x : RS) (q : NodeH) (n : Nat) (sure : Int), i' ≤ 4 ∧ i = .int .i64 i' ∧ su = .int .u64 sure ∧ RdIs w wr m M t 0 0 x q ∧ RI n M.L x sure i' ∧ n ≤ 60 + 100 * i') (fun i _ _ => 4 - (intOf i).toNat)
    case atStart => exact ⟨0, M, rs0, nilH.node, xs.length, 0, by omega, rfl, rfl, hR0, hI0, by omega⟩
    case round =>
      clear hR0 hI0
      obtain ⟨i, M, x, q, n, sure, hi, rfl, rfl, hR, hI, hn⟩ := hrel
      by_cases hlt : i < 4
      · have hlt' : (i : Int) < 4 := by omega
        by_cases hx : x.st = 0
        · go_wp2_with fail
          refine (rd_next hR (by omega) (by omega) (by omega) (by omega) hx).mono ?_
          rintro e w5 ⟨rfl, hb5⟩
          have hS := hI.step (by omega) hx
          have hacc : ∀ W, AccOk W [] nilH (rsAcc 5 2 0 0 x) := fun W => rs_ok (by omega) (by omega) hR.word
          have hfew : Few (rsAcc 5 2 0 0 x).block := rs_few
          have hrz := fun h3 => rs_rep (M := M) (A := 5) (T := 2) (th := 0) (cell := 0) (x := x) h3
          obtain ⟨ac, hac⟩ : ∃ ac, ac = rsAcc 5 2 0 0 x := ⟨_, rfl⟩
          rw [← hac] at hS hacc hfew hrz ⊢
          clear hac
          have hbx : Below w5.heap.size w5 (w5.alloc (.cells (acc26 nilH ac).toArray 44)) := (Below.refl _ w5).alloc (Nat.le_refl _) _
          have BX := Blk.new w5 (acc26 nilH ac).toArray 44
          replace hR := (hR.under hb5).under hbx
          generalize hW : w5.alloc (.cells (acc26 nilH ac).toArray 44) = w6 at hR BX
          replace hW := Lib.hid hW
          clear hbx hb5
          go_wp2_with (first
            | (refine wpList_store_row rfl 44 _ _ rfl _ _ rfl rfl 44 _ (Blk.new w5 _ _).h (by kernel_rfl) (by rfl) (by kernel_rfl) ?_; rw [World.setRow_alloc_new, hW.out])
            | (refine wpList_load_row rfl 44 _ rfl w5.heap.size rfl 44 _ (0, 0) _ BX.h Try.underlying44 rfl (by kernel_rfl) ?_))
          refine (show Calls _ _ _ _ _ from do_any ac nilH _ hR.mem hR.lt (hacc _) hfew).mono ?_
          intro e w7 hD
          have hlw := hR.lt
          obtain ⟨⟨qr, rfl, hrep, hz⟩, _, _⟩ := id hD
          replace hR := hR.did hD
          replace hrep := hrep.more (S' := t :: m.own) (fun b hb => .inl (by simpa using hlw b hb))
          clear hD BX hW hlw
          go_wp2_with fail
          refine (rd_tell hR (by omega) (by omega) (by omega) (by omega) hx hrep (fun h3 => ⟨hz (hrz h3).1, (hrz h3).2⟩)).mono ?_
          intro e w8 hT
          obtain ⟨rfl, q', hR4⟩ := hT
          clear hR hrep hz hrz hx hacc hfew
          generalize rsTell x (repV M ac) = x' at hS hR4
          generalize doV M ac = M' at hS hR4
          obtain ⟨hS1, hS2⟩ := hS
          go_wp2_with fail
          refine (rdSure_any t x'.su w8 (hR4.task.at 4 rfl)).mono ?_
          rintro e w9 ⟨rfl, rfl⟩
          clear hI
          cases hsu : x'.su
          · rw [hsu] at hS2
            simp only [if_neg (show ¬ (false = true) by decide)] at hS2
            clear hS1
            go_wp2_with fail
            go_loopw [84] (fun j wr => ∃ (k : Nat) (M : MemV) (n' : Nat), k ≤ ys.length ∧ j = .int .i64 k ∧ RdIs w wr m M t 0 0 x' q' ∧ RI n' M.L x' sure (i + 1) ∧ n' ≤ 61 + 100 * i + k) (fun j _ => ys.length - (intOf j).toNat)
            case atStart => exact ⟨0, M', n + 1, Nat.zero_le _, rfl, hR4, hS2, by omega⟩
            case round =>
              clear hR4 hS2
              obtain ⟨k, M1, n1, hk, rfl, hR, hI, hn1⟩ := hrel
              by_cases hlt : k < ys.length
              · have hlt' : (k : Int) < (ys.length : Int) := by omega
                obtain ⟨b, off, qa, hxa, hbl, hcs, hok⟩ := acc_cell (H'.keep (Keeps.of_below hR.b)) k hlt
                obtain rfl := hxa
                have hfa := fy _ (List.getElem_mem hlt)
                generalize ys[k] = ac at hcs hok hfa
                have BX := Blk.new wr (acc26 qa ac).toArray 44
                have hbx : Below wr.heap.size wr (wr.alloc (.cells (acc26 qa ac).toArray 44)) := (Below.refl _ wr).alloc (Nat.le_refl _) _
                have hok1 := hok.keep (Keeps.of_below hbx)
                have hR1 := hR.under hbx
                have hlw := hR.mem.lt
                go_upto_region 26 with (first
                  | (refine wpList_load_mid rfl 44 _ rfl b (off + k * 26) rfl (acc26 qa ac) _ hcs Try.underlying44 rfl (by kernel_rfl) ?_)
                  | (refine wpList_store_row rfl 44 _ _ rfl _ _ rfl rfl 44 _ (Blk.new wr _ _).h (by kernel_rfl) (by rfl) (by kernel_rfl) ?_; rw [World.setRow_alloc_new]))
                try simp only [Act.put]
                generalize wr.alloc (.cells (acc26 qa ac).toArray 44) = w5 at BX hbx hok1 hR1 ⊢
                obtain ⟨bs1, hMA1⟩ := hR1.mem.at_
                rw [hR1.sh.1, hR1.sh.2.1] at hMA1
                have k0 := fun d os => cell_regrown (BX.at 0 rfl) d os
                have k1 := fun d os => cell_regrown (BX.at 1 rfl) d os
                have kh := fun d os => Calls.regrown_of (haz_any 0 1 (Go.Sort.grow (redrawn w5 d) os) (hMA1.below (below_regrown w5 d os)))
                simp only [at_haz] at kh
                clear hMA1 hcs hok hbx hR
                by_cases hc : k % 4 = i
                · have q0 : (k : Int).tmod 4 = (k : Int) % 4 := Int.tmod_eq_emod_of_nonneg (by omega)
                  have q1 : ((k : Int).tmod 4 == (i : Int)) = true := by rw [q0]; simp; omega
                  have q2 : ((k : Int) % 4 == (i : Int)) = true := by simp; omega
                  have q3 : decide ((k : Int) % 4 = (i : Int)) = true := by simp; omega
                  by_cases h2 : ac.kind = 2
                  · have g2 : (ac.kind != 2) = false := by simpa using h2
                    by_cases ha : ac.at_ = 17
                    · have ga : (ac.at_ != 17) = false := by simpa using ha
                      refine wp_region_quiet_below (by kernel_rfl) (by kernel_rfl) ?_
                      iterate 21 (go_big_quiet_step (exact kh _ _))
                      refine wpQuiet_nil ?_
                      intro w6 hw'
                      have hb6 := RefP.below_of_regrown hw'
                      clear hw' k0 k1 kh
                      go_wp2_with fail
                      go_roundw
                      case rel => exact ⟨k + 1, M1, n1, by omega, by go_num, hR1.under hb6, hI, by omega⟩
                      case measure => simp [intOf]; omega
                    · have ga : (ac.at_ != 17) = true := by simpa using ha
                      have hcond : (ac.kind ≠ 2 ∧ ac.kind ≠ 3) ∨ ac.at_ ≠ 17 := .inr ha
                      refine wp_region_quiet_below (by kernel_rfl) (by kernel_rfl) ?_
                      iterate 21 (go_big_quiet_step (exact kh _ _))
                      refine wpQuiet_nil ?_
                      intro w6 hw'
                      have hb6 := RefP.below_of_regrown hw'
                      clear hw' k0 k1 kh
                      replace hR1 := hR1.under hb6
                      replace BX := BX.below hb6
                      replace hok1 := hok1.keep (Keeps.of_below hb6)
                      go_wp2_with (refine wpList_load_row rfl 44 _ rfl wr.heap.size rfl 44 _ (0, 0) _ BX.h Try.underlying44 rfl (by kernel_rfl) ?_)
                      refine (show Calls _ _ _ _ _ from do_any ac qa _ hR1.mem hR1.lt hok1 hfa).mono ?_
                      intro e w7 hD
                      obtain ⟨⟨qr, rfl, _, _⟩, _, _⟩ := id hD
                      have hR2 := hR1.did hD
                      have hI2 := hI.other (by omega) ac hcond
                      clear hR1 hD hok1 BX hb6
                      go_wp2_with fail
                      go_roundw
                      case rel => exact ⟨k + 1, _, n1 + 1, by omega, by go_num, hR2, hI2, by omega⟩
                      case measure => simp [intOf]; omega
                  · have g2 : (ac.kind != 2) = true := by simpa using h2
                    by_cases h3 : ac.kind = 3
                    · have g3 : (ac.kind != 3) = false := by simpa using h3
                      by_cases ha : ac.at_ = 17
                      · have ga : (ac.at_ != 17) = false := by simpa using ha
                        refine wp_region_quiet_below (by kernel_rfl) (by kernel_rfl) ?_
                        iterate 21 (go_big_quiet_step (exact kh _ _))
                        refine wpQuiet_nil ?_
                        intro w6 hw'
                        have hb6 := RefP.below_of_regrown hw'
                        clear hw' k0 k1 kh
                        go_wp2_with fail
                        go_roundw
                        case rel => exact ⟨k + 1, M1, n1, by omega, by go_num, hR1.under hb6, hI, by omega⟩
                        case measure => simp [intOf]; omega
                      · have ga : (ac.at_ != 17) = true := by simpa using ha
                        have hcond : (ac.kind ≠ 2 ∧ ac.kind ≠ 3) ∨ ac.at_ ≠ 17 := .inr ha
                        refine wp_region_quiet_below (by kernel_rfl) (by kernel_rfl) ?_
                        iterate 21 (go_big_quiet_step (exact kh _ _))
                        refine wpQuiet_nil ?_
                        intro w6 hw'
                        have hb6 := RefP.below_of_regrown hw'
                        clear hw' k0 k1 kh
                        replace hR1 := hR1.under hb6
                        replace BX := BX.below hb6
                        replace hok1 := hok1.keep (Keeps.of_below hb6)
                        go_wp2_with (refine wpList_load_row rfl 44 _ rfl wr.heap.size rfl 44 _ (0, 0) _ BX.h Try.underlying44 rfl (by kernel_rfl) ?_)
                        refine (show Calls _ _ _ _ _ from do_any ac qa _ hR1.mem hR1.lt hok1 hfa).mono ?_
                        intro e w7 hD
                        obtain ⟨⟨qr, rfl, _, _⟩, _, _⟩ := id hD
                        have hR2 := hR1.did hD
                        have hI2 := hI.other (by omega) ac hcond
                        clear hR1 hD hok1 BX hb6
                        go_wp2_with fail
                        go_roundw
                        case rel => exact ⟨k + 1, _, n1 + 1, by omega, by go_num, hR2, hI2, by omega⟩
                        case measure => simp [intOf]; omega
                    · have g3 : (ac.kind != 3) = true := by simpa using h3
                      have hcond : (ac.kind ≠ 2 ∧ ac.kind ≠ 3) ∨ ac.at_ ≠ 17 := .inl ⟨h2, h3⟩
                      refine wp_region_quiet_below (by kernel_rfl) (by kernel_rfl) ?_
                      iterate 21 (go_big_quiet_step (exact kh _ _))
                      refine wpQuiet_nil ?_
                      intro w6 hw'
                      have hb6 := RefP.below_of_regrown hw'
                      clear hw' k0 k1 kh
                      replace hR1 := hR1.under hb6
                      replace BX := BX.below hb6
                      replace hok1 := hok1.keep (Keeps.of_below hb6)
                      go_wp2_with (refine wpList_load_row rfl 44 _ rfl wr.heap.size rfl 44 _ (0, 0) _ BX.h Try.underlying44 rfl (by kernel_rfl) ?_)
                      refine (show Calls _ _ _ _ _ from do_any ac qa _ hR1.mem hR1.lt hok1 hfa).mono ?_
                      intro e w7 hD
                      obtain ⟨⟨qr, rfl, _, _⟩, _, _⟩ := id hD
                      have hR2 := hR1.did hD
                      have hI2 := hI.other (by omega) ac hcond
                      clear hR1 hD hok1 BX hb6
                      go_wp2_with fail
                      go_roundw
                      case rel => exact ⟨k + 1, _, n1 + 1, by omega, by go_num, hR2, hI2, by omega⟩
                      case measure => simp [intOf]; omega
                · have q0 : (k : Int).tmod 4 = (k : Int) % 4 := Int.tmod_eq_emod_of_nonneg (by omega)
                  have q1 : ((k : Int).tmod 4 == (i : Int)) = false := by rw [q0]; simp; omega
                  have q2 : ((k : Int) % 4 == (i : Int)) = false := by simp; omega
                  have q3 : decide ((k : Int) % 4 = (i : Int)) = false := by simp; omega
                  refine wp_region_quiet_below (by kernel_rfl) (by kernel_rfl) ?_
                  iterate 21 (go_big_quiet_step (exact kh _ _))
                  refine wpQuiet_nil ?_
                  intro w6 hw'
                  have hb6 := RefP.below_of_regrown hw'
                  clear hw' k0 k1 kh
                  go_wp2_with fail
                  go_roundw
                  case rel => exact ⟨k + 1, M1, n1, by omega, by go_num, hR1.under hb6, hI, by omega⟩
                  case measure => simp [intOf]; omega
              obtain rfl : k = ys.length := by omega
              go_wp2_with fail
              go_roundw
              case rel => exact ⟨i + 1, M1, x', q', n1, sure, by omega, by go_num, rfl, hR, hI, by omega⟩
              case measure => simp [intOf]; omega
          · rw [hsu] at hS2
            simp only [if_true] at hS2
            have hS3 := hS1 hsu
            clear hS1
            obtain ⟨bs, hMA⟩ := hR4.mem.at_
            have sA := hR4.sh.1
            have sT := hR4.sh.2.1
            rw [sA, sT] at hMA
            go_wp2_with fail
            refine (node_any 0 _ hMA (by omega) (by omega)).mono ?_
            rw [at_node]
            rintro e w10 ⟨rfl, hb10⟩
            replace hMA := hMA.below hb10
            replace hR4 := hR4.under hb10
            go_wp2_with fail
            refine (mload_any _ _ hMA).mono ?_
            rintro e w11 ⟨rfl, hb11⟩
            replace hMA := hMA.below hb11
            replace hR4 := hR4.under hb11
            go_wp2_with fail
            refine (haz_any 0 1 _ hMA).mono ?_
            rw [at_haz]
            rintro e w12 ⟨rfl, hb12⟩
            replace hMA := hMA.below hb12
            replace hR4 := hR4.under hb12
            go_wp2_with fail
            refine (mload_any _ _ hMA).mono ?_
            rw [← hS3]
            rintro e w13 ⟨rfl, hb13⟩
            replace hR4 := hR4.under hb13
            clear hb10 hb11 hb12 hb13 hMA sA sT
            generalize loadW M'.L 0 = sure' at hS2
            clear hS3
            go_wp2_with fail
            go_loopw [84] (fun j wr => ∃ (k : Nat) (M : MemV) (n' : Nat), k ≤ ys.length ∧ j = .int .i64 k ∧ RdIs w wr m M t 0 0 x' q' ∧ RI n' M.L x' sure' (i + 1) ∧ n' ≤ 61 + 100 * i + k) (fun j _ => ys.length - (intOf j).toNat)
            case atStart => exact ⟨0, M', n + 1, Nat.zero_le _, rfl, hR4, hS2, by omega⟩
            case round =>
              clear hR4 hS2
              obtain ⟨k, M1, n1, hk, rfl, hR, hI, hn1⟩ := hrel
              by_cases hlt : k < ys.length
              · have hlt' : (k : Int) < (ys.length : Int) := by omega
                obtain ⟨b, off, qa, hxa, hbl, hcs, hok⟩ := acc_cell (H'.keep (Keeps.of_below hR.b)) k hlt
                obtain rfl := hxa
                have hfa := fy _ (List.getElem_mem hlt)
                generalize ys[k] = ac at hcs hok hfa
                have BX := Blk.new wr (acc26 qa ac).toArray 44
                have hbx : Below wr.heap.size wr (wr.alloc (.cells (acc26 qa ac).toArray 44)) := (Below.refl _ wr).alloc (Nat.le_refl _) _
                have hok1 := hok.keep (Keeps.of_below hbx)
                have hR1 := hR.under hbx
                have hlw := hR.mem.lt
                go_upto_region 26 with (first
                  | (refine wpList_load_mid rfl 44 _ rfl b (off + k * 26) rfl (acc26 qa ac) _ hcs Try.underlying44 rfl (by kernel_rfl) ?_)
                  | (refine wpList_store_row rfl 44 _ _ rfl _ _ rfl rfl 44 _ (Blk.new wr _ _).h (by kernel_rfl) (by rfl) (by kernel_rfl) ?_; rw [World.setRow_alloc_new]))
                try simp only [Act.put]
                generalize wr.alloc (.cells (acc26 qa ac).toArray 44) = w5 at BX hbx hok1 hR1 ⊢
                obtain ⟨bs1, hMA1⟩ := hR1.mem.at_
                rw [hR1.sh.1, hR1.sh.2.1] at hMA1
                have k0 := fun d os => cell_regrown (BX.at 0 rfl) d os
                have k1 := fun d os => cell_regrown (BX.at 1 rfl) d os
                have kh := fun d os => Calls.regrown_of (haz_any 0 1 (Go.Sort.grow (redrawn w5 d) os) (hMA1.below (below_regrown w5 d os)))
                simp only [at_haz] at kh
                clear hMA1 hcs hok hbx hR
                by_cases hc : k % 4 = i
                · have q0 : (k : Int).tmod 4 = (k : Int) % 4 := Int.tmod_eq_emod_of_nonneg (by omega)
                  have q1 : ((k : Int).tmod 4 == (i : Int)) = true := by rw [q0]; simp; omega
                  have q2 : ((k : Int) % 4 == (i : Int)) = true := by simp; omega
                  have q3 : decide ((k : Int) % 4 = (i : Int)) = true := by simp; omega
                  by_cases h2 : ac.kind = 2
                  · have g2 : (ac.kind != 2) = false := by simpa using h2
                    by_cases ha : ac.at_ = 17
                    · have ga : (ac.at_ != 17) = false := by simpa using ha
                      refine wp_region_quiet_below (by kernel_rfl) (by kernel_rfl) ?_
                      iterate 21 (go_big_quiet_step (exact kh _ _))
                      refine wpQuiet_nil ?_
                      intro w6 hw'
                      have hb6 := RefP.below_of_regrown hw'
                      clear hw' k0 k1 kh
                      go_wp2_with fail
                      go_roundw
                      case rel => exact ⟨k + 1, M1, n1, by omega, by go_num, hR1.under hb6, hI, by omega⟩
                      case measure => simp [intOf]; omega
                    · have ga : (ac.at_ != 17) = true := by simpa using ha
                      have hcond : (ac.kind ≠ 2 ∧ ac.kind ≠ 3) ∨ ac.at_ ≠ 17 := .inr ha
                      refine wp_region_quiet_below (by kernel_rfl) (by kernel_rfl) ?_
                      iterate 21 (go_big_quiet_step (exact kh _ _))
                      refine wpQuiet_nil ?_
                      intro w6 hw'
                      have hb6 := RefP.below_of_regrown hw'
                      clear hw' k0 k1 kh
                      replace hR1 := hR1.under hb6
                      replace BX := BX.below hb6
                      replace hok1 := hok1.keep (Keeps.of_below hb6)
                      go_wp2_with (refine wpList_load_row rfl 44 _ rfl wr.heap.size rfl 44 _ (0, 0) _ BX.h Try.underlying44 rfl (by kernel_rfl) ?_)
                      refine (show Calls _ _ _ _ _ from do_any ac qa _ hR1.mem hR1.lt hok1 hfa).mono ?_
                      intro e w7 hD
                      obtain ⟨⟨qr, rfl, _, _⟩, _, _⟩ := id hD
                      have hR2 := hR1.did hD
                      have hI2 := hI.other (by omega) ac hcond
                      clear hR1 hD hok1 BX hb6
                      go_wp2_with fail
                      go_roundw
                      case rel => exact ⟨k + 1, _, n1 + 1, by omega, by go_num, hR2, hI2, by omega⟩
                      case measure => simp [intOf]; omega
                  · have g2 : (ac.kind != 2) = true := by simpa using h2
                    by_cases h3 : ac.kind = 3
                    · have g3 : (ac.kind != 3) = false := by simpa using h3
                      by_cases ha : ac.at_ = 17
                      · have ga : (ac.at_ != 17) = false := by simpa using ha
                        refine wp_region_quiet_below (by kernel_rfl) (by kernel_rfl) ?_
                        iterate 21 (go_big_quiet_step (exact kh _ _))
                        refine wpQuiet_nil ?_
                        intro w6 hw'
                        have hb6 := RefP.below_of_regrown hw'
                        clear hw' k0 k1 kh
                        go_wp2_with fail
                        go_roundw
                        case rel => exact ⟨k + 1, M1, n1, by omega, by go_num, hR1.under hb6, hI, by omega⟩
                        case measure => simp [intOf]; omega
                      · have ga : (ac.at_ != 17) = true := by simpa using ha
                        have hcond : (ac.kind ≠ 2 ∧ ac.kind ≠ 3) ∨ ac.at_ ≠ 17 := .inr ha
                        refine wp_region_quiet_below (by kernel_rfl) (by kernel_rfl) ?_
                        iterate 21 (go_big_quiet_step (exact kh _ _))
                        refine wpQuiet_nil ?_
                        intro w6 hw'
                        have hb6 := RefP.below_of_regrown hw'
                        clear hw' k0 k1 kh
                        replace hR1 := hR1.under hb6
                        replace BX := BX.below hb6
                        replace hok1 := hok1.keep (Keeps.of_below hb6)
                        go_wp2_with (refine wpList_load_row rfl 44 _ rfl wr.heap.size rfl 44 _ (0, 0) _ BX.h Try.underlying44 rfl (by kernel_rfl) ?_)
                        refine (show Calls _ _ _ _ _ from do_any ac qa _ hR1.mem hR1.lt hok1 hfa).mono ?_
                        intro e w7 hD
                        obtain ⟨⟨qr, rfl, _, _⟩, _, _⟩ := id hD
                        have hR2 := hR1.did hD
                        have hI2 := hI.other (by omega) ac hcond
                        clear hR1 hD hok1 BX hb6
                        go_wp2_with fail
                        go_roundw
                        case rel => exact ⟨k + 1, _, n1 + 1, by omega, by go_num, hR2, hI2, by omega⟩
                        case measure => simp [intOf]; omega
                    · have g3 : (ac.kind != 3) = true := by simpa using h3
                      have hcond : (ac.kind ≠ 2 ∧ ac.kind ≠ 3) ∨ ac.at_ ≠ 17 := .inl ⟨h2, h3⟩
                      refine wp_region_quiet_below (by kernel_rfl) (by kernel_rfl) ?_
                      iterate 21 (go_big_quiet_step (exact kh _ _))
                      refine wpQuiet_nil ?_
                      intro w6 hw'
                      have hb6 := RefP.below_of_regrown hw'
                      clear hw' k0 k1 kh
                      replace hR1 := hR1.under hb6
                      replace BX := BX.below hb6
                      replace hok1 := hok1.keep (Keeps.of_below hb6)
                      go_wp2_with (refine wpList_load_row rfl 44 _ rfl wr.heap.size rfl 44 _ (0, 0) _ BX.h Try.underlying44 rfl (by kernel_rfl) ?_)
                      refine (show Calls _ _ _ _ _ from do_any ac qa _ hR1.mem hR1.lt hok1 hfa).mono ?_
                      intro e w7 hD
                      obtain ⟨⟨qr, rfl, _, _⟩, _, _⟩ := id hD
                      have hR2 := hR1.did hD
                      have hI2 := hI.other (by omega) ac hcond
                      clear hR1 hD hok1 BX hb6
                      go_wp2_with fail
                      go_roundw
                      case rel => exact ⟨k + 1, _, n1 + 1, by omega, by go_num, hR2, hI2, by omega⟩
                      case measure => simp [intOf]; omega
                · have q0 : (k : Int).tmod 4 = (k : Int) % 4 := Int.tmod_eq_emod_of_nonneg (by omega)
                  have q1 : ((k : Int).tmod 4 == (i : Int)) = false := by rw [q0]; simp; omega
                  have q2 : ((k : Int) % 4 == (i : Int)) = false := by simp; omega
                  have q3 : decide ((k : Int) % 4 = (i : Int)) = false := by simp; omega
                  refine wp_region_quiet_below (by kernel_rfl) (by kernel_rfl) ?_
                  iterate 21 (go_big_quiet_step (exact kh _ _))
                  refine wpQuiet_nil ?_
                  intro w6 hw'
                  have hb6 := RefP.below_of_regrown hw'
                  clear hw' k0 k1 kh
                  go_wp2_with fail
                  go_roundw
                  case rel => exact ⟨k + 1, M1, n1, by omega, by go_num, hR1.under hb6, hI, by omega⟩
                  case measure => simp [intOf]; omega
              obtain rfl : k = ys.length := by omega
              go_wp2_with fail
              go_roundw
              case rel => exact ⟨i + 1, M1, x', q', n1, sure', by omega, by go_num, rfl, hR, hI, by omega⟩
              case measure => simp [intOf]; omega
        · go_wp2_with fail
          refine (rd_over hR (by omega) (by omega) (by omega) (by omega) hx).mono ?_
          rintro e w5 ⟨rfl, hb5⟩
          have hbx : Below w5.heap.size w5 (w5.alloc (.cells (accY 0 0 0 0) 44)) := (Below.refl _ w5).alloc (Nat.le_refl _) _
          replace hR := (hR.under hb5).under hbx
          generalize hW : w5.alloc (.cells (accY 0 0 0 0) 44) = w6 at hR
          replace hW := Lib.hid hW
          clear hbx hb5
          go_wp2_with (refine wpList_store_row rfl 44 _ _ rfl _ _ rfl rfl 44 _ (Blk.new w5 _ _).h (by kernel_rfl) (by rfl) (by kernel_rfl) ?_; rw [World.setRow_alloc_new, hW.out])
          clear hW
          obtain ⟨bs1, hMA⟩ := hR.mem.at_
          have sA := hR.sh.1
          have sT := hR.sh.2.1
          have hg := hI.got
          have B := hR.task
          have hRb := hR.b
          obtain ⟨at_, st, su, word, ver, node⟩ := x
          simp only at hx hg B
          clear hR hI
          by_cases h4 : st = 4
          · subst h4
            obtain rfl := hg rfl
            refine (rdKnown_yes t 0 at_ su 0 sure ver q node _ hMA B (by omega) (by omega) (by omega) (by omega)).mono ?_
            rintro e w7 ⟨rfl, hb7⟩
            have hbx : Below w7.heap.size w7 (w7.alloc (.cells (knA 0 sure ver (.int .i64 node.level) (.string node.low) (.string node.high) (.bool node.last) (.int .i64 node.next) (.slice q.keys.a node.keys.length q.keys.c) (.slice q.vals.a node.vals.length q.vals.c) (.slice q.kids.a node.kids.length q.kids.c)) 53)) := (Below.refl _ w7).alloc (Nat.le_refl _) _
            have BK := Blk.new w7 (knA 0 sure ver (.int .i64 node.level) (.string node.low) (.string node.high) (.bool node.last) (.int .i64 node.next) (.slice q.keys.a node.keys.length q.keys.c) (.slice q.vals.a node.vals.length q.vals.c) (.slice q.kids.a node.kids.length q.kids.c)) 53
            replace hMA := (hMA.below hb7).below hbx
            replace B := (B.below hb7).below hbx
            replace hRb := below_push2 (below_push2 hRb hb7 (Nat.le_refl _)) hbx (Nat.le_refl _)
            generalize hW : w7.alloc (.cells (knA 0 sure ver (.int .i64 node.level) (.string node.low) (.string node.high) (.bool node.last) (.int .i64 node.next) (.slice q.keys.a node.keys.length q.keys.c) (.slice q.vals.a node.vals.length q.vals.c) (.slice q.kids.a node.kids.length q.kids.c)) 53) = w8 at hMA B hRb BK
            replace hW := Lib.hid hW
            have c1 := BK.at 1 rfl
            clear hbx hb7
            go_wp2_with (refine wpList_store_row rfl 53 _ _ rfl _ _ rfl rfl 53 _ (Blk.new w7 _ _).h (by kernel_rfl) (by rfl) (by kernel_rfl) ?_; rw [World.setRow_alloc_new, hW.out])
            refine (rdState_on t 0 at_ 4 su 0 sure ver _ _ _ _ _ _ _ _ _ hMA B (by omega) (by omega) (by omega) (by omega)).mono ?_
            rintro e w9 ⟨rfl, hb9⟩
            replace hRb := below_push2 hRb hb9 (Nat.le_refl _)
            clear hMA B BK c1 hW
            go_wp2_with fail
            refine (rdLives_any _).mono ?_
            rintro e w3 ⟨rfl, hb3⟩
            go_wp2_with fail
            go_ret
            exact ⟨rfl, below_push2 hRb hb3 (Nat.le_refl _)⟩
          · refine (rdKnown_no t 0 at_ st su 0 word ver _ _ _ _ _ _ _ _ _ hMA B (by omega) (by omega) (by omega) (by omega) h4).mono ?_
            rintro e w7 ⟨rfl, hb7⟩
            have hbx : Below w7.heap.size w7 (w7.alloc (.cells (knA 0 0 0 (.int .i64 0) (.string ⟨#[]⟩) (.string ⟨#[]⟩) (.bool false) (.int .i64 0) (.slice none 0 0) (.slice none 0 0) (.slice none 0 0)) 53)) := (Below.refl _ w7).alloc (Nat.le_refl _) _
            replace hMA := (hMA.below hb7).below hbx
            replace B := (B.below hb7).below hbx
            replace hRb := below_push2 (below_push2 hRb hb7 (Nat.le_refl _)) hbx (Nat.le_refl _)
            generalize hW : w7.alloc (.cells (knA 0 0 0 (.int .i64 0) (.string ⟨#[]⟩) (.string ⟨#[]⟩) (.bool false) (.int .i64 0) (.slice none 0 0) (.slice none 0 0) (.slice none 0 0)) 53) = w8 at hMA B hRb
            replace hW := Lib.hid hW
            clear hbx hb7
            go_wp2_with (refine wpList_store_row rfl 53 _ _ rfl _ _ rfl rfl 53 _ (Blk.new w7 _ _).h (by kernel_rfl) (by rfl) (by kernel_rfl) ?_; rw [World.setRow_alloc_new, hW.out])
            refine (rdState_on t 0 at_ st su 0 word ver _ _ _ _ _ _ _ _ _ hMA B (by omega) (by omega) (by omega) (by omega)).mono ?_
            rintro e w9 ⟨rfl, hb9⟩
            replace hRb := below_push2 hRb hb9 (Nat.le_refl _)
            have hz0 : (st != 0) = true := by simpa using hx
            clear hMA B hW
            go_wp2_with fail
            refine (rdLives_any _).mono ?_
            rintro e w3 ⟨rfl, hb3⟩
            go_wp2_with fail
            go_ret
            exact ⟨rfl, below_push2 hRb hb3 (Nat.le_refl _)⟩
      · obtain rfl : i = 4 := by omega
        have hx : x.st ≠ 0 := fun e => by have := (hI.at_ e).2; omega
        go_wp2_with fail
        obtain ⟨bs1, hMA⟩ := hR.mem.at_
        have sA := hR.sh.1
        have sT := hR.sh.2.1
        have hg := hI.got
        have B := hR.task
        have hRb := hR.b
        obtain ⟨at_, st, su, word, ver, node⟩ := x
        simp only at hx hg B
        clear hR hI
        by_cases h4 : st = 4
        · subst h4
          obtain rfl := hg rfl
          refine (rdKnown_yes t 0 at_ su 0 sure ver q node _ hMA B (by omega) (by omega) (by omega) (by omega)).mono ?_
          rintro e w7 ⟨rfl, hb7⟩
          have hbx : Below w7.heap.size w7 (w7.alloc (.cells (knA 0 sure ver (.int .i64 node.level) (.string node.low) (.string node.high) (.bool node.last) (.int .i64 node.next) (.slice q.keys.a node.keys.length q.keys.c) (.slice q.vals.a node.vals.length q.vals.c) (.slice q.kids.a node.kids.length q.kids.c)) 53)) := (Below.refl _ w7).alloc (Nat.le_refl _) _
          have BK := Blk.new w7 (knA 0 sure ver (.int .i64 node.level) (.string node.low) (.string node.high) (.bool node.last) (.int .i64 node.next) (.slice q.keys.a node.keys.length q.keys.c) (.slice q.vals.a node.vals.length q.vals.c) (.slice q.kids.a node.kids.length q.kids.c)) 53
          replace hMA := (hMA.below hb7).below hbx
          replace B := (B.below hb7).below hbx
          replace hRb := below_push2 (below_push2 hRb hb7 (Nat.le_refl _)) hbx (Nat.le_refl _)
          generalize hW : w7.alloc (.cells (knA 0 sure ver (.int .i64 node.level) (.string node.low) (.string node.high) (.bool node.last) (.int .i64 node.next) (.slice q.keys.a node.keys.length q.keys.c) (.slice q.vals.a node.vals.length q.vals.c) (.slice q.kids.a node.kids.length q.kids.c)) 53) = w8 at hMA B hRb BK
          replace hW := Lib.hid hW
          have c1 := BK.at 1 rfl
          clear hbx hb7
          go_wp2_with (refine wpList_store_row rfl 53 _ _ rfl _ _ rfl rfl 53 _ (Blk.new w7 _ _).h (by kernel_rfl) (by rfl) (by kernel_rfl) ?_; rw [World.setRow_alloc_new, hW.out])
          refine (rdState_on t 0 at_ 4 su 0 sure ver _ _ _ _ _ _ _ _ _ hMA B (by omega) (by omega) (by omega) (by omega)).mono ?_
          rintro e w9 ⟨rfl, hb9⟩
          replace hRb := below_push2 hRb hb9 (Nat.le_refl _)
          clear hMA B BK c1 hW
          go_wp2_with fail
          refine (rdLives_any _).mono ?_
          rintro e w3 ⟨rfl, hb3⟩
          go_wp2_with fail
          go_ret
          exact ⟨rfl, below_push2 hRb hb3 (Nat.le_refl _)⟩
        · refine (rdKnown_no t 0 at_ st su 0 word ver _ _ _ _ _ _ _ _ _ hMA B (by omega) (by omega) (by omega) (by omega) h4).mono ?_
          rintro e w7 ⟨rfl, hb7⟩
          have hbx : Below w7.heap.size w7 (w7.alloc (.cells (knA 0 0 0 (.int .i64 0) (.string ⟨#[]⟩) (.string ⟨#[]⟩) (.bool false) (.int .i64 0) (.slice none 0 0) (.slice none 0 0) (.slice none 0 0)) 53)) := (Below.refl _ w7).alloc (Nat.le_refl _) _
          replace hMA := (hMA.below hb7).below hbx
          replace B := (B.below hb7).below hbx
          replace hRb := below_push2 (below_push2 hRb hb7 (Nat.le_refl _)) hbx (Nat.le_refl _)
          generalize hW : w7.alloc (.cells (knA 0 0 0 (.int .i64 0) (.string ⟨#[]⟩) (.string ⟨#[]⟩) (.bool false) (.int .i64 0) (.slice none 0 0) (.slice none 0 0) (.slice none 0 0)) 53) = w8 at hMA B hRb
          replace hW := Lib.hid hW
          clear hbx hb7
          go_wp2_with (refine wpList_store_row rfl 53 _ _ rfl _ _ rfl rfl 53 _ (Blk.new w7 _ _).h (by kernel_rfl) (by rfl) (by kernel_rfl) ?_; rw [World.setRow_alloc_new, hW.out])
          refine (rdState_on t 0 at_ st su 0 word ver _ _ _ _ _ _ _ _ _ hMA B (by omega) (by omega) (by omega) (by omega)).mono ?_
          rintro e w9 ⟨rfl, hb9⟩
          replace hRb := below_push2 hRb hb9 (Nat.le_refl _)
          have hz0 : (st != 0) = true := by simpa using hx
          clear hMA B hW
          go_wp2_with fail
          refine (rdLives_any _).mono ?_
          rintro e w3 ⟨rfl, hb3⟩
          go_wp2_with fail
          go_ret
          exact ⟨rfl, below_push2 hRb hb3 (Nat.le_refl _)⟩
set_option maxRecDepth 100000 in
theorem contract (H : Type) (enc : TypeId × Value → H) (W : World) (base : Nat) (args : Array Value) (ds : List (DataW H)) (p : List MemPlace)
    (hval : ∀ (j : Nat) t v, Try.f4.params[j]? = some t → args[j]? = some v → Value.okWide Try.prog W .any base t v)
    (hA : DataW.TrodAll enc Try.prog W 0 (fun _ => true) true Try.f4.params.toList args.toList ds p)
    (hz : ∀ (j : Nat) t d, Try.f4.params[j]? = some t → ds[j]? = some d → ∀ n ∈ DataW.weights Try.prog t d, n ≤ reachBytes) :
    Calls Try.prog 4 args W fun e W' => e = .returned (.bool true) ∧ Below W.heap.size W W' := by
  rw [Try.params4] at hA hval hz
  obtain ⟨v0, vs0, d0, ds0, p0, q0, hargs, rfl, rfl, h0, r0⟩ := trodAll_cons hA
  obtain ⟨v1, vs1, d1, ds1, p1, q1, rfl, rfl, rfl, h1, r1⟩ := trodAll_cons r0
  obtain ⟨rfl, rfl, rfl⟩ := trodAll_nil r1
  obtain rfl : args = #[v0, v1] := by cases args; simp_all
  obtain ⟨a, c, xs, rfl, _, hm, hx, sx⟩ := oz_slice oz_accs Try.underlying22 (hval 0 22 v0 rfl rfl) h0 (hz 0 22 d0 rfl rfl)
  obtain ⟨a', c', ys, rfl, _, hm', hy, sy⟩ := oz_slice oz_accs Try.underlying22 (hval 1 22 v1 rfl rfl) h1 (hz 1 22 d1 rfl rfl)
  have hmx : (maxLen : Nat) = 9223372036854775807 := by unfold maxLen; rfl
  exact walk a c xs a' c' ys W hx hy (by omega) (by omega) sx sy

/-! THE ROW's STEP -/
set_option maxRecDepth 100000 in
theorem lifted (os : Os) (started : os.Started) (H : Type) (enc : TypeId × Value → H) :
    ReturnsInHanded {} Try.checked os 4 .any (Rows.readHoldsSpec.pre6 enc Try.prog Try.f4 Rows.readHoldsRow.domain false) (Rows.readHoldsSpec.post enc Try.prog Try.f4 false true false false) := by
  refine returnsInHanded_of_change_sized (C := Try.checked) Lift.own started (by kernel_rfl) Try.func4
    (ChangeSpec.witness6 (enc := enc) (C := Try.checked) false ⟨#[], #[.slice none 0 0, .slice none 0 0], []⟩ 8 (by kernel_rfl) (by kernel_rfl) (by kernel_rfl) (by kernel_rfl)) ?_
  intro W base args ds gs before hval0 hW hcnd hz0 _
  have hval : ∀ (j : Nat) t v, Try.f4.params[j]? = some t → args[j]? = some v → Value.okWide Try.prog W .any base t v := hval0
  have hW' := hW
  obtain ⟨p, q, hA0, hV, rfl, hfz, hnd⟩ := hW
  have hA : DataW.TrodAll enc Try.prog W 0 (fun _ => true) true Try.f4.params.toList args.toList ds p := hA0
  have hlen : ds.length = 2 := by
    have hl := Lift.trodAll_len _ _ _ _ hA
    rw [Try.params4] at hl
    simpa using hl
  have hall := fun W' (hb : Below W.heap.size W W') => Lift.trodAll_below Lift.laidOut hb Try.f4.params.toList args.toList ds p (by kernel_rfl) hA
  obtain ⟨rfl, rfl⟩ := trodVars_none hV
  refine (contract H enc W base args ds p hval hA (fun j t d ht hd => Dp.sized_arg hz0 (by simpa using ht) hd)).mono fun e W' ⟨he, bel⟩ => ?_
  subst he
  have hspec : (Rows.readHoldsSpec.fn H (ds ++ [])).results = [.lit (.bool true)] ∧ (Rows.readHoldsSpec.fn H (ds ++ [])).args = ds ∧ (Rows.readHoldsSpec.fn H (ds ++ [])).vars = [] := by
    match ds, hlen with
    | [d1, d2], _ => exact ⟨rfl, rfl, rfl⟩
  exact ⟨_, rfl, _, _, _, [], _, [], hW', by rw [hspec.1]; exact trodAll_mk1 (shut_bool Try.underlying4 _), by rw [hspec.2.1]; exact hall W' bel, by rw [hspec.2.2]; rfl, bel.frame _, fun h => by cases h⟩

theorem over : Rows.readHoldsRow.holds Try.pinned (OpenSpec.ofChange Rows.readHoldsSpec) :=
  OpenClaim.holds_of_wide 4 Try.f4 rfl rfl rfl rfl rfl rfl rfl ⟨rfl, rfl, rfl, rfl, rfl⟩ rfl rfl rfl rfl rfl (by kernel_rfl) Try.func4 (by kernel_rfl)
    (of_decide_eq_true (by kernel_rfl)) (by unfold Func.isWrapper; first | (rw [if_pos (by decide +kernel)]; kernel_rfl) | (rw [if_neg (by decide +kernel)]; exact ⟨rfl, rfl⟩))
    (fun os started H enc _ => lifted os started H enc)

theorem proved : Rows.ReadHoldsSaid := over
#print axioms proved
end Go.Proofs.Ytgdeiaholkmfeaa.readHolds
