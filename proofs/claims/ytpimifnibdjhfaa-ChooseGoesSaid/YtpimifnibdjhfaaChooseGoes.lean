/-
  ChooseGoes: whatever is announced, and whatever others write meanwhile, choosing has the accesses that the document says, one by one, no more than Cost says, and chooses who the document says. For every number of threads and all lists of writes; no condition.
-/
import Derived.Test.YtpimifnibdjhfaaLift
import Derived.Test.YtpimifnibdjhfaaOpen
import Derived.Test.YtpimifnibdjhfaaChooseH
namespace Go.Proofs.Ytpimifnibdjhfaa.chooseGoes
open Go.ChangeShapes Go.WideShapes Go.ChangeAt Go.RowKit RefP CellP GateP MemP
set_option linter.unusedVariables false
set_option linter.unusedSimpArgs false
def wrK (j : Nat) : IntKind := match j with | 0 => .u8 | 1 => .u8 | _ => .u64
set_option maxRecDepth 100000 in
set_option maxHeartbeats 6400000 in
theorem walk (n : Int) (a : Option Addr) (c m : Nat) (F : Nat → Nat → Int) (a' : Option Addr) (c' m' : Nat) (F' : Nat → Nat → Int) (w : World) (n0 : 0 ≤ n) (n1 : n ≤ 255) (hA : Nums w a m 3 wrK F) (hA' : Nums w a' m' 3 wrK F') :
    Calls Try.prog 3 #[.int .u8 n, .slice a m c, .slice a' m' c'] w fun e w' => e = .returned (.bool true) ∧ Below w.heap.size w w' := by
  obtain ⟨T, hT⟩ : ∃ T : Nat, n % 16 + 1 = (T : Int) := ⟨(n % 16 + 1).toNat, by omega⟩
  have T0 : 1 ≤ T ∧ T ≤ 16 := by omega
  have hlen := hA.len
  have hlen' := hA'.len
  have hT16 : T ≤ 16 := T0.2
  by_cases hbig : 200 < m
  · have q1 : decide ((200 : Int) < (m : Int)) = true := by simp; omega
    go_enter Try.func3, Try.ntmps3
    go_wp2_with fail
    refine (chLives_any _).mono ?_
    rintro e w1 ⟨rfl, hb1⟩
    go_wp2_with fail
    go_ret
    exact ⟨rfl, hb1⟩
  by_cases hbig' : 200 < m'
  · have q1 : decide ((200 : Int) < (m : Int)) = false := by simp; omega
    have q2 : decide ((200 : Int) < (m' : Int)) = true := by simp; omega
    go_enter Try.func3, Try.ntmps3
    go_wp2_with fail
    refine (chLives_any _).mono ?_
    rintro e w1 ⟨rfl, hb1⟩
    go_wp2_with fail
    go_ret
    exact ⟨rfl, hb1⟩
  have p1 : decide ((200 : Int) < (m : Int)) = false := by simp; omega
  have p2 : decide ((200 : Int) < (m' : Int)) = false := by simp; omega
  go_enter Try.func3, Try.ntmps3
  go_wp2_with fail
  refine (mnew_yes 2 T 0 _ (by omega) (by omega) (by omega) (by omega) (by omega) (by omega)).mono ?_
  rintro e w1 ⟨o, oc, g, gb, gr, rfl, hM, hB, ho, hoc, hg, hgb, hgr⟩
  generalize freshL 2 T 0 = L0 at hM
  generalize ((List.replicate 2 zb).set 0 eb) = bs0 at hM
  generalize (List.replicate T zo) = rs at hM
  go_wp2_with fail
  clear p1 p2
  go_loopw [42] (fun i wr => ∃ k : Nat, k ≤ m ∧ i = .int .i64 k ∧ ∃ L bs, Below w.heap.size w wr ∧ MemAt wr o oc g gb gr 2 T L bs rs) (fun i _ => m - (intOf i).toNat)
  case atStart => exact ⟨0, Nat.zero_le _, rfl, L0, bs0, hB, hM⟩
  case round =>
    clear hM hB
    obtain ⟨k, hk, rfl, L, bs, hB, hM⟩ := hrel
    by_cases hlt : k < m
    · obtain ⟨b, off, rfl, hbl, hc⟩ := (hA.below hB).cell k hlt
      have hlt' : (k : Int) < (m : Int) := by omega
      have c0 : wr.cell? ⟨b, off + k * 3, none⟩ = some (.int .u8 (F k 0)) := hc 0 (by omega)
      have c1 : wr.cell? ⟨b, off + k * 3 + 1, none⟩ = some (.int .u8 (F k 1)) := hc 1 (by omega)
      have c2 : wr.cell? ⟨b, off + k * 3 + 2, none⟩ = some (.int .u64 (F k 2)) := hc 2 (by omega)
      have h0 := Lift.u8_range (hA.wf k 0 hlt (by omega))
      have h1 := Lift.u8_range (hA.wf k 1 hlt (by omega))
      have h2 := Lift.u64_range (hA.wf k 2 hlt (by omega))
      clear hc
      have hb2 : Below wr.heap.size wr (wr.alloc (.cells #[.int .u8 (F k 0), .int .u8 (F k 1), .int .u64 (F k 2)] 28)) := by (repeat (first | exact Below.refl _ _ | assumption | refine below_alloc2 ?_ (by first | exact Nat.le_refl _ | omega) _ | refine Below.drew ?_ | refine below_drewN ?_ _ | refine below_push2 ?_ ‹_› (by first | exact Nat.le_refl _ | omega) | refine Below.setCell ?_ (by first | (simp; done) | (simp; omega) | omega) _))
      go_wp2_with fail
      refine (write_any (F k 0) (F k 1) (F k 2) _ (hM.below hb2) h0 h1 h2.1 h2.2).mono ?_
      rintro e w3 ⟨rfl, ⟨bs', hM3⟩, hF⟩
      have hB3 := hF.below (below_push2 hB hb2 (Nat.le_refl _)) (Nat.le_refl _) (by simp; omega)
      go_wp2_with fail
      go_roundw
      case rel => exact ⟨k + 1, by omega, by go_num, _, _, hB3, hM3⟩
      case measure => simp [intOf]; omega
    · obtain rfl : k = m := by omega
      clear hlt hbig hlen hA
      go_wp2_with fail
      refine (chNew_any _ _).mono ?_
      rintro e w4 ⟨rfl, hw4⟩
      have R0 := Rd.start hB hM
      rw [← hw4] at R0
      have hs4 : wr.heap.size < w4.heap.size := by rw [hw4]; simp
      clear hw4
      go_wp2_with fail
      refine (dmnew 2 T 0 _ (by omega) (by omega) (by omega) (by omega) (by omega) (by omega)).mono ?_
      rintro e w5 ⟨⟨a1, n1', c1, a2, n2', c2, a3, n3', c3, rfl⟩, hb5⟩
      have R1 := R0.under hb5
      have hs5 := hb5.size
      have DB := Blk.new w5 (dchA 2 T ⟨a1, n1', c1, a2, n2', c2, a3, n3', c3⟩ cs0 none 0) 40
      have R : Rg w wr.heap.size o oc g gb gr 2 T L bs rs wr.heap.size w5.heap.size ⟨a1, n1', c1, a2, n2', c2, a3, n3', c3⟩ cs0 none 0 cs0 none 0 (w5.alloc (.cells (dchA 2 T ⟨a1, n1', c1, a2, n2', c2, a3, n3', c3⟩ cs0 none 0) 40)) := by
        have R2 := R1.under ((Below.refl _ w5).alloc (Nat.le_refl _) (.cells (dchA 2 T ⟨a1, n1', c1, a2, n2', c2, a3, n3', c3⟩ cs0 none 0) 40))
        exact ⟨R2.b, R2.m, R2.c, DB, OwnR.nil _ _ _ _ _ _, by omega, by omega, fun q hq => by simp [Value.ownBlock] at hq, fun q hq => by simp [Value.ownBlock] at hq, R2.hs, R2.h0⟩
      generalize hW : w5.alloc (.cells (dchA 2 T ⟨a1, n1', c1, a2, n2', c2, a3, n3', c3⟩ cs0 none 0) 40) = w6 at R
      replace hW := Lib.hid hW
      generalize hr : (⟨a1, n1', c1, a2, n2', c2, a3, n3', c3⟩ : DRows) = r at R
      clear R0 R1 DB hb5 hs5 hM hB hs4
      go_wp2_with fail
      rw [show w5.alloc (.cells #[.int .i64 2, .int .i64 T, .slice a1 n1' c1, .slice a2 n2' c2, .slice a3 n3' c3, .int .i64 0, .int .i64 0, .int .u64 0, .int .u64 0, .int .u64 0, .slice none 0 0] 40) = w6 from hW.out]
      clear hW hr
      generalize w5.heap.size = td at R ⊢
      generalize wr.heap.size = base at R ⊢
      refine (chCost_any _ _).mono ?_
      rw [if_pos (by omega)]
      rintro e w7 ⟨rfl, rfl⟩
      go_wp2_with fail
      go_loopw [58] (fun i wr => ∃ k : Nat, ∃ L bs s a3 c3 a2 c2, k ≤ 4 * T + 1 ∧ i = .int .i64 k ∧ (k ≤ 4 * s.th + s.at_ ∧ s.th ≤ T ∧ (s.th = T → s.at_ = 0)) ∧ Rg w base o oc g gb gr 2 T L bs rs base td r s a3 c3 s a2 c2 wr) (fun i _ => 4 * T + 1 - (intOf i).toNat)
      case atStart => exact ⟨0, L, bs, cs0, none, 0, none, 0, Nat.zero_le _, rfl, ⟨Nat.zero_le _, Nat.zero_le _, fun _ => rfl⟩, R⟩
      case round =>
        clear R
        obtain ⟨k, L, bs, s, at_, ct, a2, c2, hk, rfl, hpr, R⟩ := hrel
        have hok := R.ch.ok
        have hat := hok.at_
        have hth := hok.th
        by_cases hTs : s.th < T
        · have hlt : k < 4 * T + 1 := by omega
          have hlt' : (k : Int) < 4 * (T : Int) + 1 := by omega
          go_wp2_with fail
          refine (chNext_any _ R.m.m R.ch hTs).mono ?_
          rintro e w2 ⟨rfl, hb2⟩
          replace R := (R.under hb2).under ((Below.refl _ w2).alloc (Nat.le_refl _) (.cells (accZ 1 (s.cell 2 T) 0 0) 58))
          have BA := Blk.new w2 (accZ 1 (s.cell 2 T) 0 0) 58
          generalize hW : w2.alloc (.cells (accZ 1 (s.cell 2 T) 0 0) 58) = w3 at R BA
          replace hW := Lib.hid hW
          clear hb2
          have D3 := R.d
          go_wp2_with (first
            | (refine wpList_store_row rfl 58 _ _ rfl _ _ rfl rfl 58 _ (Blk.new w2 _ _).h (by kernel_rfl) (by rfl) (by kernel_rfl) ?_; rw [World.setRow_alloc_new, hW.out])
            | (refine wpList_load_row rfl 40 _ rfl td rfl 40 _ (0, 0) _ D3.h Try.underlying40 rfl (by kernel_rfl) ?_))
          refine (dnext_any 2 T r s a2 c2 _ (by omega) hT16 hTs hat).mono ?_
          rintro e w4 ⟨rfl, hb4⟩
          replace R := (R.under hb4).under ((Below.refl _ w4).alloc (Nat.le_refl _) (.cells (accZ 1 (s.cell 2 T) 0 0) 58))
          replace BA := (BA.below hb4).below ((Below.refl _ w4).alloc (Nat.le_refl _) (.cells (accZ 1 (s.cell 2 T) 0 0) 58))
          have BB := Blk.new w4 (accZ 1 (s.cell 2 T) 0 0) 58
          generalize hW4 : w4.alloc (.cells (accZ 1 (s.cell 2 T) 0 0) 58) = w5 at R BA BB
          replace hW4 := Lib.hid hW4
          clear hb4 D3
          go_wp2_with (first
            | (refine wpList_store_row rfl 58 _ _ rfl _ _ rfl rfl 58 _ (Blk.new w4 _ _).h (by kernel_rfl) (by rfl) (by kernel_rfl) ?_; rw [World.setRow_alloc_new, hW4.out]))
          refine (chThread_not _ R.m.m R.ch hTs).mono ?_
          rintro e w6 ⟨rfl, hb6⟩
          replace R := R.under hb6
          replace BA := BA.below hb6
          replace BB := BB.below hb6
          clear hb6
          have D6 := R.d
          go_wp2_with (first
            | (refine wpList_load_row rfl 40 _ rfl td rfl 40 _ (0, 0) _ D6.h Try.underlying40 rfl (by kernel_rfl) ?_))
          refine (dthread_not 2 T r s a2 c2 _ hTs).mono ?_
          rintro e w7 ⟨rfl, hb7⟩
          replace R := R.under hb7
          replace BA := BA.below hb7
          replace BB := BB.below hb7
          clear hb7 D6 hW hW4
          have a0 : w7.cell? ⟨w2.heap.size, 0, none⟩ = some (.int .i64 (1)) := BA.at 0 rfl
          have a1 : w7.cell? ⟨w2.heap.size, 1, none⟩ = some (.int .i64 (s.cell 2 T)) := BA.at 1 rfl
          have b0 : w7.cell? ⟨w4.heap.size, 0, none⟩ = some (.int .i64 (1)) := BB.at 0 rfl
          have b1 : w7.cell? ⟨w4.heap.size, 1, none⟩ = some (.int .i64 (s.cell 2 T)) := BB.at 1 rfl
          clear BB
          obtain ⟨ci, hci⟩ : ∃ ci, s.cell 2 T = ci := ⟨_, rfl⟩
          rw [hci] at BA a1 b1
          go_wp2_with (refine wpList_load_row rfl 58 _ rfl w2.heap.size rfl 58 _ (0, 0) _ BA.h Try.underlying58 rfl (by kernel_rfl) ?_)
          refine (do_load ci 0 0 _ _ _ _ _ _ _ _ _ _ _ _ _ _ _ _ _ _ _ _ _ _ _ R.m.m).mono ?_
          rintro e w8 ⟨rfl, hb8⟩
          have hr := load_rng R.m.m.cells.rng ci
          have hpr' := tell_pr (loadW L ci) (loadV L ci) hat hTs
          generalize inB L.length ci = ok
          generalize loadW L ci = x at hr hpr' ⊢
          generalize loadV L ci = v at hr hpr' ⊢
          replace R := R.under hb8
          have BK := Blk.new w8 #[.bool ok, .int .u64 x, .int .u64 v, .int .i64 0, .int .i64 0, .string ⟨#[]⟩, .string ⟨#[]⟩, .bool false, .int .i64 0, .slice none 0 0, .slice none 0 0, .slice none 0 0, .int .i64 0, .int .i64 0, .string ⟨#[]⟩, .int .u64 0, .slice none 0 0, .slice none 0 0, .slice none 0 0, .slice none 0 0, .int .i64 0, .string ⟨#[]⟩, .string ⟨#[]⟩, .int .u64 0, .int .i64 0] 66
          have hkb : w8.heap.size ∉ ownS base at_ s.L.length ct := fun hm => by
            rcases mem_ownS_iff.1 hm with e | e
            · have := R.ch.head.lt; omega
            · have := (OwnR.lt R.ch.own _ e).2; omega
          replace R := R.under ((Below.refl _ w8).alloc (Nat.le_refl _) (.cells #[.bool ok, .int .u64 x, .int .u64 v, .int .i64 0, .int .i64 0, .string ⟨#[]⟩, .string ⟨#[]⟩, .bool false, .int .i64 0, .slice none 0 0, .slice none 0 0, .slice none 0 0, .int .i64 0, .int .i64 0, .string ⟨#[]⟩, .int .u64 0, .slice none 0 0, .slice none 0 0, .slice none 0 0, .slice none 0 0, .int .i64 0, .string ⟨#[]⟩, .string ⟨#[]⟩, .int .u64 0, .int .i64 0] 66))
          generalize hW9 : w8.alloc (.cells #[.bool ok, .int .u64 x, .int .u64 v, .int .i64 0, .int .i64 0, .string ⟨#[]⟩, .string ⟨#[]⟩, .bool false, .int .i64 0, .slice none 0 0, .slice none 0 0, .slice none 0 0, .int .i64 0, .int .i64 0, .string ⟨#[]⟩, .int .u64 0, .slice none 0 0, .slice none 0 0, .slice none 0 0, .slice none 0 0, .int .i64 0, .string ⟨#[]⟩, .string ⟨#[]⟩, .int .u64 0, .int .i64 0] 66) = w9 at R BK
          replace hW9 := Lib.hid hW9
          clear hb8 BA a0 a1 b0 b1 hci
          go_wp2_with (first
            | (refine wpList_store_row rfl 66 _ _ rfl _ _ rfl rfl 66 _ (Blk.new w8 _ _).h (by kernel_rfl) (by rfl) (by kernel_rfl) ?_; rw [World.setRow_alloc_new, hW9.out])
            | (refine wpList_load_row rfl 66 _ rfl w8.heap.size rfl 66 _ (0, 0) _ BK.h Try.underlying66 rfl (by kernel_rfl) ?_))
          refine (tellg_any ok x v _ R.m.m R.ch hTs hT16 hr.1.1 hr.1.2 hr.2.1 hr.2.2 R.hs).mono ?_
          rintro e w10 ⟨⟨a', c', rfl, hC10, hn10⟩, hF10⟩
          replace R := R.told hC10 hn10 hF10
          replace BK := hF10.blk BK hkb
          clear hC10 hn10 hF10 hkb hW9
          have D10 := R.d
          go_wp2_with (first
            | (refine wpList_load_row rfl 40 _ rfl td rfl 40 _ (0, 0) _ D10.h Try.underlying40 rfl (by kernel_rfl) ?_)
            | (refine wpList_load_row rfl 66 _ rfl w8.heap.size rfl 66 _ (0, 0) _ BK.h Try.underlying66 rfl (by kernel_rfl) ?_))
          refine (dtell_any 2 T r s a2 c2 _ ok x v hth hok ⟨_, R.own⟩).mono ?_
          rintro e w11 ⟨⟨a2', c2', rfl, ho⟩, hb11⟩
          have D11 := D10.below hb11
          replace R := R.dtold hb11 ho
          clear D10 hb11 ho BK
          by_cases hin : k < m'
          · have hin' : (k : Int) < (m' : Int) := by omega
            obtain ⟨b, off, rfl, hbl, hc⟩ := (hA'.below R.b).cell k hin
            generalize hW12 : w11.setRow td (dchA 2 T r (s.tell x v) a2' c2') = w12 at R hc
            replace hW12 := Lib.hid hW12
            have c0 : w12.cell? ⟨b, off + k * 3, none⟩ = some (.int .u8 (F' k 0)) := hc 0 (by omega)
            have c1 : w12.cell? ⟨b, off + k * 3 + 1, none⟩ = some (.int .u8 (F' k 1)) := hc 1 (by omega)
            have c2 : w12.cell? ⟨b, off + k * 3 + 2, none⟩ = some (.int .u64 (F' k 2)) := hc 2 (by omega)
            have h0 := Lift.u8_range (hA'.wf k 0 hin (by omega))
            have h1 := Lift.u8_range (hA'.wf k 1 hin (by omega))
            have h2 := Lift.u64_range (hA'.wf k 2 hin (by omega))
            clear hc
            go_wp2_with (first
              | (refine wpList_store_row rfl 40 _ _ rfl td _ rfl rfl 40 _ D11.h (by kernel_rfl) (by rfl) (by kernel_rfl) ?_; rw [show w11.setRow td _ = w12 from hW12.out]))
            refine (write_any (F' k 0) (F' k 1) (F' k 2) _ R.m.m h0 h1 h2.1 h2.2).mono ?_
            rintro e w13 ⟨rfl, ⟨bs', hM13⟩, hF13⟩
            replace R := R.wrote hM13 hF13 ⟨hg, hgb⟩
            clear hM13 hF13
            go_wp2_with fail
            go_roundw
            case rel => exact ⟨k + 1, _, _, _, _, _, _, _, by omega, by go_num, by omega, R⟩
            case measure => simp [intOf]; omega
          · have hin' : ¬ (k : Int) < (m' : Int) := by omega
            go_wp2_with (first
              | (refine wpList_store_row rfl 40 _ _ rfl td _ rfl rfl 40 _ D11.h (by kernel_rfl) (by rfl) (by kernel_rfl) ?_))
            go_roundw
            case rel => exact ⟨k + 1, _, _, _, _, _, _, _, by omega, by go_num, by omega, R⟩
            case measure => simp [intOf]; omega
        · have hthT : s.th = T := by omega
          have hTle : T ≤ s.th := by omega
          have hlt : k < 4 * T + 1 := by omega
          have hlt' : (k : Int) < 4 * (T : Int) + 1 := by omega
          have hll := hok.len
          have hCd := ownD_cands R.own hok.L (by omega)
          go_wp2_with fail
          refine (chNext_over _ R.m.m R.ch hTle).mono ?_
          rintro e w2 ⟨rfl, hb2⟩
          replace R := (R.under hb2).under ((Below.refl _ w2).alloc (Nat.le_refl _) (.cells (accZ 0 0 0 0) 58))
          have BA := Blk.new w2 (accZ 0 0 0 0) 58
          generalize hW : w2.alloc (.cells (accZ 0 0 0 0) 58) = w3 at R BA
          replace hW := Lib.hid hW
          clear hb2
          have D3 := R.d
          go_wp2_with (first
            | (refine wpList_store_row rfl 58 _ _ rfl _ _ rfl rfl 58 _ (Blk.new w2 _ _).h (by kernel_rfl) (by rfl) (by kernel_rfl) ?_; rw [World.setRow_alloc_new, hW.out])
            | (refine wpList_load_row rfl 40 _ rfl td rfl 40 _ (0, 0) _ D3.h Try.underlying40 rfl (by kernel_rfl) ?_))
          refine (dnext_over 2 T r s a2 c2 _ hTle).mono ?_
          rintro e w4 ⟨rfl, hb4⟩
          replace R := (R.under hb4).under ((Below.refl _ w4).alloc (Nat.le_refl _) (.cells (accZ 0 0 0 0) 58))
          replace BA := (BA.below hb4).below ((Below.refl _ w4).alloc (Nat.le_refl _) (.cells (accZ 0 0 0 0) 58))
          have BB := Blk.new w4 (accZ 0 0 0 0) 58
          generalize hW4 : w4.alloc (.cells (accZ 0 0 0 0) 58) = w5 at R BA BB
          replace hW4 := Lib.hid hW4
          clear hb4 D3
          go_wp2_with (first
            | (refine wpList_store_row rfl 58 _ _ rfl _ _ rfl rfl 58 _ (Blk.new w4 _ _).h (by kernel_rfl) (by rfl) (by kernel_rfl) ?_; rw [World.setRow_alloc_new, hW4.out]))
          refine (chThread_over _ R.m.m R.ch hTle).mono ?_
          rintro e w6 ⟨rfl, hb6⟩
          replace R := R.under hb6
          replace BA := BA.below hb6
          replace BB := BB.below hb6
          clear hb6
          have D6 := R.d
          go_wp2_with (first
            | (refine wpList_load_row rfl 40 _ rfl td rfl 40 _ (0, 0) _ D6.h Try.underlying40 rfl (by kernel_rfl) ?_))
          refine (dthread_over 2 T r s a2 c2 _ hTle (ownD_cands R.own hok.L (by omega)) (by omega)).mono ?_
          rintro e w7 ⟨rfl, hb7⟩
          replace R := R.under hb7
          replace BA := BA.below hb7
          replace BB := BB.below hb7
          clear hb7 D6 hW hW4
          have a0 : w7.cell? ⟨w2.heap.size, 0, none⟩ = some (.int .i64 (0)) := BA.at 0 rfl
          have a1 : w7.cell? ⟨w2.heap.size, 1, none⟩ = some (.int .i64 (0)) := BA.at 1 rfl
          have b0 : w7.cell? ⟨w4.heap.size, 0, none⟩ = some (.int .i64 (0)) := BB.at 0 rfl
          have b1 : w7.cell? ⟨w4.heap.size, 1, none⟩ = some (.int .i64 (0)) := BB.at 1 rfl
          clear BB
          generalize firstT s.L = ft
          generalize firstB s.L = fb
          go_wp2_with fail
          refine (chCost_any _ _).mono ?_
          rw [if_pos (by omega)]
          rintro e w8 ⟨rfl, rfl⟩
          go_wp2_with fail
          refine (chLives_any _).mono ?_
          rintro e w9 ⟨rfl, hb9⟩
          go_wp2_with fail
          go_ret
          exact ⟨rfl, below_push2 R.b hb9 (Nat.le_refl _)⟩

set_option maxRecDepth 100000 in
theorem contract (H : Type) (enc : TypeId × Value → H) (W : World) (base : Nat) (args : Array Value) (ds : List (DataW H)) (p : List MemPlace)
    (hval : ∀ (j : Nat) t v, Try.f3.params[j]? = some t → args[j]? = some v → Value.okWide Try.prog W .any base t v)
    (hA : DataW.TrodAll enc Try.prog W 0 (fun _ => true) true Try.f3.params.toList args.toList ds p) :
    Calls Try.prog 3 args W fun e W' => e = .returned (.bool true) ∧ Below W.heap.size W W' := by
  rw [Try.params3] at hA hval
  obtain ⟨v0, vs0, d0, ds0, p0, q0, hargs, rfl, rfl, h0, r0⟩ := trodAll_cons hA
  obtain ⟨v1, vs1, d1, ds1, p1, q1, rfl, rfl, rfl, h1, r1⟩ := trodAll_cons r0
  obtain ⟨v2, vs2, d2, ds2, p2, q2, rfl, rfl, rfl, h2, r2⟩ := trodAll_cons r1
  obtain ⟨rfl, rfl, rfl⟩ := trodAll_nil r2
  obtain rfl : args = #[v0, v1, v2] := by cases args; simp_all
  obtain ⟨a0, rfl, w0⟩ := Lift.int_of Try.underlying5 (hval 0 5 v0 rfl rfl) h0
  obtain ⟨a1, n1, c1, F1, rfl, _, hN1⟩ := Open.nums_of wrK Try.underlying22 Try.underlying28 (by kernel_rfl) (by kernel_rfl) (by decide) (by
    intro j f hj
    rcases j with _ | _ | _ | j
    · cases hj; exact Try.underlying5
    · cases hj; exact Try.underlying5
    · cases hj; exact Try.underlying26
    · simp at hj) (hval 1 22 v1 rfl rfl) h1
  obtain ⟨a2, n2, c2, F2, rfl, _, hN2⟩ := Open.nums_of wrK Try.underlying22 Try.underlying28 (by kernel_rfl) (by kernel_rfl) (by decide) (by
    intro j f hj
    rcases j with _ | _ | _ | j
    · cases hj; exact Try.underlying5
    · cases hj; exact Try.underlying5
    · cases hj; exact Try.underlying26
    · simp at hj) (hval 2 22 v2 rfl rfl) h2
  have b0 := Lift.u8_range w0
  exact walk a0 a1 c1 n1 F1 a2 c2 n2 F2 W b0.1 b0.2 hN1 hN2

/-! THE ROW's STEP -/
set_option maxRecDepth 100000 in
theorem lifted (os : Os) (started : os.Started) (H : Type) (enc : TypeId × Value → H) :
    ReturnsInHanded {} Try.checked os 3 .any (Rows.chooseGoesSpec.pre6 enc Try.prog Try.f3 Rows.chooseGoesRow.domain false) (Rows.chooseGoesSpec.post enc Try.prog Try.f3 false true false false) := by
  refine returnsInHanded_of_change (C := Try.checked) Lift.own started (by kernel_rfl) Try.func3
    (ChangeSpec.witness6 (enc := enc) (C := Try.checked) false ⟨#[], #[.int .u8 0, .slice none 0 0, .slice none 0 0], []⟩ 8 (by kernel_rfl) (by kernel_rfl) (by kernel_rfl) (by kernel_rfl)) ?_
  intro W base args ds gs before hval0 hW hcnd _
  have hval : ∀ (j : Nat) t v, Try.f3.params[j]? = some t → args[j]? = some v → Value.okWide Try.prog W .any base t v := hval0
  have hW' := hW
  obtain ⟨p, q, hA0, hV, rfl, hfz, hnd⟩ := hW
  have hA : DataW.TrodAll enc Try.prog W 0 (fun _ => true) true Try.f3.params.toList args.toList ds p := hA0
  have hlen : ds.length = 3 := by
    have hl := Lift.trodAll_len _ _ _ _ hA
    rw [Try.params3] at hl
    simpa using hl
  have hall := fun W' (hb : Below W.heap.size W W') => Lift.trodAll_below Lift.laidOut hb Try.f3.params.toList args.toList ds p (by kernel_rfl) hA
  obtain ⟨rfl, rfl⟩ := trodVars_none hV
  refine (contract H enc W base args ds p hval hA).mono fun e W' ⟨he, bel⟩ => ?_
  subst he
  have hspec : (Rows.chooseGoesSpec.fn H (ds ++ [])).results = [.lit (.bool true)] ∧ (Rows.chooseGoesSpec.fn H (ds ++ [])).args = ds ∧ (Rows.chooseGoesSpec.fn H (ds ++ [])).vars = [] := by
    match ds, hlen with
    | [d1, d2, d3], _ => exact ⟨rfl, rfl, rfl⟩
  exact ⟨_, rfl, _, _, _, [], _, [], hW', by rw [hspec.1]; exact trodAll_mk1 (shut_bool Try.underlying4 _), by rw [hspec.2.1]; exact hall W' bel, by rw [hspec.2.2]; rfl, bel.frame _, fun h => by cases h⟩

theorem over : Rows.chooseGoesRow.holds Try.pinned (OpenSpec.ofChange Rows.chooseGoesSpec) :=
  OpenClaim.holds_of_wide 3 Try.f3 rfl rfl rfl rfl rfl rfl rfl ⟨rfl, rfl, rfl, rfl, rfl⟩ rfl rfl rfl rfl rfl (by kernel_rfl) Try.func3 (by kernel_rfl)
    (of_decide_eq_true (by kernel_rfl)) (by unfold Func.isWrapper; first | (rw [if_pos (by decide +kernel)]; kernel_rfl) | (rw [if_neg (by decide +kernel)]; exact ⟨rfl, rfl⟩))
    (fun os started H enc _ => lifted os started H enc)

theorem proved : Rows.ChooseGoesSaid := over
#print axioms proved
end Go.Proofs.Ytpimifnibdjhfaa.chooseGoes
