/-
  ChooseFirst: if nobody writes meanwhile, who is chosen is the first of all that announce and are not done; nobody, if there is none; a task that is none chooses nobody. For every number of threads and every list of writes; no condition.
-/
import Derived.Test.YtpmlbdnhgeeaoaaLift
import Derived.Test.YtpmlbdnhgeeaoaaOpen
import Derived.Test.YtpmlbdnhgeeaoaaChooseL
namespace Go.Proofs.Ytpmlbdnhgeeaoaa.chooseFirst
open Go.ChangeShapes Go.WideShapes Go.ChangeAt Go.RowKit RefP CellP GateP MemP
set_option linter.unusedVariables false
set_option linter.unusedSimpArgs false
def wrK (j : Nat) : IntKind := match j with | 0 => .u8 | 1 => .u8 | _ => .u64
theorem zero_task (w : World) : NoTask (w.alloc (.cells #[.pointer none, .int .i64 0, .int .i64 0, .int .u64 0, .int .u64 0, .int .u64 0, .slice none 0 0] 115)) (some ⟨w.heap.size, 0, none⟩) := .inr ⟨_, rfl, Blk.new w _ _⟩
set_option maxRecDepth 100000 in
set_option maxHeartbeats 6400000 in
theorem walk (n : Int) (a : Option Addr) (c m : Nat) (F : Nat → Nat → Int) (w : World) (n0 : 0 ≤ n) (n1 : n ≤ 255) (hA : Nums w a m 3 wrK F) :
    Calls Try.prog 11 #[.int .u8 n, .slice a m c] w fun e w' => e = .returned (.bool true) ∧ Below w.heap.size w w' := by
  obtain ⟨T, hT⟩ : ∃ T : Nat, n % 16 + 1 = (T : Int) := ⟨(n % 16 + 1).toNat, by omega⟩
  have T0 : 1 ≤ T ∧ T ≤ 16 := by omega
  have hlen := hA.len
  have hT16 : T ≤ 16 := T0.2
  by_cases hbig : 200 < m
  · go_enter Try.func11, Try.ntmps11
    go_wp2_with fail
    refine (chLives_any _).mono ?_
    rintro e w1 ⟨rfl, hb1⟩
    go_wp2_with fail
    go_ret
    exact ⟨rfl, hb1⟩
  go_enter Try.func11, Try.ntmps11
  go_wp2_with fail
  refine (mnew_yes 2 T 0 _ (by omega) (by omega) (by omega) (by omega) (by omega) (by omega)).mono ?_
  rintro e w1 ⟨o, oc, g, gb, gr, rfl, hM, hB, ho, hoc, hg, hgb, hgr⟩
  generalize freshL 2 T 0 = L0 at hM
  generalize ((List.replicate 2 zb).set 0 eb) = bs0 at hM
  generalize (List.replicate T zo) = rs at hM
  go_wp2_with fail
  go_loopw [48] (fun i wr => ∃ k : Nat, k ≤ m ∧ i = .int .i64 k ∧ ∃ L bs, Below w.heap.size w wr ∧ MemAt wr o oc g gb gr 2 T L bs rs) (fun i _ => m - (intOf i).toNat)
  case atStart => exact ⟨0, Nat.zero_le _, rfl, L0, bs0, hB, hM⟩
  case round =>
    clear hM hB
    obtain ⟨k, hk, rfl, L, bs, hB, hM⟩ := hrel
    by_cases hlt : k < m
    · obtain ⟨b, off, rfl, hbl, hc⟩ := (hA.below hB).cell k hlt
      have hlt' : (k : Int) < (m : Int) := by omega
      have c0 : wr.cell? ⟨b, off + k * 3, none⟩ = some (.int .u8 (F k 0)) := hc 0 (by omega)
      have c1 : wr.cell? ⟨b, off + k * 3 + 1, none⟩ = some (.int .u8 (F k 1)) := hc 1 (by omega)
      have c2 : wr.cell? ⟨b, off + k * 3 + 2, none⟩ = some (.int .u64 (F k 2)) := hc 2 (by omega)
      have h0 := Lift.u8_range (hA.wf k 0 hlt (by omega))
      have h1 := Lift.u8_range (hA.wf k 1 hlt (by omega))
      have h2 := Lift.u64_range (hA.wf k 2 hlt (by omega))
      clear hc
      have hb2 : Below wr.heap.size wr (wr.alloc (.cells #[.int .u8 (F k 0), .int .u8 (F k 1), .int .u64 (F k 2)] 100)) := by (repeat (first | exact Below.refl _ _ | assumption | refine below_alloc2 ?_ (by first | exact Nat.le_refl _ | omega) _ | refine Below.drew ?_ | refine below_drewN ?_ _ | refine below_push2 ?_ ‹_› (by first | exact Nat.le_refl _ | omega) | refine Below.setCell ?_ (by first | (simp; done) | (simp; omega) | omega) _))
      go_wp2_with fail
      refine (write_any (F k 0) (F k 1) (F k 2) _ (hM.below hb2) h0 h1 h2.1 h2.2).mono ?_
      rintro e w3 ⟨rfl, ⟨bs', hM3⟩, hF⟩
      have hB3 := hF.below (below_push2 hB hb2 (Nat.le_refl _)) (Nat.le_refl _) (by simp; omega)
      go_wp2_with fail
      go_roundw
      case rel => exact ⟨k + 1, by omega, by go_num, _, _, hB3, hM3⟩
      case measure => simp [intOf]; omega
    · obtain rfl : k = m := by omega
      clear hlt hbig hlen hA
      go_wp2_with fail
      refine (chNew_any _ _).mono ?_
      rintro e w4 ⟨rfl, rfl⟩
      have R0 := Rd.start hB hM
      generalize wr.alloc _ = w4 at R0
      generalize wr.heap.size = base at R0
      clear hM hB
      go_wp2_with fail
      refine (chCost_any _ _).mono ?_
      rw [if_pos (by omega)]
      rintro e w5 ⟨rfl, rfl⟩
      go_wp2_with fail
      go_loopw [60] (fun i wr => ∃ k : Nat, ∃ s a c, k ≤ 4 * T ∧ i = .int .i64 k ∧ (k ≤ 4 * s.th + s.at_ ∨ s.th = T) ∧ Rd w base o oc g gb gr 2 T L bs rs base s a c wr) (fun i _ => 4 * T - (intOf i).toNat)
      case atStart => exact ⟨0, cs0, none, 0, Nat.zero_le _, rfl, .inl (Nat.zero_le _), R0⟩
      case round =>
        clear R0
        obtain ⟨k, s, a, c, hk, rfl, hpr, R⟩ := hrel
        have hth := R.gd.th
        have hat := R.gd.at_
        by_cases hlt : k < 4 * T
        · have hlt' : (k : Int) < 4 * (T : Int) := by omega
          by_cases hTs : s.th < T
          · have hT := hTs
            go_wp2_with fail
            refine (chNext_any _ R.m.m R.c hT).mono ?_
            rintro e w2 ⟨rfl, hb2⟩
            have R3 := (R.under hb2).under ((Below.refl _ w2).alloc (Nat.le_refl _) (.cells (accZ 1 (s.cell 2 T) 0 0) 39))
            have BA := Blk.new w2 (accZ 1 (s.cell 2 T) 0 0) 39
            generalize hW : w2.alloc (.cells (accZ 1 (s.cell 2 T) 0 0) 39) = w3 at R3 BA
            replace hW := Lib.hid hW
            clear R hb2
            go_wp2_with (first
              | (refine wpList_store_row rfl 39 _ _ rfl _ _ rfl rfl 39 _ (Blk.new w2 _ _).h (by kernel_rfl) (by rfl) (by kernel_rfl) ?_; rw [World.setRow_alloc_new, hW.out])
              | (refine wpList_load_row rfl 39 _ rfl w2.heap.size rfl 39 _ (0, 0) _ BA.h Try.underlying39 rfl (by kernel_rfl) ?_))
            refine (do_load (s.cell 2 T) 0 0 _ _ _ _ _ _ _ _ _ _ _ _ _ _ _ _ _ _ _ _ _ _ _ R3.m.m).mono ?_
            rintro e w4 ⟨rfl, hb4⟩
            have R4 := R3.under hb4
            clear R3 BA hb4 hW
            have hr := load_rng R4.m.m.cells.rng (s.cell 2 T)
            go_wp2_with fail
            refine (tell_any _ _ _ _ R4.m.m R4.c hT hT16 hr.1.1 hr.1.2 hr.2.1 hr.2.2 R4.hs).mono ?_
            rintro e w5 ⟨⟨a', c', rfl, hC5⟩, hB5⟩
            have R5 := R4.told hT hC5 hB5
            have hnx := R4.gd.next hT
            clear R4 hC5 hB5 hr
            go_wp2_with fail
            go_roundw
            case rel => exact ⟨k + 1, _, _, _, by omega, by go_num, by have := hnx.2.2; omega, R5⟩
            case measure => simp [intOf]; omega
          · have hT : T ≤ s.th := by omega
            go_wp2_with fail
            refine (chNext_over _ R.m.m R.c hT).mono ?_
            rintro e w2 ⟨rfl, hb2⟩
            have R3 := (R.under hb2).under ((Below.refl _ w2).alloc (Nat.le_refl _) (.cells (accZ 0 0 0 0) 39))
            generalize hW : w2.alloc (.cells (accZ 0 0 0 0) 39) = w3 at R3
            replace hW := Lib.hid hW
            clear R hb2
            go_wp2_with (refine wpList_store_row rfl 39 _ _ rfl _ _ rfl rfl 39 _ (Blk.new w2 _ _).h (by kernel_rfl) (by rfl) (by kernel_rfl) ?_; rw [World.setRow_alloc_new, hW.out])
            go_roundw
            case rel => exact ⟨k + 1, s, a, c, by omega, by go_num, .inr (by omega), R3⟩
            case measure => simp [intOf]; omega
        · have hge : 4 * (T : Int) ≤ (k : Int) := by omega
          have hthT : s.th = T := by omega
          have hcs := R.gd.cs
          rw [hthT] at hcs
          have M0 := R.m
          have C0 := R.c
          have hB0 := R.b
          have hlow := R.h0
          clear R hpr hlt hth hat hk
          go_wp2_with fail
          clear hge
          go_loopw [12, 13, 75] (fun u12 u13 i wr => ∃ k : Nat, ∃ b p : Int, k ≤ T ∧ i = .int .i64 k ∧ u12 = .int .i64 b ∧ u13 = .int .u64 p ∧ BestAt L 2 T k b p ∧ Below w.heap.size w wr ∧ MemB wr base o oc g gb gr 2 T L bs rs ∧ ChAt wr base o base s a c) (fun _ _ i _ => T - (intOf i).toNat)
          case atStart => exact ⟨0, -1, 0, Nat.zero_le _, rfl, rfl, rfl, BestAt.zero _ _ _, hB0, M0, C0⟩
          case round =>
            clear M0 C0 hB0
            obtain ⟨k, b, p, hk, rfl, rfl, rfl, hbest, hB, M, C⟩ := hrel
            by_cases hlt : k < T
            · have hlt' : (k : Int) < (T : Int) := by omega
              go_wp2_with fail
              refine (announce_any k _ M.m (by omega) (by omega)).mono ?_
              rintro e wx ⟨rfl, hbx⟩
              replace M := M.under hbx
              replace C := C.under hbx
              replace hB := below_push2 hB hbx (Nat.le_refl _)
              clear hbx
              go_wp2_with fail
              refine (mload_any _ _ M.m).mono ?_
              rintro e wx ⟨rfl, hbx⟩
              replace M := M.under hbx
              replace C := C.under hbx
              replace hB := below_push2 hB hbx (Nat.le_refl _)
              clear hbx
              go_wp2_with fail
              refine (done_any k _ M.m (by omega) (by omega)).mono ?_
              rintro e wx ⟨rfl, hbx⟩
              replace M := M.under hbx
              replace C := C.under hbx
              replace hB := below_push2 hB hbx (Nat.le_refl _)
              clear hbx
              go_wp2_with fail
              refine (mload_any _ _ M.m).mono ?_
              rintro e wx ⟨rfl, hbx⟩
              replace M := M.under hbx
              replace C := C.under hbx
              replace hB := below_push2 hB hbx (Nat.le_refl _)
              clear hbx
              go_wp2_with fail
              refine (phase_any k _ M.m (by omega) (by omega)).mono ?_
              rintro e wx ⟨rfl, hbx⟩
              replace M := M.under hbx
              replace C := C.under hbx
              replace hB := below_push2 hB hbx (Nat.le_refl _)
              clear hbx
              go_wp2_with fail
              refine (mload_any _ _ M.m).mono ?_
              rintro e wx ⟨rfl, hbx⟩
              replace M := M.under hbx
              replace C := C.under hbx
              replace hB := below_push2 hB hbx (Nat.le_refl _)
              clear hbx
              have hr4 := (load_rng M.m.cells.rng (atI 2 T 4 k)).1
              by_cases ha : loadW L (atI 2 T 2 k) = 0
              · have q1 : (loadW L (atI 2 T 2 k) != 0) = false := by simpa using ha
                have hb' := hbest.not (fun z => z.1 ha)
                clear ha
                go_wp2_with fail
                go_roundw
                case rel => exact ⟨k + 1, _, _, by omega, by go_num, rfl, rfl, hb', hB, M, C⟩
                case measure => simp [intOf]; omega
              · have q1 : (loadW L (atI 2 T 2 k) != 0) = true := by simpa using ha
                by_cases hd : loadW L (atI 2 T 3 k) = 0
                · have q2 : (loadW L (atI 2 T 3 k) == 0) = true := by simpa using hd
                  by_cases hbn : b < 0
                  · have q3 : decide (b < 0) = true := by simpa using hbn
                    have hb' := hbest.take ⟨ha, hd⟩ (.inl hbn) hr4
                    clear ha hd hbn
                    go_wp2_with fail
                    go_roundw
                    case rel => exact ⟨k + 1, _, _, by omega, by go_num, rfl, rfl, hb', hB, M, C⟩
                    case measure => simp [intOf]; omega
                  · have q3 : decide (b < 0) = false := by simpa using hbn
                    by_cases hp : loadW L (atI 2 T 4 k) < p
                    · have q4 : decide (loadW L (atI 2 T 4 k) < p) = true := by simpa using hp
                      have hb' := hbest.take ⟨ha, hd⟩ (.inr hp) hr4
                      clear ha hd hbn hp
                      go_wp2_with fail
                      go_roundw
                      case rel => exact ⟨k + 1, _, _, by omega, by go_num, rfl, rfl, hb', hB, M, C⟩
                      case measure => simp [intOf]; omega
                    · have q4 : decide (loadW L (atI 2 T 4 k) < p) = false := by simpa using hp
                      have hb' := hbest.leave ⟨ha, hd⟩ (fun z => by rcases z with z | z; exact hbn z; exact hp z)
                      clear ha hd hbn hp
                      go_wp2_with fail
                      go_roundw
                      case rel => exact ⟨k + 1, _, _, by omega, by go_num, rfl, rfl, hb', hB, M, C⟩
                      case measure => simp [intOf]; omega
                · have q2 : (loadW L (atI 2 T 3 k) == 0) = false := by simpa using hd
                  have hb' := hbest.not (fun z => hd z.2)
                  clear ha hd
                  go_wp2_with fail
                  go_roundw
                  case rel => exact ⟨k + 1, _, _, by omega, by go_num, rfl, rfl, hb', hB, M, C⟩
                  case measure => simp [intOf]; omega
            · obtain rfl : k = T := by omega
              have hfst := hbest.first
              have hloB := hbest.lo
              clear hbest hlt
              go_wp2_with fail
              refine (chThread_over _ M.m C (by omega)).mono ?_
              rw [hcs, hfst.1]
              rintro e w6 ⟨rfl, hb6⟩
              have hB6 := below_push2 hB hb6 (Nat.le_refl _)
              clear M C hB hb6 hcs
              have hfb := hfst.2
              clear hfst
              generalize firstT (candsTo L 2 k k) = ft at hfb ⊢
              by_cases hb0 : 0 ≤ b
              · obtain rfl : ft = b := hfb hb0
                have q0 : decide (0 ≤ ft) = true := by simpa using hb0
                rw [q0]
                clear hfb hb0
                go_wp2_with fail
                have hB7 := below_alloc2 hB6 (Nat.le_refl _) (.cells #[.pointer none, .int .i64 0, .int .i64 0, .int .u64 0, .int .u64 0, .int .u64 0, .slice none 0 0] 115)
                have N7 := zero_task w6
                generalize w6.alloc (.cells #[.pointer none, .int .i64 0, .int .i64 0, .int .u64 0, .int .u64 0, .int .u64 0, .slice none 0 0] 115) = w7 at hB7 N7 ⊢
                clear hB6
                refine (chTell_none none false 0 0 _ (.inl rfl)).mono ?_
                rintro e w8 ⟨rfl, hb8⟩
                have N8 := N7.below hb8
                have hB8 := below_push2 hB7 hb8 (Nat.le_refl _)
                clear hB7 N7 hb8
                go_wp2_with fail
                refine (chTell_none _ false 0 0 _ N8).mono ?_
                rintro e w9 ⟨rfl, hb9⟩
                have N9 := N8.below hb9
                have hB9 := below_push2 hB8 hb9 (Nat.le_refl _)
                clear hB8 N8 hb9
                go_wp2_with fail
                refine (chNext_none none _ (.inl rfl)).mono ?_
                rintro e w10 ⟨rfl, hb10⟩
                have N10 := (N9.below hb10).below ((Below.refl _ w10).alloc (Nat.le_refl _) (.cells (accZ 0 0 0 0) 39))
                have hB10 := below_alloc2 (below_push2 hB9 hb10 (Nat.le_refl _)) (Nat.le_refl _) (.cells (accZ 0 0 0 0) 39)
                generalize hW : w10.alloc (.cells (accZ 0 0 0 0) 39) = w11 at N10 hB10
                replace hW := Lib.hid hW
                clear hB9 N9 hb10
                go_wp2_with (refine wpList_store_row rfl 39 _ _ rfl _ _ rfl rfl 39 _ (Blk.new w10 _ _).h (by kernel_rfl) (by rfl) (by kernel_rfl) ?_; rw [World.setRow_alloc_new, hW.out])
                refine (chThread_none _ _ N10).mono ?_
                rintro e w12 ⟨rfl, hb12⟩
                have hB12 := below_push2 hB10 hb12 (Nat.le_refl _)
                clear hB10 N10 hb12 hW
                go_wp2_with fail
                refine (chNew_any none _).mono ?_
                rintro e w13 ⟨rfl, rfl⟩
                have N13 := zero_task w12
                have hB13 := below_alloc2 hB12 (Nat.le_refl _) (.cells #[.pointer none, .int .i64 0, .int .i64 0, .int .u64 0, .int .u64 0, .int .u64 0, .slice none 0 0] 115)
                generalize w12.alloc (.cells #[.pointer none, .int .i64 0, .int .i64 0, .int .u64 0, .int .u64 0, .int .u64 0, .slice none 0 0] 115) = w13 at hB13 N13 ⊢
                clear hB12
                go_wp2_with fail
                refine (chNext_none _ _ N13).mono ?_
                rintro e w14 ⟨rfl, hb14⟩
                have hB14 := below_alloc2 (below_push2 hB13 hb14 (Nat.le_refl _)) (Nat.le_refl _) (.cells (accZ 0 0 0 0) 39)
                generalize hW : w14.alloc (.cells (accZ 0 0 0 0) 39) = w15 at hB14
                replace hW := Lib.hid hW
                clear hB13 N13 hb14
                go_wp2_with (refine wpList_store_row rfl 39 _ _ rfl _ _ rfl rfl 39 _ (Blk.new w14 _ _).h (by kernel_rfl) (by rfl) (by kernel_rfl) ?_; rw [World.setRow_alloc_new, hW.out])
                clear hW
                refine (chCost_any _ _).mono ?_
                rw [if_neg (by omega)]
                rintro e w16 ⟨rfl, rfl⟩
                go_wp2_with fail
                refine (chCost_any _ _).mono ?_
                rw [if_neg (by omega)]
                rintro e w16 ⟨rfl, rfl⟩
                go_wp2_with fail
                refine (chLives_any _).mono ?_
                rintro e w17 ⟨rfl, hb17⟩
                go_wp2_with fail
                go_ret
                exact ⟨rfl, below_push2 hB14 hb17 (Nat.le_refl _)⟩
              · have q0 : decide (0 ≤ b) = false := by simpa using hb0
                rw [q0]
                clear hfb hb0
                go_wp2_with fail
                have hB7 := below_alloc2 hB6 (Nat.le_refl _) (.cells #[.pointer none, .int .i64 0, .int .i64 0, .int .u64 0, .int .u64 0, .int .u64 0, .slice none 0 0] 115)
                have N7 := zero_task w6
                generalize w6.alloc (.cells #[.pointer none, .int .i64 0, .int .i64 0, .int .u64 0, .int .u64 0, .int .u64 0, .slice none 0 0] 115) = w7 at hB7 N7 ⊢
                clear hB6
                refine (chTell_none none false 0 0 _ (.inl rfl)).mono ?_
                rintro e w8 ⟨rfl, hb8⟩
                have N8 := N7.below hb8
                have hB8 := below_push2 hB7 hb8 (Nat.le_refl _)
                clear hB7 N7 hb8
                go_wp2_with fail
                refine (chTell_none _ false 0 0 _ N8).mono ?_
                rintro e w9 ⟨rfl, hb9⟩
                have N9 := N8.below hb9
                have hB9 := below_push2 hB8 hb9 (Nat.le_refl _)
                clear hB8 N8 hb9
                go_wp2_with fail
                refine (chNext_none none _ (.inl rfl)).mono ?_
                rintro e w10 ⟨rfl, hb10⟩
                have N10 := (N9.below hb10).below ((Below.refl _ w10).alloc (Nat.le_refl _) (.cells (accZ 0 0 0 0) 39))
                have hB10 := below_alloc2 (below_push2 hB9 hb10 (Nat.le_refl _)) (Nat.le_refl _) (.cells (accZ 0 0 0 0) 39)
                generalize hW : w10.alloc (.cells (accZ 0 0 0 0) 39) = w11 at N10 hB10
                replace hW := Lib.hid hW
                clear hB9 N9 hb10
                go_wp2_with (refine wpList_store_row rfl 39 _ _ rfl _ _ rfl rfl 39 _ (Blk.new w10 _ _).h (by kernel_rfl) (by rfl) (by kernel_rfl) ?_; rw [World.setRow_alloc_new, hW.out])
                refine (chThread_none _ _ N10).mono ?_
                rintro e w12 ⟨rfl, hb12⟩
                have hB12 := below_push2 hB10 hb12 (Nat.le_refl _)
                clear hB10 N10 hb12 hW
                go_wp2_with fail
                refine (chNew_any none _).mono ?_
                rintro e w13 ⟨rfl, rfl⟩
                have N13 := zero_task w12
                have hB13 := below_alloc2 hB12 (Nat.le_refl _) (.cells #[.pointer none, .int .i64 0, .int .i64 0, .int .u64 0, .int .u64 0, .int .u64 0, .slice none 0 0] 115)
                generalize w12.alloc (.cells #[.pointer none, .int .i64 0, .int .i64 0, .int .u64 0, .int .u64 0, .int .u64 0, .slice none 0 0] 115) = w13 at hB13 N13 ⊢
                clear hB12
                go_wp2_with fail
                refine (chNext_none _ _ N13).mono ?_
                rintro e w14 ⟨rfl, hb14⟩
                have hB14 := below_alloc2 (below_push2 hB13 hb14 (Nat.le_refl _)) (Nat.le_refl _) (.cells (accZ 0 0 0 0) 39)
                generalize hW : w14.alloc (.cells (accZ 0 0 0 0) 39) = w15 at hB14
                replace hW := Lib.hid hW
                clear hB13 N13 hb14
                go_wp2_with (refine wpList_store_row rfl 39 _ _ rfl _ _ rfl rfl 39 _ (Blk.new w14 _ _).h (by kernel_rfl) (by rfl) (by kernel_rfl) ?_; rw [World.setRow_alloc_new, hW.out])
                clear hW
                refine (chCost_any _ _).mono ?_
                rw [if_neg (by omega)]
                rintro e w16 ⟨rfl, rfl⟩
                go_wp2_with fail
                refine (chCost_any _ _).mono ?_
                rw [if_neg (by omega)]
                rintro e w16 ⟨rfl, rfl⟩
                go_wp2_with fail
                refine (chLives_any _).mono ?_
                rintro e w17 ⟨rfl, hb17⟩
                go_wp2_with fail
                go_ret
                exact ⟨rfl, below_push2 hB14 hb17 (Nat.le_refl _)⟩

set_option maxRecDepth 100000 in
theorem contract (H : Type) (enc : TypeId × Value → H) (W : World) (base : Nat) (args : Array Value) (ds : List (DataW H)) (p : List MemPlace)
    (hval : ∀ (j : Nat) t v, Try.f11.params[j]? = some t → args[j]? = some v → Value.okWide Try.prog W .any base t v)
    (hA : DataW.TrodAll enc Try.prog W 0 (fun _ => true) true Try.f11.params.toList args.toList ds p) :
    Calls Try.prog 11 args W fun e W' => e = .returned (.bool true) ∧ Below W.heap.size W W' := by
  rw [Try.params11] at hA hval
  obtain ⟨v0, vs0, d0, ds0, p0, q0, hargs, rfl, rfl, h0, r0⟩ := trodAll_cons hA
  obtain ⟨v1, vs1, d1, ds1, p1, q1, rfl, rfl, rfl, h1, r1⟩ := trodAll_cons r0
  obtain ⟨rfl, rfl, rfl⟩ := trodAll_nil r1
  obtain rfl : args = #[v0, v1] := by cases args; simp_all
  obtain ⟨a0, rfl, w0⟩ := Lift.int_of Try.underlying5 (hval 0 5 v0 rfl rfl) h0
  obtain ⟨a, n, c, F, rfl, _, hN⟩ := Open.nums_of wrK Try.underlying98 Try.underlying100 (by kernel_rfl) (by kernel_rfl) (by decide) (by
    intro j f hj
    rcases j with _ | _ | _ | j
    · cases hj; exact Try.underlying5
    · cases hj; exact Try.underlying5
    · cases hj; exact Try.underlying22
    · simp at hj) (hval 1 98 v1 rfl rfl) h1
  have b0 := Lift.u8_range w0
  exact walk a0 a c n F W b0.1 b0.2 hN

/-! THE ROW's STEP -/
set_option maxRecDepth 100000 in
theorem lifted (os : Os) (started : os.Started) (H : Type) (enc : TypeId × Value → H) :
    ReturnsInHanded {} Try.checked os 11 .any (Rows.chooseFirstSpec.pre6 enc Try.prog Try.f11 Rows.chooseFirstRow.domain false) (Rows.chooseFirstSpec.post enc Try.prog Try.f11 false true false false) := by
  refine returnsInHanded_of_change (C := Try.checked) Lift.own started (by kernel_rfl) Try.func11
    (ChangeSpec.witness6 (enc := enc) (C := Try.checked) false ⟨#[], #[.int .u8 0, .slice none 0 0], []⟩ 8 (by kernel_rfl) (by kernel_rfl) (by kernel_rfl) (by kernel_rfl)) ?_
  intro W base args ds gs before hval0 hW hcnd _
  have hval : ∀ (j : Nat) t v, Try.f11.params[j]? = some t → args[j]? = some v → Value.okWide Try.prog W .any base t v := hval0
  have hW' := hW
  obtain ⟨p, q, hA0, hV, rfl, hfz, hnd⟩ := hW
  have hA : DataW.TrodAll enc Try.prog W 0 (fun _ => true) true Try.f11.params.toList args.toList ds p := hA0
  have hlen : ds.length = 2 := by
    have hl := Lift.trodAll_len _ _ _ _ hA
    rw [Try.params11] at hl
    simpa using hl
  have hall := fun W' (hb : Below W.heap.size W W') => Lift.trodAll_below Lift.laidOut hb Try.f11.params.toList args.toList ds p (by kernel_rfl) hA
  obtain ⟨rfl, rfl⟩ := trodVars_none hV
  refine (contract H enc W base args ds p hval hA).mono fun e W' ⟨he, bel⟩ => ?_
  subst he
  have hspec : (Rows.chooseFirstSpec.fn H (ds ++ [])).results = [.lit (.bool true)] ∧ (Rows.chooseFirstSpec.fn H (ds ++ [])).args = ds ∧ (Rows.chooseFirstSpec.fn H (ds ++ [])).vars = [] := by
    match ds, hlen with
    | [d1, d2], _ => exact ⟨rfl, rfl, rfl⟩
  exact ⟨_, rfl, _, _, _, [], _, [], hW', by rw [hspec.1]; exact trodAll_mk1 (shut_bool Try.underlying4 _), by rw [hspec.2.1]; exact hall W' bel, by rw [hspec.2.2]; rfl, bel.frame _, fun h => by cases h⟩

theorem over : Rows.chooseFirstRow.holds Try.pinned (OpenSpec.ofChange Rows.chooseFirstSpec) :=
  OpenClaim.holds_of_wide 11 Try.f11 rfl rfl rfl rfl rfl rfl rfl ⟨rfl, rfl, rfl, rfl, rfl⟩ rfl rfl rfl rfl rfl (by kernel_rfl) Try.func11 (by kernel_rfl)
    (of_decide_eq_true (by kernel_rfl)) (by unfold Func.isWrapper; first | (rw [if_pos (by decide +kernel)]; kernel_rfl) | (rw [if_neg (by decide +kernel)]; exact ⟨rfl, rfl⟩))
    (fun os started H enc _ => lifted os started H enc)

theorem proved : Rows.ChooseFirstSaid := over
#print axioms proved
end Go.Proofs.Ytpmlbdnhgeeaoaa.chooseFirst
