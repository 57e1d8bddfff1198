/-
  RetireKeeps: whatever others write into hazards meanwhile, no word that one hazard names all the while is freed, and none is freed twice; and all that was retired is freed, or in the list. For every ask and all writes; no condition.
-/
import Derived.Test.YtchkiacmiljopaaLift
import Derived.Test.YtchkiacmiljopaaRetKW
namespace Go.Proofs.Ytchkiacmiljopaa.retireKeeps
open Go.ChangeShapes Go.WideShapes Go.ChangeAt Go.RowKit RefP CellP HazP MemP Dp
set_option linter.unusedVariables false
set_option linter.unusedSimpArgs false

set_option maxRecDepth 100000 in
set_option maxHeartbeats 12800000 in
theorem walk (x : AskV) (ua : Option Addr) (us : List Int) (uc : Nat) (w : World) (hx : AskAt w x) (BU : Open.Ints .u16 w ua us) : Calls Try.prog 3 #[.agg x.cells, .slice ua us.length uc] w fun e w' => e = .returned (.bool true) ∧ Below w.heap.size w w' := by
  have hb0 : Below w.heap.size w (w.alloc (.cells x.cells 24)) := by (repeat (first | exact Below.refl _ _ | assumption | refine below_alloc2 ?_ (by first | exact Nat.le_refl _ | omega) _ | refine Below.drew ?_ | refine below_drewN ?_ _ | refine below_push2 ?_ ‹_› (by first | exact Nat.le_refl _ | omega) | refine Below.setCell ?_ (by first | (simp; done) | (simp; omega) | omega) _))
  have BX := Blk.new w x.cells 24
  have hUl := BU.len
  go_enter Try.func3, Try.ntmps3
  go_upto_region 1 with (fail)
  generalize w.alloc (.cells x.cells 24) = w1 at hb0 BX ⊢
  have b0 : w1.cell? ⟨w.heap.size, 0, none⟩ = some (.int .u8 x.t) := BX.at 0 rfl
  have b1 : w1.cell? ⟨w.heap.size, 1, none⟩ = some (.int .u8 x.r) := BX.at 1 rfl
  have b2 : w1.cell? ⟨w.heap.size, 2, none⟩ = some (.slice x.wa x.ws.length x.wc) := BX.at 2 rfl
  have b3 : w1.cell? ⟨w.heap.size, 3, none⟩ = some (.slice x.na x.ns.length x.nc) := BX.at 3 rfl
  by_cases h60 : 60 < x.ws.length
  · have q1 : decide ((60 : Int) < (x.ws.length : Int)) = true := by simp; omega
    clear h60
    go_wp2_with fail
    refine (rtLives_any _).mono ?_
    rintro e w2 ⟨rfl, hb2⟩
    go_wp2_with fail
    go_ret
    exact ⟨rfl, below_push2 hb0 hb2 (Nat.le_refl _)⟩
  have q1 : decide ((60 : Int) < (x.ws.length : Int)) = false := by simp; omega
  by_cases hn0 : x.ns.length = 0
  · have q2 : ((x.ns.length : Int) == 0) = true := by simpa using hn0
    clear h60 hn0
    go_wp2_with fail
    refine (rtLives_any _).mono ?_
    rintro e w2 ⟨rfl, hb2⟩
    go_wp2_with fail
    go_ret
    exact ⟨rfl, below_push2 hb0 hb2 (Nat.le_refl _)⟩
  have q2 : ((x.ns.length : Int) == 0) = false := by simpa using hn0
  by_cases h2000 : 2000 < us.length
  · have q3 : decide ((2000 : Int) < (us.length : Int)) = true := by simp; omega
    clear h60 hn0 h2000
    go_wp2_with fail
    refine (rtLives_any _).mono ?_
    rintro e w2 ⟨rfl, hb2⟩
    go_wp2_with fail
    go_ret
    exact ⟨rfl, below_push2 hb0 hb2 (Nat.le_refl _)⟩
  have q3 : decide ((2000 : Int) < (us.length : Int)) = false := by simp; omega
  obtain ⟨T, hT⟩ : ∃ T : Nat, (T : Int) = x.t % 4 + 1 := ⟨(x.t % 4 + 1).toNat, by have := hx.t; omega⟩
  have hT4 : 1 ≤ T ∧ T ≤ 4 := by have := hx.t; omega
  obtain ⟨r, hr⟩ : ∃ r : Int, r = 2 * (T : Int) + (x.r % 6 + 1) := ⟨_, rfl⟩
  have hxr := hx.r
  have hst := rtStart_any x T r w1 (hx.below hb0) hT hr
  have hr1 : 2 * (T : Int) + 1 ≤ r ∧ r ≤ 14 := by omega
  have hns0 : 0 < x.ns.length := by omega
  clear hT hr hn0
  go_wp2_with fail
  refine hst.mono ?_
  rintro e w2 ⟨base, o, oc, g, gb, gr, L, bs, rs, lo, wa, wc, W, na, nc, nm, rfl, S⟩
  have hB2 := below_push2 hb0 S.b (Nat.le_refl _)
  have hnm0 := S.n0 hns0
  have hW60 : W.length ≤ 60 := Nat.le_trans S.wl (by omega)
  have hgd : ∀ x ∈ W, GoodW 60 x := fun x hx => (S.pk x hx).good (by omega)
  have hwb := hb0.size
  clear hst b0 b1 b2 b3 BX q1 q2 q3 hns0
  have hnew := rtNew_any (o := o) (A := 60) wa wc W w2 S.l S.hW (by omega) hgd (by simp) S.ge.2.2.2
  go_wp2_with fail
  refine hnew.mono ?_
  rintro e w3 ⟨rfl, R3, hb3⟩
  clear hnew
  obtain ⟨p0, hp0⟩ : ∃ p0, p0 = at0 nm 0 := ⟨_, rfl⟩
  have hpk0 : Pk 60 p0 := by rw [hp0]; exact S.npk _ (at0_mem nm 0 hnm0)
  have hz0 : loadW L (120 + 3 * T) = p0 := by
    have := S.hL.hz 0 (by omega)
    rw [hp0, ← this]
    simp
  obtain ⟨d0, hd0⟩ : ∃ d0 : RA, d0 = ⟨some ⟨w2.heap.size, 0, none⟩, W.length, none, 0, none, 0, none, 0⟩ := ⟨_, rfl⟩
  rw [← hd0] at R3
  have K0 : Kr w3 base o oc g gb gr T L bs rs (w2.heap.size + 1) lo r d0 d0 ⟨W, 0, 0, [], [], []⟩ none 0 [] w3 :=
    ⟨S.m.under hb3, R3, OwnR.nil _ _ _ _ _ _, Fr.refl _ _, fun b h => .inl h, by simp [blkS], by have := hb3.size; have := S.ge; omega⟩
  have V0 : Kv T r W p0 ⟨W, 0, 0, [], [], []⟩ L [] [] 0 := by
    refine ⟨Kp.fresh, rfl, ?_, S.hL.len, hz0⟩
    have h1 : W.length * (2 * T) ≤ 60 * 8 := Nat.mul_le_mul hW60 (by omega)
    simp [pot]; omega
  have hB3 := below_push2 hB2 hb3 (Nat.le_refl _)
  have hfrom : ∀ b ∈ g :: gb :: allB (w2.heap.size + 1) lo d0, w.heap.size ≤ b := fun b hb => by
    simp only [List.mem_cons] at hb
    have hge := S.ge
    rcases hb with e | e | e
    · omega
    · omega
    · have := R3.all_ge b e; omega
  have hrT : ((2 * T : Nat) : Int) < r := by omega
  have hN3 := S.hN.below hb3
  have hnot : ∀ b ∈ blkS na, b ∉ g :: gb :: allB (w2.heap.size + 1) lo d0 := fun b hb hm => by
    have h1 := S.far.2 b hb
    have h2 := S.m.lo
    have h3 := S.l.head.lt
    rw [hd0] at hm
    simp only [allB, ownB, blkS, List.mem_cons, List.mem_append, List.not_mem_nil, or_false, false_or] at hm
    rcases hm with e | e | (e | e) | e <;> omega
  replace hp0 := Lib.hid hp0
  replace hd0 := Lib.hid hd0
  generalize htt : w2.heap.size + 1 = t at K0 hfrom R3 hnot ⊢
  replace htt := Lib.hid htt
  clear hz0 hb3 hB2
  go_wp2_with fail
  go_loopg [10, 51] 3000 (fun gg u10 i wr => ∃ k s L fw fl af cf d bs, k ≤ 3000 ∧ 3000 ≤ k + gg ∧ u10 = .slice af (fl : List Int).length cf ∧ i = .int .i64 (k : Nat) ∧ Kv T r W p0 s L fw fl k ∧ Kr w3 base o oc g gb gr T L bs rs t lo r d0 d s af cf fl wr)
  case atStart => exact ⟨0, _, L, [], [], none, 0, d0, bs, by omega, by omega, rfl, rfl, V0, K0⟩
  case round =>
    clear V0 K0 R3
    obtain ⟨k, s, L, fw, fl, af, cf, d, bs, hk, hkg, rfl, rfl, V, K⟩ := hrel
    have hlt : k < 3000 := by have := V.pot; omega
    have hlt' : (k : Int) < 3000 := by omega
    have V4 := V.nrm hT4.1 hrT S.nd
    have ho4 := nrm_out4 (r := r) hT4.1 V.k.fit.st
    have hg4 : GoodAll 60 (nrm T r 4 s) := nrm_good 4 K.R.good
    have hfl60 : fl.length ≤ 60 := Nat.le_trans V.len hW60
    have hBw : Below w.heap.size w wr := K.fr.below hB3 (Nat.le_refl _) hfrom
    clear V
    generalize h4 : nrm T r 4 s = s4 at *
    replace h4 := Lib.hid h4
    obtain ⟨W4, st, a, nm4, fr4, l4⟩ := s4
    have hst4 := V4.k.fit.st
    simp only at hst4
    have h012 : st = 0 ∨ st = 1 ∨ st = 2 := by omega
    rcases h012 with rfl | rfl | rfl
    · -- the end
      have ha : accS 60 T ⟨W4, 0, a, nm4, fr4, l4⟩ = (0, 0, 0, 0) := rfl
      have hov := V4.k.over rfl ho4
      simp only at hov
      have hfl := V4.fl
      have hsub : ∀ x ∈ fw, x ∈ W := fun x hx => V4.k.perm.subset (by simp [hx])
      have hfn : fw.Nodup := (List.nodup_append.1 ((V4.k.perm.nodup_iff).2 S.nd)).1
      have hp0f := V4.k.fw
      have hlen : fl.length = fw.length := by rw [hfl]; simp [placeL]
      have hne : ∀ i j, i < fl.length → j < i → at0 fl j ≠ at0 fl i := fun i j hi hj => by
        rw [hfl]; exact placeL_ne S.nd S.pk hsub hfn i j (by omega) hj
      have hnp : ∀ i, i < fl.length → at0 fl i ≠ 60 + openP p0 := fun i hi => by
        rw [hfl]; exact placeL_not S.pk hsub hpk0 hp0f i (by omega)
      have hov1 : fl.length + l4.length ≤ W.length ∧ W.length ≤ fl.length + l4.length := by omega
      replace hne := Lib.hid hne
      replace hnp := Lib.hid hnp
      clear hov hfl hsub hfn hp0f hlen V4
      go_wp2_with fail
      refine (rtNext_to wr K.m K.R K.le h4.out ha false rfl).mono ?_
      rintro e w4 ⟨d4, rfl, X4, M4⟩
      have K5 := (K.told X4 M4).under ((Below.refl _ w4).alloc (Nat.le_refl _) (.cells (accY 0 0 0 0) 50))
      generalize hW5 : w4.alloc (.cells (accY 0 0 0 0) 50) = w5 at K5
      replace hW5 := Lib.hid hW5
      clear K X4 M4
      go_wp2_with (refine wpList_store_row rfl 50 _ _ rfl _ _ rfl rfl 50 _ (Blk.new w4 _ _).h (by kernel_rfl) (by rfl) (by kernel_rfl) ?_; rw [World.setRow_alloc_new, hW5.out])
      clear hW5
      refine (rtNext_to w5 K5.m K5.R K5.le (nrm_out ho4) ha false rfl).mono ?_
      rintro e w6 ⟨d6, rfl, X6, M6⟩
      have K7 := (K5.told X6 M6).under ((Below.refl _ w6).alloc (Nat.le_refl _) (.cells (accY 0 0 0 0) 50))
      generalize hW7 : w6.alloc (.cells (accY 0 0 0 0) 50) = w7 at K7
      replace hW7 := Lib.hid hW7
      clear K5 X6 M6
      have hll : l4.length ≤ 60 := by omega
      have hwl := words_any w7 lo r d6.la d6.lc l4 K7.R.list.head K7.R.list.words (by omega)
      have hwr : IntKind.i64.wrap ((fl.length : Int) + (l4.length : Int)) = (fl.length : Int) + (l4.length : Int) := by rw [IntKind.wrap_i64]; omega
      have hqe : (((fl.length : Int) + (l4.length : Int)) != (W.length : Int)) = false := by simp; omega
      go_wp2_with (refine wpList_store_row rfl 50 _ _ rfl _ _ rfl rfl 50 _ (Blk.new w6 _ _).h (by kernel_rfl) (by rfl) (by kernel_rfl) ?_; rw [World.setRow_alloc_new, hW7.out])
      clear hW7
      refine hwl.mono ?_
      rintro e w8 ⟨a8, c8, rfl, O8, hb8⟩
      have K8 := K7.under hb8
      clear hwl O8
      have hN8 : U64s w8 na nm := U64s.heap hN3 K8.fr.size (fun b hb hl => K8.fr.block b hl (hnot b hb))
      have hB8 : Below w.heap.size w w8 := K8.fr.below hB3 (Nat.le_refl _) hfrom
      obtain ⟨nb, noff, rfl, hnbl, hnc⟩ := hN8.cell 0 hnm0
      rw [← hp0.out, Nat.add_zero] at hnc
      obtain ⟨p, hp60, hpe⟩ := hpk0
      have hop := Pk.open (N := 60) (by omega) hp60
      rw [← hpe] at hop
      have hdo := dopen_any p0 w8 (by rw [hpe]; exact packI_lo _ _) (by rw [hpe]; exact packI_hi _ _)
      rw [hop.1, hop.2.1] at hdo
      rw [hop.2.1] at hnp
      have F8 := K8.F
      have M8 := K8.m.m
      clear K7 hb8 hN3 hnot hpe hop K8 hN8
      have hcf : fl.length ≤ cf := OwnI.cap_le F8
      go_wp2_with fail
      refine hdo.mono ?_
      rintro e w9 ⟨rfl, rfl⟩
      clear hdo hnc
      go_wp2_with fail
      go_loopg [134] (fl.length) (fun gg u134 wq => ∃ i : Nat, i ≤ fl.length ∧ fl.length ≤ i + gg ∧ u134 = .int .i64 i ∧ Below w8.heap.size w8 wq)
      case atStart => exact ⟨0, Nat.zero_le _, by omega, rfl, Below.refl _ _⟩
      case round =>
        obtain ⟨i, hi, hig, rfl, hbi⟩ := hrel
        by_cases hil : i < fl.length
        · have hil' : (i : Int) < (fl.length : Int) := by omega
          obtain ⟨fb, foff, rfl, hfb, hall⟩ := rowI (OwnR.below F8 hbi) (by omega)
          have hci := hall i hil
          have hnp1 := hnp.out i hil
          have q1 : (at0 fl i == 60 + (p : Int)) = false := by simpa using hnp1
          have hcf0 : ¬ cf = 0 := by omega
          have hic : i ≤ cf := by omega
          have hic' : (i : Int) ≤ (cf : Int) := by omega
          replace hall := Lib.hid hall
          clear hnp1
          go_wp2_with fail
          refine (muse_any (p : Int) _ (M8.below hbi) (by omega) (by omega)).mono ?_
          rw [use_at (A := 60) (T := T) hp60]
          rintro e w10 ⟨rfl, hb10⟩
          go_wp2_with fail
          obtain ⟨wo, rfl⟩ : ∃ wo : World, wo = wr := ⟨_, rfl⟩
          go_loopg [148] i (fun gg u148 wz => ∃ j : Nat, j ≤ i ∧ i ≤ j + gg ∧ u148 = .int .i64 j ∧ wz = w10)
          case atStart => exact ⟨0, Nat.zero_le _, by omega, rfl, rfl⟩
          case round =>
            obtain ⟨j, hj, hjg, rfl, rfl⟩ := hrel
            by_cases hji : j < i
            · have hji' : (j : Int) < (i : Int) := by omega
              have hcj := hall.out j (by omega)
              have hq2 := hne.out i j hil hji
              rw [← hb10.cell (p := ⟨fb, foff + j, none⟩) hfb] at hcj
              have q2 : (at0 fl j == at0 fl i) = false := by simpa using hq2
              clear hq2
              go_wp2_with fail
              go_roundg (i - (j + 1))
              case measure => omega
              case rel => exact ⟨j + 1, by omega, by omega, by go_num, rfl⟩
            · obtain rfl : j = i := by omega
              go_wp2_with fail
              go_roundg (fl.length - (j + 1))
              case measure => omega
              case rel => exact ⟨j + 1, by omega, by omega, by go_num, below_push2 hbi hb10 (Nat.le_refl _)⟩
        · obtain rfl : i = fl.length := by omega
          go_wp2_with fail
          refine (rtLives_any _).mono ?_
          rintro e w14 ⟨rfl, hb14⟩
          go_wp2_with fail
          go_ret
          exact ⟨rfl, below_push2 (below_push2 hB8 hbi (Nat.le_refl _)) hb14 (Nat.le_refl _)⟩
    · have ha : accS 60 T ⟨W4, 1, a, nm4, fr4, l4⟩ = (1, hazI 60 T ((a : Int) / 2) ((a : Int) % 2), 0, 0) := rfl
      have VL := V4.load ho4
      have hat := V4.k.fit.at' rfl
      simp only at hat
      have hnm4 : nm4.length < 1000 ∧ a < 1000 := by omega
      generalize hazI 60 T ((a : Int) / 2) ((a : Int) % 2) = ad at ha VL
      go_wp2_with fail
      refine (rtNext_to wr K.m K.R K.le h4.out ha true rfl).mono ?_
      rintro e w4 ⟨d4, rfl, X4, M4⟩
      have K5 := (K.told X4 M4).under ((Below.refl _ w4).alloc (Nat.le_refl _) (.cells (accY 1 ad 0 0) 50))
      have BA := Blk.new w4 (accY 1 ad 0 0) 50
      generalize hW5 : w4.alloc (.cells (accY 1 ad 0 0) 50) = w5 at K5 BA
      replace hW5 := Lib.hid hW5
      have a0 : w5.cell? ⟨w4.heap.size, 0, none⟩ = some (.int .i64 1) := BA.at 0 rfl
      clear K X4 M4
      go_wp2_with (first
        | (refine wpList_store_row rfl 50 _ _ rfl _ _ rfl rfl 50 _ (Blk.new w4 _ _).h (by kernel_rfl) (by rfl) (by kernel_rfl) ?_; rw [World.setRow_alloc_new, hW5.out])
        | (refine wpList_load_row rfl 50 _ rfl w4.heap.size rfl 50 _ (0, 0) _ BA.h Try.underlying50 rfl (by kernel_rfl) ?_))
      clear hW5 BA a0
      have hr5 := load_rng K5.m.m.cells.rng ad
      refine (do_load ad 0 0 _ _ _ _ _ _ _ _ _ _ _ _ _ _ _ _ _ _ _ _ _ _ _ K5.m.m).mono ?_
      rintro e w6 ⟨rfl, hb6⟩
      have K6 := K5.under hb6
      clear K5 hb6
      go_wp2_with fail
      refine (rtTell_any w6 K6.m K6.R K6.le ho4 (inB L.length ad) (loadW L ad) (loadV L ad) hr5.1 (fun _ => ⟨hat.2, hnm4.2⟩)).mono ?_
      rintro e w7 ⟨d7, rfl, X7, M7⟩
      have K7 := K6.told X7 M7
      clear K6 X7 M7 hr5
      go_upto_region 14 with (fail)
      have hB7 : Below w.heap.size w w7 := K7.fr.below hB3 (Nat.le_refl _) hfrom
      by_cases hw : k < us.length
      · have qw : decide ((k : Int) < (us.length : Int)) = true := by simp; omega
        have hw' : (k : Int) < (us.length : Int) := by omega
        obtain ⟨ub, uoff, rfl, hubl, hu⟩ := (BU.below hB7).cell k hw
        have hur := Lift.u16_range (BU.wf _ (at0_mem us k hw))
        generalize at0 us k = u at hu hur
        obtain ⟨j, hj⟩ : ∃ j : Nat, u % (2 * (T : Int)) = (j : Int) := ⟨(u % (2 * (T : Int))).toNat, by have := Int.emod_nonneg u (show 2 * (T : Int) ≠ 0 by omega); omega⟩
        have hj2 : j < 2 * T := by have := Int.emod_lt_of_pos u (show 0 < 2 * (T : Int) by omega); omega
        have hjt : u.tmod (2 * (T : Int)) = (j : Int) := by rw [Int.tmod_eq_emod_of_nonneg hur.1]; exact hj
        have hT0 : ¬ (2 * (T : Int) = 0) := by omega
        have hwu : IntKind.i64.wrap u = u := by rw [IntKind.wrap_i64]; omega
        have hwT : IntKind.i64.wrap (2 * (T : Int)) = 2 * (T : Int) := by rw [IntKind.wrap_i64]; omega
        have hwj : IntKind.i64.wrap (j : Int) = (j : Int) := by rw [IntKind.wrap_i64]; omega
        go_upto_region 15 with (fail)
        go_quiet (exact Calls.quiet_of_same ((threads_any _ (K7.m.m.drewN _)).flip))
        have hbq := below_drewN (Below.refl w7.heap.size w7) nq
        have K8 := K7.under hbq
        have hu8 : (w7.drewN nq).cell? ⟨ub, uoff + k, none⟩ = some (.int .u16 u) := by rw [hbq.cell hubl]; exact hu
        have hub8 := Nat.lt_of_lt_of_le hubl hbq.size
        generalize w7.drewN nq = w8 at K8 hu8 hub8 ⊢
        clear hbq K7 hu hubl hB7 hj hjt hT0 hwu hwT hwj qw
        by_cases hj0 : j = 0
        · subst hj0
          go_wp2_with fail
          go_roundg (3000 - (k + 1))
          case measure => omega
          case rel => exact ⟨k + 1, _, _, _, _, _, _, _, _, by omega, by omega, rfl, by go_num, VL, K8⟩
        · have qj : decide ((0 : Int) < (j : Int)) = true := by simp; omega
          have hj1 : 0 < j := by omega
          have hj1' : (0 : Int) < (j : Int) := by omega
          obtain ⟨q, hq⟩ : ∃ q : Nat, (u / 64) % 60 = (q : Int) := ⟨((u / 64) % 60).toNat, by omega⟩
          have V9 := Kv.write VL j ⟨by omega, hj2⟩ (packI (q : Int) 1)
          have hqt : (u / 64).tmod 60 = (q : Int) := by rw [Int.tmod_eq_emod_of_nonneg (by omega)]; exact hq
          have hudt : u.tdiv 64 = u / 64 := Int.tdiv_eq_ediv_of_nonneg hur.1
          have hjdt : (j : Int).tdiv 2 = (j : Int) / 2 := Int.tdiv_eq_ediv_of_nonneg (by omega)
          have hjmt : (j : Int).tmod 2 = (j : Int) % 2 := Int.tmod_eq_emod_of_nonneg (by omega)
          have hw1 : IntKind.u16.wrap (u / 64) = u / 64 := by rw [IntKind.wrap_u16]; omega
          have hw2 : IntKind.i64.wrap (u / 64) = u / 64 := by rw [IntKind.wrap_i64]; omega
          have hw3 : IntKind.i64.wrap (q : Int) = (q : Int) := by rw [IntKind.wrap_i64]; omega
          have hw4 : IntKind.i64.wrap ((j : Int) / 2) = (j : Int) / 2 := by rw [IntKind.wrap_i64]; omega
          have hw5 : IntKind.i64.wrap ((j : Int) % 2) = (j : Int) % 2 := by rw [IntKind.wrap_i64]; omega
          have M8 := K8.m.m.below (Below.refl _ w8).drew
          have hhz := haz_any ((j : Int) / 2) ((j : Int) % 2) _ M8
          rw [show hazI 60 T ((j : Int) / 2) ((j : Int) % 2) = 120 + 3 * (T : Int) + (j : Int) by rw [haz_at hj2]; omega] at hhz
          clear hj0
          go_upto_region 17 with (fail)
          refine wp_region_held_drew (S := fun w' => w'.cell? ⟨ub, uoff + k, none⟩ = some (.int .u16 u)) (by kernel_rfl) ?_ (fun hHeld => ?_)
          · exact hu8
          refine wpAnyH_take (i := 0) (oi := ⟨_, _, _, _, _, _⟩) (v := ?_) rfl (by kernel_rfl) (by kernel_rfl) (by kernel_rfl) (fun _ _ _ h => h) (Or.inl ⟨by rfl, ?_⟩) (by assumption) ?_
          rotate_left
          · intro wS hSw
            try dsimp only at hSw
            go_simp
            try with_reducible rfl
          try simp only [Act.put, List.setIfInBounds_toArray, List.set_cons_zero, List.set_cons_succ]
          refine wpAnyH_take (i := 1) (oi := ⟨_, _, _, _, _, _⟩) (v := ?_) rfl (by kernel_rfl) (by kernel_rfl) (by kernel_rfl) (fun _ _ _ h => h) (Or.inl ⟨by rfl, ?_⟩) (by assumption) ?_
          rotate_left
          · intro wS hSw
            try dsimp only at hSw
            go_simp
            try with_reducible rfl
          try simp only [Act.put, List.setIfInBounds_toArray, List.set_cons_zero, List.set_cons_succ]
          refine wpAnyH_take (i := 2) (oi := ⟨_, _, _, _, _, _⟩) (v := ?_) rfl (by kernel_rfl) (by kernel_rfl) (by kernel_rfl) (fun _ _ _ h => h) (Or.inl ⟨by rfl, ?_⟩) (by assumption) ?_
          rotate_left
          · intro wS hSw
            try dsimp only at hSw
            go_simp
            try with_reducible rfl
          try simp only [Act.put, List.setIfInBounds_toArray, List.set_cons_zero, List.set_cons_succ]
          refine wpAnyH_take (i := 3) (oi := ⟨_, _, _, _, _, _⟩) (v := ?_) rfl (by kernel_rfl) (by kernel_rfl) (by kernel_rfl) (fun _ _ _ h => h) (Or.inl ⟨by rfl, ?_⟩) (by assumption) ?_
          rotate_left
          · intro wS hSw
            try dsimp only at hSw
            go_simp
            try with_reducible rfl
          try simp only [Act.put, List.setIfInBounds_toArray, List.set_cons_zero, List.set_cons_succ]
          refine wpAnyH_take (i := 4) (oi := ⟨_, _, _, _, _, _⟩) (v := ?_) rfl (by kernel_rfl) (by kernel_rfl) (by kernel_rfl) (fun _ _ _ h => h) (Or.inl ⟨by rfl, ?_⟩) (by assumption) ?_
          rotate_left
          · intro wS hSw
            try dsimp only at hSw
            go_simp
            try with_reducible rfl
          try simp only [Act.put, List.setIfInBounds_toArray, List.set_cons_zero, List.set_cons_succ]
          refine wpAnyH_take (i := 5) (oi := ⟨_, _, _, _, _, _⟩) (v := ?_) rfl (by kernel_rfl) (by kernel_rfl) (by kernel_rfl) (fun _ _ _ h => h) (Or.inl ⟨by rfl, ?_⟩) (by assumption) ?_
          rotate_left
          · intro wS hSw
            try dsimp only at hSw
            go_simp
            try with_reducible rfl
          try simp only [Act.put, List.setIfInBounds_toArray, List.set_cons_zero, List.set_cons_succ]
          refine wpAnyH_take (i := 7) (oi := ⟨_, _, _, _, _, _⟩) (v := ?_) rfl (by kernel_rfl) (by kernel_rfl) (by kernel_rfl) (fun _ _ _ h => h) (Or.inl ⟨by rfl, ?_⟩) (by assumption) ?_
          rotate_left
          · intro wS hSw
            try dsimp only at hSw
            go_simp
            try with_reducible rfl
          try simp only [Act.put, List.setIfInBounds_toArray, List.set_cons_zero, List.set_cons_succ]
          refine wpAnyH_take (i := 8) (oi := ⟨_, _, _, _, _, _⟩) (v := ?_) rfl (by kernel_rfl) (by kernel_rfl) (by kernel_rfl) (fun _ _ _ h => h) (Or.inl ⟨by rfl, ?_⟩) (by assumption) ?_
          rotate_left
          · intro wS hSw
            try dsimp only at hSw
            go_simp
            try with_reducible rfl
          try simp only [Act.put, List.setIfInBounds_toArray, List.set_cons_zero, List.set_cons_succ]
          refine wpAnyH_take (i := 9) (oi := ⟨_, _, _, _, _, _⟩) (v := ?_) rfl (by kernel_rfl) (by kernel_rfl) (by kernel_rfl) (fun _ _ _ h => h) (Or.inl ⟨by rfl, ?_⟩) (by assumption) ?_
          rotate_left
          · intro wS hSw
            try dsimp only at hSw
            go_simp
            try with_reducible rfl
          try simp only [Act.put, List.setIfInBounds_toArray, List.set_cons_zero, List.set_cons_succ]
          refine wpAnyH_take (i := 10) (oi := ⟨_, _, _, _, _, _⟩) (v := ?_) rfl (by kernel_rfl) (by kernel_rfl) (by kernel_rfl) (fun _ _ _ h => h) (Or.inl ⟨by rfl, ?_⟩) (by assumption) ?_
          rotate_left
          · intro wS hSw
            try dsimp only at hSw
            go_simp
            try with_reducible rfl
          try simp only [Act.put, List.setIfInBounds_toArray, List.set_cons_zero, List.set_cons_succ]
          refine wpAnyH_take (i := 11) (oi := ⟨_, _, _, _, _, _⟩) (v := ?_) rfl (by kernel_rfl) (by kernel_rfl) (by kernel_rfl) (fun _ _ _ h => h) (Or.inl ⟨by rfl, ?_⟩) (by assumption) ?_
          rotate_left
          · intro wS hSw
            try dsimp only at hSw
            go_simp
            try with_reducible rfl
          try simp only [Act.put, List.setIfInBounds_toArray, List.set_cons_zero, List.set_cons_succ]
          refine wpAnyH_take (i := 12) (oi := ⟨_, _, _, _, _, _⟩) (v := ?_) rfl (by kernel_rfl) (by kernel_rfl) (by kernel_rfl) (fun _ _ _ h => h) (Or.inl ⟨by rfl, ?_⟩) (by assumption) ?_
          rotate_left
          · intro wS hSw
            try dsimp only at hSw
            go_simp
            try with_reducible rfl
          try simp only [Act.put, List.setIfInBounds_toArray, List.set_cons_zero, List.set_cons_succ]
          refine wpAnyH_take (i := 13) (oi := ⟨_, _, _, _, _, _⟩) (v := ?_) rfl (by kernel_rfl) (by kernel_rfl) (by kernel_rfl) (fun _ _ _ h => h) (Or.inl ⟨by rfl, ?_⟩) (by assumption) ?_
          rotate_left
          · intro wS hSw
            try dsimp only at hSw
            go_simp
            try with_reducible rfl
          try simp only [Act.put, List.setIfInBounds_toArray, List.set_cons_zero, List.set_cons_succ]
          refine wpAnyH_ready (rs := [6]) (by kernel_rfl) (by simp) ?_
          refine AllReadyH.cons rfl (fun K hK => ?_) AllReadyH.nil
          go_simp
          refine hhz.mono ?_
          rintro e w9 ⟨rfl, hb9⟩
          have hbD := below_push2 (Below.refl _ w8).drew hb9 (Nat.le_refl _)
          have K9 := K8.under hbD
          have hu9 : w9.cell? ⟨ub, uoff + k, none⟩ = some (.int .u16 u) := by rw [hbD.cell hub8]; exact hu8
          have hub9 := Nat.lt_of_lt_of_le hub8 hbD.size
          refine hK.out _ _ hu9 (fun hHeld => ?_)
          clear hK K hhz
          refine wpAnyH_ready (rs := [14]) (by kernel_rfl) (by simp) ?_
          refine AllReadyH.cons rfl (fun K hK => ?_) AllReadyH.nil
          go_simp
          refine (dpack_any (q : Int) 1 _ (by omega) (by omega) (by omega) (by omega)).mono ?_
          rintro e wx ⟨rfl, rfl⟩
          refine hK.out _ _ hu9 (fun hHeld => ?_)
          clear hK K
          refine wpAnyH_take (i := 15) (oi := ⟨_, _, _, _, _, _⟩) (v := ?_) rfl (by kernel_rfl) (by kernel_rfl) (by kernel_rfl) (fun _ _ _ h => h) (Or.inl ⟨by rfl, ?_⟩) (by assumption) ?_
          rotate_left
          · intro wS hSw
            try dsimp only at hSw
            go_simp
            try with_reducible rfl
          try simp only [Act.put, List.setIfInBounds_toArray, List.set_cons_zero, List.set_cons_succ]
          refine wpAnyH_ready (rs := [16]) (by kernel_rfl) (by simp) ?_
          refine AllReadyH.cons rfl (fun K hK => ?_) AllReadyH.nil
          go_simp
          refine (do_store (120 + 3 * (T : Int) + (j : Int)) 0 (packI q 1) _ _ _ _ _ _ _ _ _ _ _ _ _ _ _ _ _ _ _ _ _ _ _ K9.m.m (packI_lo _ _) (packI_hi _ _)).mono ?_
          rintro e w10 ⟨rfl, hM10, hF10⟩
          have K10 := K9.did hM10 hF10
          have hu10 : w10.cell? ⟨ub, uoff + k, none⟩ = some (.int .u16 u) := by
            rw [World.cell?_of_block (hF10.block ub hub9 (by have := hfrom g (by simp); have := hfrom gb (by simp); have := (BU.cell k hw); obtain ⟨b', o', e', hb', _⟩ := this; simp only [Option.some.injEq, Addr.mk.injEq, and_true] at e'; simp; omega))]
            exact hu9
          refine hK.out _ _ hu10 (fun hHeld => ?_)
          clear hK K
          refine wpAnyH_done (by kernel_rfl) ?_ _
          go_wp2_with fail
          go_roundg (3000 - (k + 1))
          case measure => omega
          case rel => exact ⟨k + 1, _, _, _, _, _, _, _, _, by omega, by omega, rfl, by go_num, V9, K10⟩
      · have qw : ¬ (k : Int) < (us.length : Int) := by omega
        go_wp2_with fail
        go_roundg (3000 - (k + 1))
        case measure => omega
        case rel => exact ⟨k + 1, _, _, _, _, _, _, _, _, by omega, by omega, rfl, by go_num, VL, K7⟩
    · obtain ⟨y, fr4, rfl⟩ : ∃ y fr', fr4 = y :: fr' := by
        cases fr4 with
        | nil => simp [outB] at ho4
        | cons y fr' => exact ⟨y, fr', rfl⟩
      have hy := hg4.2.1 y (by simp)
      have ha : accS 60 T ⟨W4, 2, a, nm4, y :: fr4, l4⟩ = (2, 60 + openP y, 0, freedI y) := by
        rw [← use_good (T := T) hy]; rfl
      have VS := V4.store hy
      have hwd := freedI_rng y hy.1.1
      have hyp : 0 ≤ 60 + openP y ∧ 60 + openP y ≤ 120 := by have := hy.2.2; omega
      generalize freedI y = wd at ha VS hwd
      generalize 60 + openP y = ad at ha VS hyp
      go_wp2_with fail
      refine (rtNext_to wr K.m K.R K.le h4.out ha true rfl).mono ?_
      rintro e w4 ⟨d4, rfl, X4, M4⟩
      have hoq := fun q e => (OwnR.lt (K.told X4 M4).F q e).2
      have K5 := (K.told X4 M4).under ((Below.refl _ w4).alloc (Nat.le_refl _) (.cells (accY 2 ad 0 wd) 50))
      have BA := Blk.new w4 (accY 2 ad 0 wd) 50
      generalize hW5 : w4.alloc (.cells (accY 2 ad 0 wd) 50) = w5 at K5 BA
      replace hW5 := Lib.hid hW5
      have a0 : w5.cell? ⟨w4.heap.size, 0, none⟩ = some (.int .i64 2) := BA.at 0 rfl
      have a1 : w5.cell? ⟨w4.heap.size, 1, none⟩ = some (.int .i64 ad) := BA.at 1 rfl
      clear K X4 M4
      have hbI : Below w5.heap.size w5 (w5.alloc (.cells #[.int .i64 ad] 3)) := (Below.refl _ w5).alloc (Nat.le_refl _) _
      obtain ⟨gq, cq, w55, KA⟩ := addInt w3.heap.size (K5.under hbI).F ad (Blk.new w5 #[.int .i64 ad] 3) (by omega) (K5.under hbI).fr.size
      have hrun := Lib.hid KA.run
      have K55 := K5.added hbI KA
      have BA6 := (BA.below hbI).grown KA.grown (fun e => by have := hoq _ e.symm; omega)
      clear hbI KA hoq K5
      go_wp2_with (first
        | (refine wpList_store_row rfl 50 _ _ rfl _ _ rfl rfl 50 _ (Blk.new w4 _ _).h (by kernel_rfl) (by rfl) (by kernel_rfl) ?_; rw [World.setRow_alloc_new, hW5.out])
        | (at_builtin; refine wpList_append_run hrun.out rfl (by rfl) (by rfl) (by rfl) ?_)
        | (refine wpList_load_row rfl 50 _ rfl w4.heap.size rfl 50 _ (0, 0) _ BA6.h Try.underlying50 rfl (by kernel_rfl) ?_))
      clear hW5 BA a0 a1 BA6 hrun
      refine (do_store ad 0 wd _ _ _ _ _ _ _ _ _ _ _ _ _ _ _ _ _ _ _ _ _ _ _ K55.m.m hwd.1 hwd.2).mono ?_
      rintro e w6 ⟨rfl, hM6, hF6⟩
      have K6 := K55.did hM6 hF6
      clear K55 hM6 hF6
      go_wp2_with fail
      refine (rtTell_any w6 K6.m K6.R K6.le ho4 (inB L.length ad) 0 0 (by omega) (fun e => by simp at e)).mono ?_
      rintro e w7 ⟨d7, rfl, X7, M7⟩
      have K7 := K6.told X7 M7
      clear K6 X7 M7
      go_upto_region 14 with (fail)
      have hB7 : Below w.heap.size w w7 := K7.fr.below hB3 (Nat.le_refl _) hfrom
      by_cases hw : k < us.length
      · have qw : decide ((k : Int) < (us.length : Int)) = true := by simp; omega
        have hw' : (k : Int) < (us.length : Int) := by omega
        obtain ⟨ub, uoff, rfl, hubl, hu⟩ := (BU.below hB7).cell k hw
        have hur := Lift.u16_range (BU.wf _ (at0_mem us k hw))
        generalize at0 us k = u at hu hur
        obtain ⟨j, hj⟩ : ∃ j : Nat, u % (2 * (T : Int)) = (j : Int) := ⟨(u % (2 * (T : Int))).toNat, by have := Int.emod_nonneg u (show 2 * (T : Int) ≠ 0 by omega); omega⟩
        have hj2 : j < 2 * T := by have := Int.emod_lt_of_pos u (show 0 < 2 * (T : Int) by omega); omega
        have hjt : u.tmod (2 * (T : Int)) = (j : Int) := by rw [Int.tmod_eq_emod_of_nonneg hur.1]; exact hj
        have hT0 : ¬ (2 * (T : Int) = 0) := by omega
        have hwu : IntKind.i64.wrap u = u := by rw [IntKind.wrap_i64]; omega
        have hwT : IntKind.i64.wrap (2 * (T : Int)) = 2 * (T : Int) := by rw [IntKind.wrap_i64]; omega
        have hwj : IntKind.i64.wrap (j : Int) = (j : Int) := by rw [IntKind.wrap_i64]; omega
        go_upto_region 15 with (fail)
        go_quiet (exact Calls.quiet_of_same ((threads_any _ (K7.m.m.drewN _)).flip))
        have hbq := below_drewN (Below.refl w7.heap.size w7) nq
        have K8 := K7.under hbq
        have hu8 : (w7.drewN nq).cell? ⟨ub, uoff + k, none⟩ = some (.int .u16 u) := by rw [hbq.cell hubl]; exact hu
        have hub8 := Nat.lt_of_lt_of_le hubl hbq.size
        generalize w7.drewN nq = w8 at K8 hu8 hub8 ⊢
        clear hbq K7 hu hubl hB7 hj hjt hT0 hwu hwT hwj qw
        by_cases hj0 : j = 0
        · subst hj0
          go_wp2_with fail
          go_roundg (3000 - (k + 1))
          case measure => omega
          case rel => exact ⟨k + 1, _, _, _, _, _, _, _, _, by omega, by omega, (by rw [List.length_append, List.length_singleton]), by go_num, VS, K8⟩
        · have qj : decide ((0 : Int) < (j : Int)) = true := by simp; omega
          have hj1 : 0 < j := by omega
          have hj1' : (0 : Int) < (j : Int) := by omega
          obtain ⟨q, hq⟩ : ∃ q : Nat, (u / 64) % 60 = (q : Int) := ⟨((u / 64) % 60).toNat, by omega⟩
          have V9 := Kv.write VS j ⟨by omega, hj2⟩ (packI (q : Int) 1)
          have hqt : (u / 64).tmod 60 = (q : Int) := by rw [Int.tmod_eq_emod_of_nonneg (by omega)]; exact hq
          have hudt : u.tdiv 64 = u / 64 := Int.tdiv_eq_ediv_of_nonneg hur.1
          have hjdt : (j : Int).tdiv 2 = (j : Int) / 2 := Int.tdiv_eq_ediv_of_nonneg (by omega)
          have hjmt : (j : Int).tmod 2 = (j : Int) % 2 := Int.tmod_eq_emod_of_nonneg (by omega)
          have hw1 : IntKind.u16.wrap (u / 64) = u / 64 := by rw [IntKind.wrap_u16]; omega
          have hw2 : IntKind.i64.wrap (u / 64) = u / 64 := by rw [IntKind.wrap_i64]; omega
          have hw3 : IntKind.i64.wrap (q : Int) = (q : Int) := by rw [IntKind.wrap_i64]; omega
          have hw4 : IntKind.i64.wrap ((j : Int) / 2) = (j : Int) / 2 := by rw [IntKind.wrap_i64]; omega
          have hw5 : IntKind.i64.wrap ((j : Int) % 2) = (j : Int) % 2 := by rw [IntKind.wrap_i64]; omega
          have M8 := K8.m.m.below (Below.refl _ w8).drew
          have hhz := haz_any ((j : Int) / 2) ((j : Int) % 2) _ M8
          rw [show hazI 60 T ((j : Int) / 2) ((j : Int) % 2) = 120 + 3 * (T : Int) + (j : Int) by rw [haz_at hj2]; omega] at hhz
          clear hj0
          go_upto_region 17 with (fail)
          refine wp_region_held_drew (S := fun w' => w'.cell? ⟨ub, uoff + k, none⟩ = some (.int .u16 u)) (by kernel_rfl) ?_ (fun hHeld => ?_)
          · exact hu8
          refine wpAnyH_take (i := 0) (oi := ⟨_, _, _, _, _, _⟩) (v := ?_) rfl (by kernel_rfl) (by kernel_rfl) (by kernel_rfl) (fun _ _ _ h => h) (Or.inl ⟨by rfl, ?_⟩) (by assumption) ?_
          rotate_left
          · intro wS hSw
            try dsimp only at hSw
            go_simp
            try with_reducible rfl
          try simp only [Act.put, List.setIfInBounds_toArray, List.set_cons_zero, List.set_cons_succ]
          refine wpAnyH_take (i := 1) (oi := ⟨_, _, _, _, _, _⟩) (v := ?_) rfl (by kernel_rfl) (by kernel_rfl) (by kernel_rfl) (fun _ _ _ h => h) (Or.inl ⟨by rfl, ?_⟩) (by assumption) ?_
          rotate_left
          · intro wS hSw
            try dsimp only at hSw
            go_simp
            try with_reducible rfl
          try simp only [Act.put, List.setIfInBounds_toArray, List.set_cons_zero, List.set_cons_succ]
          refine wpAnyH_take (i := 2) (oi := ⟨_, _, _, _, _, _⟩) (v := ?_) rfl (by kernel_rfl) (by kernel_rfl) (by kernel_rfl) (fun _ _ _ h => h) (Or.inl ⟨by rfl, ?_⟩) (by assumption) ?_
          rotate_left
          · intro wS hSw
            try dsimp only at hSw
            go_simp
            try with_reducible rfl
          try simp only [Act.put, List.setIfInBounds_toArray, List.set_cons_zero, List.set_cons_succ]
          refine wpAnyH_take (i := 3) (oi := ⟨_, _, _, _, _, _⟩) (v := ?_) rfl (by kernel_rfl) (by kernel_rfl) (by kernel_rfl) (fun _ _ _ h => h) (Or.inl ⟨by rfl, ?_⟩) (by assumption) ?_
          rotate_left
          · intro wS hSw
            try dsimp only at hSw
            go_simp
            try with_reducible rfl
          try simp only [Act.put, List.setIfInBounds_toArray, List.set_cons_zero, List.set_cons_succ]
          refine wpAnyH_take (i := 4) (oi := ⟨_, _, _, _, _, _⟩) (v := ?_) rfl (by kernel_rfl) (by kernel_rfl) (by kernel_rfl) (fun _ _ _ h => h) (Or.inl ⟨by rfl, ?_⟩) (by assumption) ?_
          rotate_left
          · intro wS hSw
            try dsimp only at hSw
            go_simp
            try with_reducible rfl
          try simp only [Act.put, List.setIfInBounds_toArray, List.set_cons_zero, List.set_cons_succ]
          refine wpAnyH_take (i := 5) (oi := ⟨_, _, _, _, _, _⟩) (v := ?_) rfl (by kernel_rfl) (by kernel_rfl) (by kernel_rfl) (fun _ _ _ h => h) (Or.inl ⟨by rfl, ?_⟩) (by assumption) ?_
          rotate_left
          · intro wS hSw
            try dsimp only at hSw
            go_simp
            try with_reducible rfl
          try simp only [Act.put, List.setIfInBounds_toArray, List.set_cons_zero, List.set_cons_succ]
          refine wpAnyH_take (i := 7) (oi := ⟨_, _, _, _, _, _⟩) (v := ?_) rfl (by kernel_rfl) (by kernel_rfl) (by kernel_rfl) (fun _ _ _ h => h) (Or.inl ⟨by rfl, ?_⟩) (by assumption) ?_
          rotate_left
          · intro wS hSw
            try dsimp only at hSw
            go_simp
            try with_reducible rfl
          try simp only [Act.put, List.setIfInBounds_toArray, List.set_cons_zero, List.set_cons_succ]
          refine wpAnyH_take (i := 8) (oi := ⟨_, _, _, _, _, _⟩) (v := ?_) rfl (by kernel_rfl) (by kernel_rfl) (by kernel_rfl) (fun _ _ _ h => h) (Or.inl ⟨by rfl, ?_⟩) (by assumption) ?_
          rotate_left
          · intro wS hSw
            try dsimp only at hSw
            go_simp
            try with_reducible rfl
          try simp only [Act.put, List.setIfInBounds_toArray, List.set_cons_zero, List.set_cons_succ]
          refine wpAnyH_take (i := 9) (oi := ⟨_, _, _, _, _, _⟩) (v := ?_) rfl (by kernel_rfl) (by kernel_rfl) (by kernel_rfl) (fun _ _ _ h => h) (Or.inl ⟨by rfl, ?_⟩) (by assumption) ?_
          rotate_left
          · intro wS hSw
            try dsimp only at hSw
            go_simp
            try with_reducible rfl
          try simp only [Act.put, List.setIfInBounds_toArray, List.set_cons_zero, List.set_cons_succ]
          refine wpAnyH_take (i := 10) (oi := ⟨_, _, _, _, _, _⟩) (v := ?_) rfl (by kernel_rfl) (by kernel_rfl) (by kernel_rfl) (fun _ _ _ h => h) (Or.inl ⟨by rfl, ?_⟩) (by assumption) ?_
          rotate_left
          · intro wS hSw
            try dsimp only at hSw
            go_simp
            try with_reducible rfl
          try simp only [Act.put, List.setIfInBounds_toArray, List.set_cons_zero, List.set_cons_succ]
          refine wpAnyH_take (i := 11) (oi := ⟨_, _, _, _, _, _⟩) (v := ?_) rfl (by kernel_rfl) (by kernel_rfl) (by kernel_rfl) (fun _ _ _ h => h) (Or.inl ⟨by rfl, ?_⟩) (by assumption) ?_
          rotate_left
          · intro wS hSw
            try dsimp only at hSw
            go_simp
            try with_reducible rfl
          try simp only [Act.put, List.setIfInBounds_toArray, List.set_cons_zero, List.set_cons_succ]
          refine wpAnyH_take (i := 12) (oi := ⟨_, _, _, _, _, _⟩) (v := ?_) rfl (by kernel_rfl) (by kernel_rfl) (by kernel_rfl) (fun _ _ _ h => h) (Or.inl ⟨by rfl, ?_⟩) (by assumption) ?_
          rotate_left
          · intro wS hSw
            try dsimp only at hSw
            go_simp
            try with_reducible rfl
          try simp only [Act.put, List.setIfInBounds_toArray, List.set_cons_zero, List.set_cons_succ]
          refine wpAnyH_take (i := 13) (oi := ⟨_, _, _, _, _, _⟩) (v := ?_) rfl (by kernel_rfl) (by kernel_rfl) (by kernel_rfl) (fun _ _ _ h => h) (Or.inl ⟨by rfl, ?_⟩) (by assumption) ?_
          rotate_left
          · intro wS hSw
            try dsimp only at hSw
            go_simp
            try with_reducible rfl
          try simp only [Act.put, List.setIfInBounds_toArray, List.set_cons_zero, List.set_cons_succ]
          refine wpAnyH_ready (rs := [6]) (by kernel_rfl) (by simp) ?_
          refine AllReadyH.cons rfl (fun K hK => ?_) AllReadyH.nil
          go_simp
          refine hhz.mono ?_
          rintro e w9 ⟨rfl, hb9⟩
          have hbD := below_push2 (Below.refl _ w8).drew hb9 (Nat.le_refl _)
          have K9 := K8.under hbD
          have hu9 : w9.cell? ⟨ub, uoff + k, none⟩ = some (.int .u16 u) := by rw [hbD.cell hub8]; exact hu8
          have hub9 := Nat.lt_of_lt_of_le hub8 hbD.size
          refine hK.out _ _ hu9 (fun hHeld => ?_)
          clear hK K hhz
          refine wpAnyH_ready (rs := [14]) (by kernel_rfl) (by simp) ?_
          refine AllReadyH.cons rfl (fun K hK => ?_) AllReadyH.nil
          go_simp
          refine (dpack_any (q : Int) 1 _ (by omega) (by omega) (by omega) (by omega)).mono ?_
          rintro e wx ⟨rfl, rfl⟩
          refine hK.out _ _ hu9 (fun hHeld => ?_)
          clear hK K
          refine wpAnyH_take (i := 15) (oi := ⟨_, _, _, _, _, _⟩) (v := ?_) rfl (by kernel_rfl) (by kernel_rfl) (by kernel_rfl) (fun _ _ _ h => h) (Or.inl ⟨by rfl, ?_⟩) (by assumption) ?_
          rotate_left
          · intro wS hSw
            try dsimp only at hSw
            go_simp
            try with_reducible rfl
          try simp only [Act.put, List.setIfInBounds_toArray, List.set_cons_zero, List.set_cons_succ]
          refine wpAnyH_ready (rs := [16]) (by kernel_rfl) (by simp) ?_
          refine AllReadyH.cons rfl (fun K hK => ?_) AllReadyH.nil
          go_simp
          refine (do_store (120 + 3 * (T : Int) + (j : Int)) 0 (packI q 1) _ _ _ _ _ _ _ _ _ _ _ _ _ _ _ _ _ _ _ _ _ _ _ K9.m.m (packI_lo _ _) (packI_hi _ _)).mono ?_
          rintro e w10 ⟨rfl, hM10, hF10⟩
          have K10 := K9.did hM10 hF10
          have hu10 : w10.cell? ⟨ub, uoff + k, none⟩ = some (.int .u16 u) := by
            rw [World.cell?_of_block (hF10.block ub hub9 (by have := hfrom g (by simp); have := hfrom gb (by simp); have := (BU.cell k hw); obtain ⟨b', o', e', hb', _⟩ := this; simp only [Option.some.injEq, Addr.mk.injEq, and_true] at e'; simp; omega))]
            exact hu9
          refine hK.out _ _ hu10 (fun hHeld => ?_)
          clear hK K
          refine wpAnyH_done (by kernel_rfl) ?_ _
          go_wp2_with fail
          go_roundg (3000 - (k + 1))
          case measure => omega
          case rel => exact ⟨k + 1, _, _, _, _, _, _, _, _, by omega, by omega, (by rw [List.length_append, List.length_singleton]), by go_num, V9, K10⟩
      · have qw : ¬ (k : Int) < (us.length : Int) := by omega
        go_wp2_with fail
        go_roundg (3000 - (k + 1))
        case measure => omega
        case rel => exact ⟨k + 1, _, _, _, _, _, _, _, _, by omega, by omega, (by rw [List.length_append, List.length_singleton]), by go_num, VS, K7⟩
set_option maxRecDepth 100000 in
theorem contract (H : Type) (enc : TypeId × Value → H) (W : World) (base : Nat) (args : Array Value) (ds : List (DataW H)) (p : List MemPlace)
    (hval : ∀ (j : Nat) t v, Try.f3.params[j]? = some t → args[j]? = some v → Value.okWide Try.prog W .any base t v)
    (hA : DataW.TrodAll enc Try.prog W 0 (fun _ => true) true Try.f3.params.toList args.toList ds p) :
    Calls Try.prog 3 args W fun e W' => e = .returned (.bool true) ∧ Below W.heap.size W W' := by
  rw [Try.params3] at hA hval
  obtain ⟨v0, vs0, d0, ds0, p0, q0, hargs, rfl, rfl, h0, r0⟩ := trodAll_cons hA
  obtain ⟨v1, vs1, d1, ds1, p1, q1, rfl, rfl, rfl, h1, r1⟩ := trodAll_cons r0
  obtain ⟨rfl, rfl, rfl⟩ := trodAll_nil r1
  obtain rfl : args = #[v0, v1] := by cases args; simp_all
  obtain ⟨x, rfl, hx⟩ := ask_of (hval 0 24 v0 rfl rfl) h0
  obtain ⟨a, us, c, rfl, hc, hN⟩ := Open.ints Try.underlying25 Try.underlying57 (by kernel_rfl) (hval 1 25 v1 rfl rfl) h1
  exact walk x a us c W hx hN

/-! THE ROW's STEP -/
set_option maxRecDepth 100000 in
theorem lifted (os : Os) (started : os.Started) (H : Type) (enc : TypeId × Value → H) :
    ReturnsInHanded {} Try.checked os 3 .any (Rows.retireKeepsSpec.pre6 enc Try.prog Try.f3 Rows.retireKeepsRow.domain false) (Rows.retireKeepsSpec.post enc Try.prog Try.f3 false true false false) := by
  refine returnsInHanded_of_change (C := Try.checked) Lift.own started (by kernel_rfl) Try.func3
    (ChangeSpec.witness6 (enc := enc) (C := Try.checked) false ⟨#[], #[.agg #[.int .u8 0, .int .u8 0, .slice none 0 0, .slice none 0 0], .slice none 0 0], []⟩ 8 (by kernel_rfl) (by kernel_rfl) (by kernel_rfl) (by kernel_rfl)) ?_
  intro W base args ds gs before hval0 hW hcnd _
  have hval : ∀ (j : Nat) t v, Try.f3.params[j]? = some t → args[j]? = some v → Value.okWide Try.prog W .any base t v := hval0
  have hW' := hW
  obtain ⟨p, q, hA0, hV, rfl, hfz, hnd⟩ := hW
  have hA : DataW.TrodAll enc Try.prog W 0 (fun _ => true) true Try.f3.params.toList args.toList ds p := hA0
  have hlen : ds.length = 2 := by
    have hl := Lift.trodAll_len _ _ _ _ hA
    rw [Try.params3] at hl
    simpa using hl
  have hall := fun W' (hb : Below W.heap.size W W') => Lift.trodAll_below Lift.laidOut hb Try.f3.params.toList args.toList ds p (by kernel_rfl) hA
  obtain ⟨rfl, rfl⟩ := trodVars_none hV
  refine (contract H enc W base args ds p hval hA).mono fun e W' ⟨he, bel⟩ => ?_
  subst he
  have hspec : (Rows.retireKeepsSpec.fn H (ds ++ [])).results = [.lit (.bool true)] ∧ (Rows.retireKeepsSpec.fn H (ds ++ [])).args = ds ∧ (Rows.retireKeepsSpec.fn H (ds ++ [])).vars = [] := by
    match ds, hlen with
    | [d1, d2], _ => exact ⟨rfl, rfl, rfl⟩
  exact ⟨_, rfl, _, _, _, [], _, [], hW', by rw [hspec.1]; exact trodAll_mk1 (shut_bool Try.underlying4 _), by rw [hspec.2.1]; exact hall W' bel, by rw [hspec.2.2]; rfl, bel.frame _, fun h => by cases h⟩

theorem over : Rows.retireKeepsRow.holds Try.pinned (OpenSpec.ofChange Rows.retireKeepsSpec) :=
  OpenClaim.holds_of_wide 3 Try.f3 rfl rfl rfl rfl rfl rfl rfl ⟨rfl, rfl, rfl, rfl, rfl⟩ rfl rfl rfl rfl rfl (by kernel_rfl) Try.func3 (by kernel_rfl)
    (of_decide_eq_true (by kernel_rfl)) (by unfold Func.isWrapper; first | (rw [if_pos (by decide +kernel)]; kernel_rfl) | (rw [if_neg (by decide +kernel)]; exact ⟨rfl, rfl⟩))
    (fun os started H enc _ => lifted os started H enc)

theorem proved : Rows.RetireKeepsSaid := over
#print axioms proved
end Go.Proofs.Ytchkiacmiljopaa.retireKeeps
