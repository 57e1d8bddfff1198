/-
  RetireSweeps: words that are retired go into the list, which is swept whenever it is full, and what hazards do not name is freed: the list, and all uses, are then as the document says. For every ask; no condition.
-/
import Derived.Test.YtchkiacmiljopaaLift
import Derived.Test.YtchkiacmiljopaaRetSW
namespace Go.Proofs.Ytchkiacmiljopaa.retireSweeps
open Go.ChangeShapes Go.WideShapes Go.ChangeAt Go.RowKit RefP CellP HazP MemP Dp
set_option linter.unusedVariables false
set_option linter.unusedSimpArgs false
/-- the document's own loop: the list and what is freed, in rows of their own -/
structure Lw (w1 : World) (tot rest : List Int × List Int × Nat) (k m T : Nat) (aw : Option Addr) (cw : Nat) (lw : List Int) (af : Option Addr) (cf : Nat) (fr : List Int) (wr : World) : Prop where
  b : Below w1.heap.size w1 wr
  O : OwnsU wr w1.heap.size aw cw lw
  F : OwnsU wr w1.heap.size af cf fr
  ne : ∀ q ∈ blkS aw, q ∉ blkS af
  n : ∃ n, m = n * (2 * T) ∧ tot = (rest.1, fr ++ rest.2.1, n + rest.2.2)
  len : lw.length + fr.length ≤ k
theorem Lw.under {w1 : World} {tot rest : List Int × List Int × Nat} {k m T : Nat} {aw : Option Addr} {cw : Nat} {lw : List Int} {af : Option Addr} {cf : Nat} {fr : List Int} {wr : World} (h : Lw w1 tot rest k m T aw cw lw af cf fr wr) {wx : World} (hb : Below wr.heap.size wr wx) : Lw w1 tot rest k m T aw cw lw af cf fr wx :=
  ⟨below_push2 h.b hb (Nat.le_refl _), h.O.below hb, h.F.below hb, h.ne, h.n, h.len⟩
theorem Lw.one {w1 : World} {tot rest : List Int × List Int × Nat} {k m T : Nat} {aw : Option Addr} {cw : Nat} {lw : List Int} {af : Option Addr} {cf : Nat} {fr : List Int} {wr : World} (h : Lw w1 tot rest k m T aw cw lw af cf fr wr) {y : Int} {v : Value} {g cap : Nat} {wA : World} (KA : AddedU (wr.alloc (.cells #[.int .u64 y] 35)) w1.heap.size aw cw lw v 1 (lw ++ [y]) g cap wA) : Lw w1 tot rest (k + 1) m T (some ⟨g, 0, none⟩) cap (lw ++ [y]) af cf fr wA := by
  have hb : Below wr.heap.size wr (wr.alloc (.cells #[.int .u64 y] 35)) := (Below.refl _ wr).alloc (Nat.le_refl _) _
  have H := h.under hb
  have F : Fr (blkS aw) (wr.alloc (.cells #[.int .u64 y] 35)) wA := Fr.of_grown KA.grown (fun q e => blkS_own e)
  have hge : ∀ q ∈ blkS aw, w1.heap.size ≤ q := fun q hq => (h.O.lt q (own_blkS hq)).1
  refine ⟨F.below H.b (Nat.le_refl _) hge, KA.own, OwnsU.heap H.F fun q hq => F.block q (H.F.lt q hq).2 (fun k => h.ne q k (blkS_own hq)), fun q hq => ?_, h.n, by have := h.len; rw [List.length_append, List.length_singleton]; omega⟩
  obtain rfl : q = g := by simpa [blkS] using hq
  rcases KA.at' with k | k
  · exact h.ne q (blkS_own k)
  · intro e
    have := (h.F.lt q (own_blkS e)).2
    rw [k] at this
    simp at this
    omega
theorem drop_at0 {W : List Int} {k : Nat} (h : k < W.length) : W.drop k = at0 W k :: W.drop (k + 1) := by
  rw [List.drop_eq_getElem_cons h, at0_of W k h]
theorem sweep_no {r : Int} {nm W lw : List Int} {k : Nat} (h : k < W.length) (hf : ¬ r ≤ (lw.length : Int)) : sweepF r nm (W.drop k) lw = sweepF r nm (W.drop (k + 1)) (lw ++ [at0 W k]) := by
  rw [drop_at0 h]; exact if_neg hf
theorem sweep_yes {r : Int} {nm W lw : List Int} {k : Nat} (h : k < W.length) (hf : r ≤ (lw.length : Int)) : sweepF r nm (W.drop k) lw = ((sweepF r nm (W.drop (k + 1)) (siftL lw nm true ++ [at0 W k])).1, siftL lw nm false ++ (sweepF r nm (W.drop (k + 1)) (siftL lw nm true ++ [at0 W k])).2.1, (sweepF r nm (W.drop (k + 1)) (siftL lw nm true ++ [at0 W k])).2.2 + 1) := by
  rw [drop_at0 h]; exact if_pos hf
/-- swept: the list is in a new row, what is freed behind what was -/
theorem Lw.sweep {w1 : World} {tot rest : List Int × List Int × Nat} {k m T : Nat} {aw : Option Addr} {cw : Nat} {lw : List Int} {af : Option Addr} {cf : Nat} {fr : List Int} {wr : World} (h : Lw w1 tot rest k m T aw cw lw af cf fr wr) {rest' : List Int × List Int × Nat} {K F : List Int} (hr : rest = (rest'.1, F ++ rest'.2.1, rest'.2.2 + 1)) {w5 w7 w8 : World} {a1 a2 : Option Addr} {c1 c2 : Nat} {v1 v2 : Value} {m1 m2 : Nat} (hlen : K.length + F.length = lw.length)
    (hb5 : Below wr.heap.size wr w5) (A1 : AddAny (w5.alloc (.cells #[] 35)) w1.heap.size (some ⟨w5.heap.size, 0, none⟩) 0 [] v1 m1 ([] ++ K) a1 c1 w7) (A2 : AddAny w7 w1.heap.size af cf fr v2 m2 (fr ++ F) a2 c2 w8) : Lw w1 tot rest' k (m + 2 * T) T a1 c1 K a2 c2 (fr ++ F) w8 := by
  have hb6 : Below w5.heap.size w5 (w5.alloc (.cells #[] 35)) := (Below.refl _ w5).alloc (Nat.le_refl _) _
  have H5 := h.under hb5
  have H6 := H5.under hb6
  have hs5 := H5.b.size
  have hs6 : (w5.alloc (.cells #[] 35)).heap.size = w5.heap.size + 1 := by simp
  have hge1 : ∀ q ∈ blkS (some (⟨w5.heap.size, 0, none⟩ : Addr)), w1.heap.size ≤ q := fun q hq => by
    obtain rfl : q = w5.heap.size := by simpa [blkS] using hq
    omega
  have hF5 : ∀ q ∈ blkS af, q < w5.heap.size := fun q hq => (H5.F.lt q (own_blkS hq)).2
  have F7 : OwnsU w7 w1.heap.size af cf fr := OwnsU.heap H6.F fun q hq => A1.fr.block q (H6.F.lt q hq).2 (fun hk => by
    obtain rfl : q = w5.heap.size := by simpa [blkS] using hk
    have := hF5 _ (blkS_own hq)
    omega)
  have hs7 := A1.fr.size
  have hge2 : ∀ q ∈ blkS af, w1.heap.size ≤ q := fun q hq => (h.F.lt q (own_blkS hq)).1
  have ha1 : ∀ q ∈ blkS a1, w5.heap.size ≤ q ∧ q < w7.heap.size := fun q hq => by
    refine ⟨?_, (A1.own.lt q (own_blkS hq)).2⟩
    rcases A1.at' q hq with k | k
    · obtain rfl : q = w5.heap.size := by simpa [blkS] using k
      omega
    · omega
  obtain ⟨n, h1, h3⟩ := h.n
  refine ⟨A2.fr.below (A1.fr.below H6.b (Nat.le_refl _) hge1) (Nat.le_refl _) hge2, OwnsU.heap (by simpa using A1.own) fun q hq => A2.fr.block q (by simpa using (ha1 q (blkS_own hq)).2) (fun k => by have := hF5 q k; have := (ha1 q (blkS_own hq)).1; omega), A2.own, fun q hq => ?_, ⟨n + 1, by rw [h1, Nat.add_mul, Nat.one_mul], ?_⟩, by have := h.len; rw [List.length_append]; omega⟩
  · intro hk
    have := ha1 q hq
    rcases A2.at' q hk with k | k
    · have := hF5 q k; omega
    · omega
  · rw [h3, hr]
    simp only [List.append_assoc, Prod.mk.injEq, true_and]
    omega
set_option maxRecDepth 100000 in
set_option maxHeartbeats 12800000 in
theorem walk (x : AskV) (w : World) (hx : AskAt w x) : Calls Try.prog 4 #[.agg x.cells] w fun e w' => e = .returned (.bool true) ∧ Below w.heap.size w w' := by
  have hb0 : Below w.heap.size w (w.alloc (.cells x.cells 24)) := by (repeat (first | exact Below.refl _ _ | assumption | refine below_alloc2 ?_ (by first | exact Nat.le_refl _ | omega) _ | refine Below.drew ?_ | refine below_drewN ?_ _ | refine below_push2 ?_ ‹_› (by first | exact Nat.le_refl _ | omega) | refine Below.setCell ?_ (by first | (simp; done) | (simp; omega) | omega) _))
  have BX := Blk.new w x.cells 24
  go_enter Try.func4, Try.ntmps4
  go_upto_region 1 with (fail)
  generalize w.alloc (.cells x.cells 24) = w1 at hb0 BX ⊢
  have b0 : w1.cell? ⟨w.heap.size, 0, none⟩ = some (.int .u8 x.t) := BX.at 0 rfl
  have b1 : w1.cell? ⟨w.heap.size, 1, none⟩ = some (.int .u8 x.r) := BX.at 1 rfl
  have b2 : w1.cell? ⟨w.heap.size, 2, none⟩ = some (.slice x.wa x.ws.length x.wc) := BX.at 2 rfl
  have b3 : w1.cell? ⟨w.heap.size, 3, none⟩ = some (.slice x.na x.ns.length x.nc) := BX.at 3 rfl
  by_cases h60 : 60 < x.ws.length
  · have q1 : decide ((60 : Int) < (x.ws.length : Int)) = true := by simp; omega
    clear h60
    go_wp2_with fail
    refine (rtLives_any _).mono ?_
    rintro e w2 ⟨rfl, hb2⟩
    go_wp2_with fail
    go_ret
    exact ⟨rfl, below_push2 hb0 hb2 (Nat.le_refl _)⟩
  have q1 : decide ((60 : Int) < (x.ws.length : Int)) = false := by simp; omega
  obtain ⟨T, hT⟩ : ∃ T : Nat, (T : Int) = x.t % 4 + 1 := ⟨(x.t % 4 + 1).toNat, by have := hx.t; omega⟩
  have hT4 : 1 ≤ T ∧ T ≤ 4 := by have := hx.t; omega
  obtain ⟨r, hr⟩ : ∃ r : Int, r = 2 * (T : Int) + (x.r % 6 + 1) := ⟨_, rfl⟩
  have hxr := hx.r
  have hst := rtStart_any x T r w1 (hx.below hb0) hT hr
  have hr1 : 2 * (T : Int) + 1 ≤ r ∧ r ≤ 14 := by omega
  have hrm : roomI (T : Int) (x.r % 6 + 1) = r := by
    unfold roomI
    rw [if_neg (by omega), hr]
    omega
  have hw1 : IntKind.i64.wrap x.r = x.r := by rw [IntKind.wrap_i64]; omega
  have hw2 : IntKind.i64.wrap (x.r % 6) = x.r % 6 := by rw [IntKind.wrap_i64]; omega
  have hw3 : IntKind.i64.wrap (x.r % 6 + 1) = x.r % 6 + 1 := by rw [IntKind.wrap_i64]; omega
  have hroom : ∀ W', Calls Try.prog 18 #[.int .i64 T, .int .i64 (x.r % 6 + 1)] W' fun e w' => e = .returned (.int .i64 r) ∧ W' = w' := fun W' => by
    have := room_any (T : Int) (x.r % 6 + 1) W' (by omega) (by omega) (by omega) (by omega)
    rwa [hrm] at this
  clear hT hr hrm
  go_wp2_with fail
  refine hst.mono ?_
  rintro e w2 ⟨base, o, oc, g, gb, gr, L, bs, rs, lo, wa, wc, W, na, nc, nm, rfl, S⟩
  have c1 : w2.cell? ⟨w.heap.size, 1, none⟩ = some (.int .u8 x.r) := (BX.below S.b).at 1 rfl
  have hB2 := below_push2 hb0 S.b (Nat.le_refl _)
  clear hst b0 b1 b2 b3 BX
  go_wp2_with fail
  go_quiet (first
    | exact Calls.quiet_of_same ((threads_any _ (S.m.m.drewN _)).flip)
    | exact Calls.quiet_of_same ((hroom _).flip))
  have hbq := below_drewN (Below.refl w2.heap.size w2) nq
  replace S := S.under hbq
  have hB3 := below_push2 hB2 hbq (Nat.le_refl _)
  generalize w2.drewN nq = w3 at S hB3 ⊢
  clear hbq hB2 c1 hw1 hw2 hw3 hroom
  have hW60 : W.length ≤ 60 := Nat.le_trans S.wl (by omega)
  have hlW := S.hW.len
  go_wp2_with fail
  have Q0 : Lw w3 (sweepF r nm W []) (sweepF r nm (W.drop 0) []) 0 0 T none 0 [] none 0 [] w3 :=
    ⟨Below.refl _ _, OwnsU.nil _ _, OwnsU.nil _ _, by simp [blkS], ⟨0, by simp, by simp⟩, by simp⟩
  go_loopg [8, 9, 10, 44] (W.length) (fun gg u8 u9 u10 u44 wr => ∃ k lw fr m aw cw af cf, k ≤ W.length ∧ W.length ≤ k + gg ∧ u8 = .slice aw (lw : List Int).length cw ∧ u9 = .slice af (fr : List Int).length cf ∧ u10 = .int .i64 (m : Nat) ∧ u44 = .int .i64 (k : Nat) ∧ Lw w3 (sweepF r nm W []) (sweepF r nm (W.drop k) lw) k m T aw cw lw af cf fr wr)
  case atStart => exact ⟨0, [], [], 0, none, 0, none, 0, Nat.zero_le _, by omega, rfl, rfl, rfl, rfl, Q0⟩
  case round =>
    clear Q0
    obtain ⟨k, lw, fr, m, aw, cw, af, cf, hk, hkg, rfl, rfl, rfl, rfl, Q⟩ := hrel
    have hQlen := Q.len
    by_cases hlt : k < W.length
    · obtain ⟨bb, off, rfl, hbl, hc⟩ := (S.hW.below Q.b).cell k hlt
      have hlt' : (k : Int) < (W.length : Int) := by omega
      have hy := S.hW.rngD k
      by_cases hf : r ≤ (lw.length : Int)
      · have q2 : decide (r ≤ (lw.length : Int)) = true := by simpa using hf
        have hsw := sweep_yes (nm := nm) hlt hf
        generalize at0 W k = y at hc hy hsw
        obtain ⟨n, hmn, htot⟩ := Q.n
        have hn60 := (sweepF_len r nm W []).1
        rw [htot] at hn60
        simp only at hn60
        have hm480 : m ≤ 480 := by rw [hmn]; exact Nat.le_trans (Nat.mul_le_mul (show n ≤ 60 by omega) (show 2 * T ≤ 8 by omega)) (by omega)
        clear hmn htot hn60 n hf
        go_wp2_with fail
        refine (swept_any aw na cw nc lw nm wr (Q.O.words (by omega)) (S.hN.below Q.b) (by omega)).mono ?_
        rintro e w5 ⟨ya, yc, fa, fc, rfl, Y, N, hb5⟩
        have hlenKF := siftL_both lw nm
        generalize siftL lw nm true = K at Y hsw hlenKF ⊢
        generalize siftL lw nm false = F at N hsw hlenKF ⊢
        have hsz5 := (Q.under hb5).b.size
        have hb6 : Below w5.heap.size w5 (w5.alloc (.cells #[] 35)) := (Below.refl _ w5).alloc (Nat.le_refl _) _
        have UY := (Y.words (by omega)).below hb6
        have UN := (N.words (by omega)).below hb6
        obtain ⟨a1, c1, w7, A1⟩ := addAny w3.heap.size (OwnsU.empty w5 w3.heap.size hsz5) (c' := yc) UY (by simp; omega) (by simp; omega)
        have F7 : OwnsU w7 w3.heap.size af cf fr := OwnsU.heap (((Q.under hb5).under hb6).F) fun q hq => A1.fr.block q ((((Q.under hb5).under hb6).F.lt q hq).2) (fun hk => by
          obtain rfl : q = w5.heap.size := by simpa [blkS] using hk
          have := ((Q.under hb5).F.lt _ hq).2
          omega)
        have UN7 : U64s w7 fa F := U64s.heap UN A1.fr.size fun q hq _ => A1.fr.block q (by have := (N.lt q (own_blkS hq)).2; simp; omega) (fun hk => by
          obtain rfl : q = w5.heap.size := by simpa [blkS] using hk
          have := (N.lt _ (own_blkS hq)).2
          omega)
        have hs67 := A1.fr.size
        simp only [World.size_alloc] at hs67
        obtain ⟨a2, c2, w8, A2⟩ := addAny w3.heap.size F7 (c' := fc) UN7 (by omega) (by omega)
        have Q8 := Q.sweep hsw hlenKF hb5 A1 A2
        have hrun1 := Lib.hid A1.run
        simp only [List.length_nil, Nat.zero_add] at hrun1
        have hrun2 := Lib.hid A2.run
        have M8 := S.m.below (Q8.b.mono S.ge.2.2.2) S.ge.2.2.2
        obtain ⟨g', cap, wA, KA⟩ := addOne w3.heap.size Q8.O y hy (by omega) Q8.b.size
        have hrun3 := Lib.hid KA.run
        have Q9 := Q8.one KA
        have hwT : IntKind.i64.wrap (2 * (T : Int)) = 2 * (T : Int) := by rw [IntKind.wrap_i64]; omega
        have hwm : IntKind.i64.wrap ((m : Int) + 2 * (T : Int)) = (m : Int) + 2 * (T : Int) := by rw [IntKind.wrap_i64]; omega
        have hKl : K.length ≤ 60 ∧ F.length ≤ 60 := by omega
        clear A1 A2 KA Q Q8 UY UN UN7 F7 Y N hsw hlenKF hb5 hb6
        go_upto_region 13 with (at_builtin; refine wpList_append_run hrun1.out rfl (by rfl) (by rfl) (by rfl) ?_)
        go_wp2_with (at_builtin; refine wpList_append_run hrun2.out rfl (by rfl) (by rfl) (by rfl) ?_)
        refine (threads_any _ M8.m).mono ?_
        rintro e wx ⟨rfl, rfl⟩
        go_wp2_with (at_builtin; refine wpList_append_run hrun3.out rfl (by rfl) (by rfl) (by rfl) ?_)
        go_roundg (W.length - (k + 1))
        case measure => omega
        case rel => exact ⟨k + 1, K ++ [y], fr ++ F, m + 2 * T, _, _, _, _, by omega, by omega, by rw [List.length_append, List.length_singleton], by rw [List.length_append], by rw [Int.natCast_add, Int.natCast_mul]; rfl, by go_num, Q9⟩
      · have q2 : decide (r ≤ (lw.length : Int)) = false := by simpa using hf
        rw [sweep_no hlt hf] at Q
        generalize at0 W k = y at hc hy Q
        obtain ⟨g', cap, wA, KA⟩ := addOne w3.heap.size Q.O y hy (by omega) Q.b.size
        have hrun := Lib.hid KA.run
        have Q2 := Q.one KA
        clear KA Q hf
        go_wp2_with (at_builtin; refine wpList_append_run hrun.out rfl (by rfl) (by rfl) (by rfl) ?_)
        go_roundg (W.length - (k + 1))
        case measure => omega
        case rel => exact ⟨k + 1, lw ++ [y], fr, m, _, _, _, _, by omega, by omega, by rw [List.length_append, List.length_singleton], rfl, rfl, by go_num, Q2⟩
    · obtain rfl : k = W.length := by omega
      rw [List.drop_length] at Q
      obtain ⟨n, hmn, htot⟩ := Q.n
      simp only [sweepF, List.append_nil, Nat.add_zero] at htot
      have hsl := sweepF_len r nm W []
      rw [htot] at hsl
      simp only [List.length_nil, Nat.add_zero] at hsl
      have hmul : n * (2 * T) ≤ W.length * (2 * T) := Nat.mul_le_mul_right _ hsl.1
      have hmul8 : W.length * (2 * T) ≤ 60 * 8 := Nat.mul_le_mul hW60 (by omega)
      have hbwr : base ≤ wr.heap.size := Nat.le_trans S.ge.2.2.2 Q.b.size
      have hgd : ∀ x ∈ W, GoodW 60 x := fun x hx => (S.pk x hx).good (by omega)
      obtain ⟨accs, s', hrun, hl', hc'⟩ := prun_sweeps (A := 60) (T := T) (by omega) hT4.1 (r := r) (hz := hzL T nm) (nm := nm) (by omega) (hzL_len T nm) (hzL_mem S.nl) W [] L 0 [] 3000 (by simpa using S.nd) (by simpa using S.pk) (by have := S.hL.len; omega) (hzL_is S.hL) (by rw [htot]; simp only; omega)
      rw [htot] at hrun hl' hc'
      simp only at hrun hl' hc'
      have hpkf : ∀ x ∈ fr, Pk 60 x := fun x hx => by
        have := sweepF_mem r nm W [] x (by rw [htot]; exact hx)
        rcases this with q | q
        · exact S.pk x q
        · simp at q
      have hcm : accs.length = m + fr.length := by rw [hc', hmn]
      have hcost := rcost_le (T := T) (n := W.length) (cnt := accs.length) hT4 hW60 (by omega)
      have hm480 : m ≤ 480 := by omega
      have hfr60 : fr.length ≤ 60 := by omega
      have hlw60 : lw.length ≤ 60 := by omega
      have qne : (((accs.length : Nat) : Int) != (m : Int) + (fr.length : Int)) = false := by simp; omega
      have hwm : IntKind.i64.wrap ((m : Int) + (fr.length : Int)) = (m : Int) + (fr.length : Int) := by rw [IntKind.wrap_i64]; omega
      clear hmul hmul8 hsl htot hmn hc' hlt hcm
      have hBr := below_push2 hB3 Q.b (Nat.le_refl _)
      have hM := S.m.below (Q.b.mono S.ge.2.2.2) S.ge.2.2.2
      have hnew := rtNew_any (o := o) (A := 60) wa wc W wr (S.l.below Q.b) (S.hW.below Q.b) (by omega) hgd (by simp) hbwr
      go_wp2_with fail
      refine hnew.mono ?_
      rintro e w5 ⟨rfl, R5, hb5⟩
      clear hnew
      have hB5 := below_push2 hBr hb5 (Nat.le_refl _)
      have Q5 := Q.under hb5
      have hM5 := hM.under hb5
      have hs5 := hb5.size
      clear hM hBr
      go_wp2_with fail
      have hRun := rtRun_any 3000 (by omega) w5 hM5 R5 (by omega) (fit0 _ _ _)
      rw [hrun] at hRun
      refine hRun.mono ?_
      rintro e w9 ⟨ao, co, d9, bs9, rfl, X9⟩
      have hlo : lo < w3.heap.size := S.l.head.lt
      have hmlo := S.m.lo
      have hge := S.ge
      have hno : ∀ q, w3.heap.size ≤ q → q < wr.heap.size → q ∉ g :: gb :: allB (wr.heap.size + 1) lo ⟨some ⟨wr.heap.size, 0, none⟩, W.length, none, 0, none, 0, none, 0⟩ := fun q h1 h2 h3 => by
        simp only [allB, ownB, blkS, List.mem_cons, List.mem_append, List.not_mem_nil, or_false, false_or] at h3
        rcases h3 with e | e | (e | e) | e <;> omega
      have O9 : OwnsU w9 w3.heap.size aw cw lw := OwnsU.heap Q5.O fun q hq => X9.fr.block q (Q5.O.lt q hq).2 (hno q (Q.O.lt q hq).1 (Q.O.lt q hq).2)
      have F9 : OwnsU w9 w3.heap.size af cf fr := OwnsU.heap Q5.F fun q hq => X9.fr.block q (Q5.F.lt q hq).2 (hno q (Q.F.lt q hq).1 (Q.F.lt q hq).2)
      have hB9 : Below w.heap.size w w9 := X9.under0 R5 hB5 (Nat.le_refl _) (by have := hb0.size; omega)
      have L9 := X9.R.list
      rw [hl'] at L9
      have M9 := X9.m
      clear X9 hRun R5 hno Q Q5 hM5 hB5 hrun hl' hlo hmlo hge
      simp only at M9
      have hwords := words_any w9 lo r d9.la d9.lc lw L9.head L9.words (by omega)
      have hcst := fun W' => rtCost_any (T : Int) (W.length : Int) W'
      go_wp2_with fail
      refine hwords.mono ?_
      rintro e w10 ⟨a10, c10, rfl, O10, hb10⟩
      clear hwords L9
      go_wp2_with fail
      refine (HazP.same_any a10 aw c10 cw lw w10 (O10.words (by omega)) ((O9.below hb10).words (by omega))).mono ?_
      rintro e w11 ⟨rfl, hb11⟩
      have M11 := (M9.under hb10).under hb11
      have F11 := (F9.below hb10).below hb11
      have hB11 := below_push2 (below_push2 hB9 hb10 (Nat.le_refl _)) hb11 (Nat.le_refl _)
      clear M9 F9 O9 O10 hB9 hb10 hb11
      go_wp2_with fail
      refine (threads_any _ M11.m).mono ?_
      rintro e wx ⟨rfl, rfl⟩
      go_wp2_with fail
      refine (hcst _).mono ?_
      rintro e wx ⟨rfl, rfl⟩
      go_wp2_with fail
      clear hcst hcost qne hwm
      obtain ⟨wo, hwo⟩ : ∃ wo, wo = w11 := ⟨_, rfl⟩
      have hLL := fun i hi => free_load S.hL hpkf i hi
      have hLl : (freeL 60 T L fr).length = 121 + 5 * T := by rw [freeL_length]; exact S.hL.len
      generalize freeL 60 T L fr = LL at M11 hLL hLl
      clear hwo
      go_loopg [111] 60 (fun gg i wq => ∃ k : Nat, k ≤ 60 ∧ 60 ≤ k + gg ∧ i = .int .i64 k ∧ Below w11.heap.size w11 wq)
      case atStart => exact ⟨0, by omega, by omega, rfl, Below.refl _ _⟩
      case round =>
        obtain ⟨i, hi, hig, rfl, hbi⟩ := hrel
        by_cases hlt : i < 60
        · have hlt' : (i : Int) < 60 := by omega
          have Mi := (M11.m.below hbi)
          have hu := hLL i hlt
          go_wp2_with fail
          refine (muse_any (i : Int) _ Mi (by omega) (by omega)).mono ?_
          rw [use_at (A := 60) (T := T) hlt]
          rintro e w12 ⟨rfl, hb12⟩
          go_wp2_with fail
          refine (show Calls _ _ _ _ _ from mload_any (60 + (i : Int)) _ (Mi.below hb12)).mono ?_
          rw [hu]
          rintro e w13 ⟨rfl, hb13⟩
          have hbj := below_push2 (below_push2 hbi hb12 (Nat.le_refl _)) hb13 (Nat.le_refl _)
          have hnm := dnamed_any af cf fr (packI (i : Int) 1) w13 (((F11.below hbj)).words (by omega))
          clear hbi hb12 hb13 Mi hu
          cases hm : memB fr (packI (i : Int) 1)
          · rw [hm] at hnm
            rw [if_neg (by simp)]
            clear hm
            go_wp2_with fail
            refine (duse_any 1 1 _ (by omega) (by omega) (by omega) (by omega)).mono ?_
            rintro e wx ⟨rfl, rfl⟩
            go_wp2_with fail
            refine (dpack_any (i : Int) 1 _ (by omega) (by omega) (by omega) (by omega)).mono ?_
            rintro e wx ⟨rfl, rfl⟩
            go_wp2_with fail
            refine hnm.mono ?_
            rintro e wx ⟨rfl, rfl⟩
            go_wp2_with fail
            go_roundg (60 - (i + 1))
            case measure => omega
            case rel => exact ⟨i + 1, by omega, by omega, by go_num, hbj⟩
          · rw [hm] at hnm
            rw [if_pos rfl]
            clear hm
            go_wp2_with fail
            refine (duse_any 1 1 _ (by omega) (by omega) (by omega) (by omega)).mono ?_
            rintro e wx ⟨rfl, rfl⟩
            go_wp2_with fail
            refine (dpack_any (i : Int) 1 _ (by omega) (by omega) (by omega) (by omega)).mono ?_
            rintro e wx ⟨rfl, rfl⟩
            go_wp2_with fail
            refine hnm.mono ?_
            rintro e wx ⟨rfl, rfl⟩
            go_wp2_with fail
            refine (duse_any 0 1 _ (by omega) (by omega) (by omega) (by omega)).mono ?_
            rintro e wx ⟨rfl, rfl⟩
            go_wp2_with fail
            go_roundg (60 - (i + 1))
            case measure => omega
            case rel => exact ⟨i + 1, by omega, by omega, by go_num, hbj⟩
        · obtain rfl : i = 60 := by omega
          go_wp2_with fail
          refine (rtLives_any _).mono ?_
          rintro e w14 ⟨rfl, hb14⟩
          go_wp2_with fail
          go_ret
          exact ⟨rfl, below_push2 (below_push2 hB11 hbi (Nat.le_refl _)) hb14 (Nat.le_refl _)⟩
set_option maxRecDepth 100000 in
theorem contract (H : Type) (enc : TypeId × Value → H) (W : World) (base : Nat) (args : Array Value) (ds : List (DataW H)) (p : List MemPlace)
    (hval : ∀ (j : Nat) t v, Try.f4.params[j]? = some t → args[j]? = some v → Value.okWide Try.prog W .any base t v)
    (hA : DataW.TrodAll enc Try.prog W 0 (fun _ => true) true Try.f4.params.toList args.toList ds p) :
    Calls Try.prog 4 args W fun e W' => e = .returned (.bool true) ∧ Below W.heap.size W W' := by
  rw [Try.params4] at hA hval
  obtain ⟨v0, vs0, d0, ds0, p0, q0, hargs, rfl, rfl, h0, r0⟩ := trodAll_cons hA
  obtain ⟨rfl, rfl, rfl⟩ := trodAll_nil r0
  obtain rfl : args = #[v0] := by cases args; simp_all
  obtain ⟨x, rfl, hx⟩ := ask_of (hval 0 24 v0 rfl rfl) h0
  exact walk x W hx

/-! THE ROW's STEP -/
set_option maxRecDepth 100000 in
theorem lifted (os : Os) (started : os.Started) (H : Type) (enc : TypeId × Value → H) :
    ReturnsInHanded {} Try.checked os 4 .any (Rows.retireSweepsSpec.pre6 enc Try.prog Try.f4 Rows.retireSweepsRow.domain false) (Rows.retireSweepsSpec.post enc Try.prog Try.f4 false true false false) := by
  refine returnsInHanded_of_change (C := Try.checked) Lift.own started (by kernel_rfl) Try.func4
    (ChangeSpec.witness6 (enc := enc) (C := Try.checked) false ⟨#[], #[.agg #[.int .u8 0, .int .u8 0, .slice none 0 0, .slice none 0 0]], []⟩ 8 (by kernel_rfl) (by kernel_rfl) (by kernel_rfl) (by kernel_rfl)) ?_
  intro W base args ds gs before hval0 hW hcnd _
  have hval : ∀ (j : Nat) t v, Try.f4.params[j]? = some t → args[j]? = some v → Value.okWide Try.prog W .any base t v := hval0
  have hW' := hW
  obtain ⟨p, q, hA0, hV, rfl, hfz, hnd⟩ := hW
  have hA : DataW.TrodAll enc Try.prog W 0 (fun _ => true) true Try.f4.params.toList args.toList ds p := hA0
  have hlen : ds.length = 1 := by
    have hl := Lift.trodAll_len _ _ _ _ hA
    rw [Try.params4] at hl
    simpa using hl
  have hall := fun W' (hb : Below W.heap.size W W') => Lift.trodAll_below Lift.laidOut hb Try.f4.params.toList args.toList ds p (by kernel_rfl) hA
  obtain ⟨rfl, rfl⟩ := trodVars_none hV
  refine (contract H enc W base args ds p hval hA).mono fun e W' ⟨he, bel⟩ => ?_
  subst he
  have hspec : (Rows.retireSweepsSpec.fn H (ds ++ [])).results = [.lit (.bool true)] ∧ (Rows.retireSweepsSpec.fn H (ds ++ [])).args = ds ∧ (Rows.retireSweepsSpec.fn H (ds ++ [])).vars = [] := by
    match ds, hlen with
    | [d1], _ => exact ⟨rfl, rfl, rfl⟩
  exact ⟨_, rfl, _, _, _, [], _, [], hW', by rw [hspec.1]; exact trodAll_mk1 (shut_bool Try.underlying4 _), by rw [hspec.2.1]; exact hall W' bel, by rw [hspec.2.2]; rfl, bel.frame _, fun h => by cases h⟩

theorem over : Rows.retireSweepsRow.holds Try.pinned (OpenSpec.ofChange Rows.retireSweepsSpec) :=
  OpenClaim.holds_of_wide 4 Try.f4 rfl rfl rfl rfl rfl rfl rfl ⟨rfl, rfl, rfl, rfl, rfl⟩ rfl rfl rfl rfl rfl (by kernel_rfl) Try.func4 (by kernel_rfl)
    (of_decide_eq_true (by kernel_rfl)) (by unfold Func.isWrapper; first | (rw [if_pos (by decide +kernel)]; kernel_rfl) | (rw [if_neg (by decide +kernel)]; exact ⟨rfl, rfl⟩))
    (fun os started H enc _ => lifted os started H enc)

theorem proved : Rows.RetireSweepsSaid := over
#print axioms proved
end Go.Proofs.Ytchkiacmiljopaa.retireSweeps
