/-
  retire: the statements' own Run: contract, for every task.
-/
import Derived.Test.YtchkiacmiljopaaRetR
import Derived.Deep.WholeRow
namespace Go.Proofs.Ytchkiacmiljopaa.MemP
open Go.RowKit RefP CellP HazP
set_option linter.unusedVariables false
set_option linter.unusedSimpArgs false
theorem rtNext_to {o oc g gb gr T : Nat} {L : List (Int × Int)} {bs rs : List (List Value)} {base t lo : Nat} {r : Int} {A : Nat} {d : RA} {s s4 : RS} (w : World) (h : MemB w base o oc g gb gr A T L bs rs) (R : RtAt w base o t lo r A d s) (hbw : base ≤ w.heap.size) (h4 : nrm T r 4 s = s4) {k i v wd : Int} (ha : accS A T s4 = (k, i, v, wd)) (b : Bool) (hb : (s4.st != 0) = b) :
    Calls Try.prog 9 #[.pointer (some ⟨t, 0, none⟩)] w fun e w' => ∃ d', e = .returned (.tuple #[.agg (accY k i v wd), .bool b]) ∧ RtAt w' base o t lo r A d' s4 ∧ Mv (allB t lo d) (allB t lo d') w w' := by
  refine (rtNext_any w h R hbw).mono ?_
  rintro e w' ⟨d', rfl, X, M⟩
  rw [h4] at X ⊢
  rw [ha, hb]
  exact ⟨d', rfl, X, M⟩
theorem freedI_rng (x : Int) (h : 0 ≤ x) : 0 ≤ freedI x ∧ freedI x ≤ 18446744073709551615 := by
  have hG : 0 ≤ openG x := by unfold openG; split <;> omega
  unfold freedI useI topW
  split
  · split <;> split <;> omega
  · omega
/-- in a round of Run -/
structure Rr (w0 : World) (base o oc g gb gr A T : Nat) (L : List (Int × Int)) (bs rs : List (List Value)) (t lo : Nat) (r : Int) (d0 d : RA) (s : RS) (ao : Option Addr) (co : Nat) (out : List Acc4) (wr : World) : Prop where
  m : MemB wr base o oc g gb gr A T L bs rs
  R : RtAt wr base o t lo r A d s
  out : OwnAcc wr w0.heap.size ao co out
  fr : Fr (g :: gb :: allB t lo d0) w0 wr
  sub : ∀ b ∈ allB t lo d, b ∈ allB t lo d0 ∨ w0.heap.size ≤ b
  ne : ∀ b ∈ blkS ao, b ∉ allB t lo d
  hs : base ≤ w0.heap.size
theorem Rr.under {w0 : World} {base o oc g gb gr A T : Nat} {L : List (Int × Int)} {bs rs : List (List Value)} {t lo : Nat} {r : Int} {d0 d : RA} {s : RS} {ao : Option Addr} {co : Nat} {out : List Acc4} {wr wx : World} (h : Rr w0 base o oc g gb gr A T L bs rs t lo r d0 d s ao co out wr) (hb : Below wr.heap.size wr wx) : Rr w0 base o oc g gb gr A T L bs rs t lo r d0 d s ao co out wx :=
  ⟨h.m.under hb, h.R.under hb, OwnR.below h.out hb, h.fr.trans (Fr.of_below hb), h.sub, h.ne, h.hs⟩
theorem Rr.le {w0 : World} {base o oc g gb gr A T : Nat} {L : List (Int × Int)} {bs rs : List (List Value)} {t lo : Nat} {r : Int} {d0 d : RA} {s : RS} {ao : Option Addr} {co : Nat} {out : List Acc4} {wr : World} (h : Rr w0 base o oc g gb gr A T L bs rs t lo r d0 d s ao co out wr) : base ≤ wr.heap.size := Nat.le_trans h.hs h.fr.size
theorem fr_new {S : List Nat} {w0 w w' : World} {X : List Nat} (h : Fr S w0 w) (k : Fr X w w') (hX : ∀ b ∈ X, b ∈ S ∨ w0.heap.size ≤ b) : Fr S w0 w' :=
  ⟨k.os.trans h.os, k.tape.trans h.tape, k.output.trans h.output, Nat.le_trans h.size k.size, fun b hb hn => (k.block b (Nat.lt_of_lt_of_le hb h.size) (fun hx => by
    rcases hX b hx with q | q
    · exact hn q
    · omega)).trans (h.block b hb hn)⟩
theorem Rr.told {w0 : World} {base o oc g gb gr A T : Nat} {L : List (Int × Int)} {bs rs : List (List Value)} {t lo : Nat} {r : Int} {d0 d : RA} {s : RS} {ao : Option Addr} {co : Nat} {out : List Acc4} {wr wx : World} (h : Rr w0 base o oc g gb gr A T L bs rs t lo r d0 d s ao co out wr) {d' : RA} {s' : RS} (X : RtAt wx base o t lo r A d' s') (M : Mv (allB t lo d) (allB t lo d') wr wx) : Rr w0 base o oc g gb gr A T L bs rs t lo r d0 d' s' ao co out wx := by
  have hsz := h.fr.size
  refine ⟨h.m.below (M.below (fun b hb => (h.R.all_ge b hb).1) h.le) h.le, X, OwnR.heap h.out fun q hq => M.fr.block q (OwnR.lt h.out q hq).2 (h.ne q (blkS_own hq)), fr_new h.fr M.fr (fun b hb => ?_), fun b hb => ?_, fun b hb hm => ?_, h.hs⟩
  · rcases h.sub b hb with q | q
    · exact .inl (by simp [q])
    · exact .inr q
  · rcases M.sub b hb with q | q
    · exact h.sub b q
    · exact .inr (by omega)
  · rcases M.sub b hm with q | q
    · exact h.ne b hb q
    · have := (OwnR.lt h.out b (own_blkS hb)).2; omega
theorem Rr.did {w0 : World} {base o oc g gb gr A T : Nat} {L : List (Int × Int)} {bs rs : List (List Value)} {t lo : Nat} {r : Int} {d0 d : RA} {s : RS} {ao : Option Addr} {co : Nat} {out : List Acc4} {wr wx : World} (h : Rr w0 base o oc g gb gr A T L bs rs t lo r d0 d s ao co out wr) {L' : List (Int × Int)} {bs' : List (List Value)} (hM : MemAt wx o oc g gb gr A T L' bs' rs) (F : Fr [g, gb] wr wx) : Rr w0 base o oc g gb gr A T L' bs' rs t lo r d0 d s ao co out wx := by
  have hl := h.m.lo
  have hhs := h.hs
  exact ⟨⟨hM, hl⟩, h.R.off F (fun b hb => .inl (by simp at hb; omega)), OwnR.fr h.out F (by simp; omega), h.fr.trans (F.more (by simp)), h.sub, h.ne, h.hs⟩
theorem Rr.added {w0 : World} {base o oc g gb gr A T : Nat} {L : List (Int × Int)} {bs rs : List (List Value)} {t lo : Nat} {r : Int} {d0 d : RA} {s : RS} {ao : Option Addr} {co : Nat} {out : List Acc4} {wr wx : World} (h : Rr w0 base o oc g gb gr A T L bs rs t lo r d0 d s ao co out wr) {x : Acc4} {v : Value} {g' cap : Nat} {w' : World} (hb : Below wr.heap.size wr wx)
    (K : AddedR Try.prog 26 accF (0, 0, 0, 0) wx w0.heap.size 68 50 ao co out v 1 (out ++ [x]) g' cap w') : Rr w0 base o oc g gb gr A T L bs rs t lo r d0 d s (some ⟨g', 0, none⟩) cap (out ++ [x]) w' := by
  have H := h.under hb
  have hl := h.m.lo
  have hhs := h.hs
  have hlt := fun q e => (OwnR.lt H.out q e).1
  have hF : Fr (blkS ao) wx w' := Fr.of_grown K.grown (fun q e => blkS_own e)
  have hge : ∀ b ∈ blkS ao, w0.heap.size ≤ b := fun b k => hlt b (own_blkS k)
  refine ⟨⟨H.m.m.off hF ⟨?_, ?_, ?_, ?_, ?_⟩, hl⟩, H.R.off hF (fun b k => ?_), K.own, fr_new H.fr hF (fun b k => .inr (hge b k)), h.sub, fun b k hm => ?_, hhs⟩
  · intro k; have := hge _ k; omega
  · intro k; have := hge _ k; omega
  · intro k; have := hge _ k; omega
  · intro k; have := hge _ k; omega
  · intro k; have := hge _ k; omega
  · have := h.ne b k
    simp only [allB, List.mem_append, not_or] at this
    exact .inr ⟨this.1, this.2.1, this.2.2⟩
  · obtain rfl : b = g' := by simpa [blkS] using k
    rcases K.at' with q | q
    · exact h.ne b (blkS_own q) hm
    · have := (H.R.all_ge b hm).2; omega
def RunEnd (w0 : World) (base o oc g gb gr A T : Nat) (rs : List (List Value)) (t lo : Nat) (r : Int) (d : RA) (q : List Acc4 × Bool × RS × List (Int × Int)) (e : Ending) (w' : World) : Prop :=
  ∃ ao co d' bs', e = .returned (.tuple #[.slice ao q.1.length co, .bool q.2.1]) ∧ Rr w0 base o oc g gb gr A T q.2.2.2 bs' rs t lo r d d' q.2.2.1 ao co q.1 w'
set_option maxRecDepth 100000 in
set_option maxHeartbeats 12800000 in
theorem rtRun_any {o oc g gb gr A T : Nat} {L0 : List (Int × Int)} {bs0 rs : List (List Value)} {base t lo : Nat} {r : Int} {d0 : RA} {s0 : RS} (most : Nat) (hmost : most ≤ 50000) (w : World) (h : MemB w base o oc g gb gr A T L0 bs0 rs) (R : RtAt w base o t lo r A d0 s0) (hbw : base ≤ w.heap.size) (hf0 : Fit T s0) :
    Calls Try.prog 20 #[.pointer (some ⟨o, 0, none⟩), .pointer (some ⟨t, 0, none⟩), .int .i64 (most : Nat)] w (RunEnd w base o oc g gb gr A T rs t lo r d0 (prun A T r most s0 L0)) := by
  have hT := h.m.t1
  go_enter Try.func20, Try.ntmps20
  go_wp2_with fail
  have R0 : Rr w base o oc g gb gr A T L0 bs0 rs t lo r d0 d0 s0 none 0 [] w := ⟨h, R, OwnR.nil _ _ _ _ _ _, Fr.refl _ _, fun b k => .inl k, by simp [blkS], hbw⟩
  go_loopw [8, 12] (fun u8 i wr => ∃ k s L out, ∃ ao co d bs, u8 = .slice ao (out : List Acc4).length co ∧ i = .int .i64 (k : Nat) ∧ k ≤ most ∧ out.length = k ∧ Fit T s ∧ Hid (prun A T r most s0 L0 = (out ++ (prun A T r (most - k) s L).1, (prun A T r (most - k) s L).2)) ∧ Rr w base o oc g gb gr A T L bs rs t lo r d0 d s ao co out wr) (fun _ i _ => most - (intOf i).toNat)
  case atStart => exact ⟨0, s0, L0, [], none, 0, d0, bs0, rfl, rfl, Nat.zero_le _, rfl, hf0, Lib.hid (by simp), R0⟩
  case round =>
    clear R0 h R
    obtain ⟨k, s, L, out, ao, co, d, bs, rfl, rfl, hk, hlen, hfit, hP, R⟩ := hrel
    have hlen1 : out.length ≤ k ∧ k ≤ out.length := by omega
    clear hlen
    by_cases hlt : k < most
    · have hlt' : (k : Int) < (most : Int) := by omega
      obtain ⟨n, hn⟩ : ∃ n, most - k = n + 1 := ⟨most - k - 1, by omega⟩
      have hn2 : most - (k + 1) = n := by omega
      rw [hn] at hP
      have hf4 := (nrm_fit (r := r) 4 hfit).1
      have ho4 := nrm_out4 (r := r) hT.1 hfit.st
      by_cases h0 : (nrm T r 4 s).st = 0
      · have hP2 := hP.out
        rw [prun_no h0] at hP2
        have ha : accS A T (nrm T r 4 s) = (0, 0, 0, 0) := by simp [accS, h0]
        go_wp2_with fail
        refine (rtNext_to wr R.m R.R R.le rfl ha false (by simp [h0])).mono ?_
        rintro e w2 ⟨d2, rfl, X2, M2⟩
        have R3 := (R.told X2 M2).under ((Below.refl _ w2).alloc (Nat.le_refl _) (.cells (accY 0 0 0 0) 50))
        generalize hW : w2.alloc (.cells (accY 0 0 0 0) 50) = w3 at R3
        replace hW := Lib.hid hW
        clear R X2 M2
        go_wp2_with (refine wpList_store_row rfl 50 _ _ rfl _ _ rfl rfl 50 _ (Blk.new w2 _ _).h (by kernel_rfl) (by rfl) (by kernel_rfl) ?_; rw [World.setRow_alloc_new, hW.out])
        go_ret2
        rw [hP2, List.append_nil]
        exact ⟨ao, co, d2, bs, rfl, R3⟩
      · have hP2 := hP.out
        rw [prun_yes h0] at hP2
        clear hP
        have ht4 := fun x => (tell_fit hf4 ho4 h0 x).1
        have hne4 : (nrm T r 4 s).st != 0 := by simpa using h0
        have hst4 := hf4.st
        have hnm4 := hf4.at'
        have hg4 : GoodAll A (nrm T r 4 s) := nrm_good 4 R.R.good
        generalize h4 : nrm T r 4 s = s4 at *
        obtain ⟨W, st, a, nm, fr, l⟩ := s4
        replace h4 := Lib.hid h4
        simp only at h0 hst4
        have h12 : st = 1 ∨ st = 2 := by omega
        rcases h12 with rfl | rfl
        · have hr4 := hnm4 rfl
          simp only at hr4
          have ha : accS A T ⟨W, 1, a, nm, fr, l⟩ = (1, hazI A T ((a : Int) / 2) ((a : Int) % 2), 0, 0) := rfl
          rw [ha] at hP2
          generalize hazI A T ((a : Int) / 2) ((a : Int) % 2) = ad at ha hP2
          replace hP2 := Lib.hid hP2
          go_wp2_with fail
          refine (rtNext_to wr R.m R.R R.le h4.out ha true rfl).mono ?_
          rintro e w2 ⟨d2, rfl, X2, M2⟩
          have R2 := R.told X2 M2
          have hoq := fun q e => (OwnR.lt R2.out q e).2
          have R3 := R2.under ((Below.refl _ w2).alloc (Nat.le_refl _) (.cells (accY 1 ad 0 0) 50))
          have BA := Blk.new w2 (accY 1 ad 0 0) 50
          generalize hW : w2.alloc (.cells (accY 1 ad 0 0) 50) = w3 at R3 BA
          replace hW := Lib.hid hW
          clear R R2 X2 M2
          have hb4 : Below w3.heap.size w3 (w3.alloc (.cells (accY 1 ad 0 0) 50)) := (Below.refl _ w3).alloc (Nat.le_refl _) _
          have R4 := R3.under hb4
          obtain ⟨gq, cq, w5, K⟩ := addAcc w.heap.size R4.out (1, ad, 0, 0) (Blk.new w3 (accY 1 ad 0 0) 50) (by omega) R4.fr.size
          have hrun := Lib.hid K.run
          have R5 := R3.added hb4 K
          have BA5 := (BA.below hb4).grown K.grown (fun e => by have := hoq _ e.symm; omega)
          clear R3 R4 K hb4 hoq
          go_wp2_with (first
            | (refine wpList_store_row rfl 50 _ _ rfl _ _ rfl rfl 50 _ (Blk.new w2 _ _).h (by kernel_rfl) (by rfl) (by kernel_rfl) ?_; rw [World.setRow_alloc_new, hW.out])
            | (at_builtin; refine wpList_append_run hrun.out rfl (by rfl) (by rfl) (by rfl) ?_)
            | (refine wpList_load_row rfl 50 _ rfl w2.heap.size rfl 50 _ (0, 0) _ BA.h Try.underlying50 rfl (by kernel_rfl) ?_)
            | (refine wpList_load_row rfl 50 _ rfl w2.heap.size rfl 50 _ (0, 0) _ BA5.h Try.underlying50 rfl (by kernel_rfl) ?_))
          clear hW BA BA5 hrun
          have hr := load_rng R5.m.m.cells.rng ad
          refine (do_load ad 0 0 _ _ _ _ _ _ _ _ _ _ _ _ _ _ _ _ _ _ _ _ _ _ _ R5.m.m).mono ?_
          rintro e w6 ⟨rfl, hb6⟩
          have R6 := R5.under hb6
          clear R5 hb6
          go_wp2_with fail
          refine (rtTell_any w6 R6.m R6.R R6.le ho4 (inB L.length ad) (loadW L ad) (loadV L ad) hr.1 (fun _ => by simp only; omega)).mono ?_
          rintro e w7 ⟨d7, rfl, X7, M7⟩
          have R7 := R6.told X7 M7
          clear R6 X7 M7
          go_wp2_with fail
          go_roundw
          case rel =>
            refine ⟨k + 1, tellS ⟨W, 1, a, nm, fr, l⟩ (loadW L ad), L, out ++ [(1, ad, 0, 0)], _, _, d7, bs, by rw [List.length_append, List.length_singleton], by go_num, by omega, by simp; omega, ht4 _, Lib.hid ?_, R7⟩
            rw [hP2.out, hn2]
            simp [doL]
          case measure => simp [intOf]; omega
        · have hf : fr ≠ [] := by
            simp only [outB] at ho4
            simpa using ho4
          have hx0 : 0 ≤ at0 fr 0 := (hg4.2.1 _ (at0_mem fr 0 (by rcases fr with _ | ⟨x, fr⟩ <;> simp_all))).1.1
          have hw := freedI_rng (at0 fr 0) hx0
          have ha : accS A T ⟨W, 2, a, nm, fr, l⟩ = (2, atI A T 1 (openP (at0 fr 0)), 0, freedI (at0 fr 0)) := rfl
          rw [ha] at hP2
          generalize atI A T 1 (openP (at0 fr 0)) = ad at ha hP2
          generalize freedI (at0 fr 0) = wd at ha hP2 hw
          replace hP2 := Lib.hid hP2
          go_wp2_with fail
          refine (rtNext_to wr R.m R.R R.le h4.out ha true rfl).mono ?_
          rintro e w2 ⟨d2, rfl, X2, M2⟩
          have R2 := R.told X2 M2
          have hoq := fun q e => (OwnR.lt R2.out q e).2
          have R3 := R2.under ((Below.refl _ w2).alloc (Nat.le_refl _) (.cells (accY 2 ad 0 wd) 50))
          have BA := Blk.new w2 (accY 2 ad 0 wd) 50
          generalize hW : w2.alloc (.cells (accY 2 ad 0 wd) 50) = w3 at R3 BA
          replace hW := Lib.hid hW
          clear R R2 X2 M2
          have hb4 : Below w3.heap.size w3 (w3.alloc (.cells (accY 2 ad 0 wd) 50)) := (Below.refl _ w3).alloc (Nat.le_refl _) _
          have R4 := R3.under hb4
          obtain ⟨gq, cq, w5, K⟩ := addAcc w.heap.size R4.out (2, ad, 0, wd) (Blk.new w3 (accY 2 ad 0 wd) 50) (by omega) R4.fr.size
          have hrun := Lib.hid K.run
          have R5 := R3.added hb4 K
          have BA5 := (BA.below hb4).grown K.grown (fun e => by have := hoq _ e.symm; omega)
          clear R3 R4 K hb4 hoq
          go_wp2_with (first
            | (refine wpList_store_row rfl 50 _ _ rfl _ _ rfl rfl 50 _ (Blk.new w2 _ _).h (by kernel_rfl) (by rfl) (by kernel_rfl) ?_; rw [World.setRow_alloc_new, hW.out])
            | (at_builtin; refine wpList_append_run hrun.out rfl (by rfl) (by rfl) (by rfl) ?_)
            | (refine wpList_load_row rfl 50 _ rfl w2.heap.size rfl 50 _ (0, 0) _ BA.h Try.underlying50 rfl (by kernel_rfl) ?_)
            | (refine wpList_load_row rfl 50 _ rfl w2.heap.size rfl 50 _ (0, 0) _ BA5.h Try.underlying50 rfl (by kernel_rfl) ?_))
          clear hW BA BA5 hrun
          refine (do_store ad 0 wd _ _ _ _ _ _ _ _ _ _ _ _ _ _ _ _ _ _ _ _ _ _ _ R5.m.m hw.1 hw.2).mono ?_
          rintro e w6 ⟨rfl, hM6, hF6⟩
          have R6 := R5.did hM6 hF6
          clear R5 hM6 hF6
          go_wp2_with fail
          refine (rtTell_any w6 R6.m R6.R R6.le ho4 (inB L.length ad) 0 0 (by omega) (fun e => by simp at e)).mono ?_
          rintro e w7 ⟨d7, rfl, X7, M7⟩
          have R7 := R6.told X7 M7
          clear R6 X7 M7
          go_wp2_with fail
          go_roundw
          case rel =>
            refine ⟨k + 1, tellS ⟨W, 2, a, nm, fr, l⟩ 0, storeL L ad wd, out ++ [(2, ad, 0, wd)], _, _, d7, storeB L bs A ad, by rw [List.length_append, List.length_singleton], by go_num, by omega, by simp; omega, ht4 _, Lib.hid ?_, R7⟩
            rw [hP2.out, hn2]
            simp [doL, tellS]
          case measure => simp [intOf]; omega
    · obtain rfl : k = most := by omega
      have hP2 := hP.out
      rw [Nat.sub_self] at hP2
      simp only [prun, List.append_nil] at hP2
      go_wp2_with fail
      go_ret2
      rw [hP2]
      exact ⟨ao, co, d, bs, rfl, R⟩
end Go.Proofs.Ytchkiacmiljopaa.MemP
