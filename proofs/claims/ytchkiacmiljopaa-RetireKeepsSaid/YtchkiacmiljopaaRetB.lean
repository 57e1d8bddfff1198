/-
  retire: the statements' own start: contract.
-/
import Derived.Test.YtchkiacmiljopaaRetA
import Derived.Test.YtchkiacmiljopaaRetR
import Derived.Deep.LoopGhost
namespace Go.Proofs.Ytchkiacmiljopaa.MemP
open Go.RowKit RefP CellP HazP Dp
set_option linter.unusedVariables false
set_option linter.unusedSimpArgs false
/-- in the rounds: the ask's box, the memory, a row of words -/
structure Sr (w : World) (x : AskV) (base o oc g gb gr T : Nat) (L : List (Int × Int)) (bs rs : List (List Value)) (k : Nat) (nm : List Int) (wr : World) : Prop where
  X : Blk wr w.heap.size x.cells 24
  m : MemB wr base o oc g gb gr 60 T L bs rs
  L : StL T L k nm
  b : Below w.heap.size w wr
  ge : w.heap.size < g ∧ w.heap.size < gb ∧ w.heap.size < base ∧ base ≤ wr.heap.size
theorem StRes.under {w w' w'' : World} {base o oc g gb gr T : Nat} {L : List (Int × Int)} {bs rs : List (List Value)} {lo : Nat} {r : Int} {wa na : Option Addr} {W nm ns ws : List Int} (h : StRes w w' base o oc g gb gr T L bs rs lo r wa na W nm ns ws) (hb : Below w'.heap.size w' w'') : StRes w w'' base o oc g gb gr T L bs rs lo r wa na W nm ns ws :=
  ⟨h.m.under hb, h.l.below hb, h.hW.below hb, h.hN.below hb, h.hL, h.nd, h.pk, h.wl, h.nl, h.npk, h.n0, h.far, ⟨h.ge.1, h.ge.2.1, h.ge.2.2.1, Nat.le_trans h.ge.2.2.2 hb.size⟩, below_push2 h.b hb (Nat.le_refl _)⟩
theorem Sr.under {w : World} {x : AskV} {base o oc g gb gr T : Nat} {L : List (Int × Int)} {bs rs : List (List Value)} {k : Nat} {nm : List Int} {wr wx : World} (h : Sr w x base o oc g gb gr T L bs rs k nm wr) (hb : Below wr.heap.size wr wx) : Sr w x base o oc g gb gr T L bs rs k nm wx :=
  ⟨h.X.below hb, h.m.under hb, h.L, below_push2 h.b hb (Nat.le_refl _), h.ge.1, h.ge.2.1, h.ge.2.2.1, Nat.le_trans h.ge.2.2.2 hb.size⟩
theorem Sr.did {w : World} {x : AskV} {base o oc g gb gr T : Nat} {L : List (Int × Int)} {bs rs : List (List Value)} {k : Nat} {nm : List Int} {wr wx : World} (h : Sr w x base o oc g gb gr T L bs rs k nm wr) {L' : List (Int × Int)} {bs' : List (List Value)} {k' : Nat} {nm' : List Int} (hM : MemAt wx o oc g gb gr 60 T L' bs' rs) (F : Fr [g, gb] wr wx) (hL : StL T L' k' nm') : Sr w x base o oc g gb gr T L' bs' rs k' nm' wx := by
  have hg := h.ge
  exact ⟨F.blk h.X (by simp; omega), ⟨hM, h.m.lo⟩, hL, F.below h.b (Nat.le_refl _) (by simp; omega), hg.1, hg.2.1, hg.2.2.1, Nat.le_trans hg.2.2.2 F.size⟩
theorem Sr.kept {w : World} {x : AskV} {base o oc g gb gr T : Nat} {L : List (Int × Int)} {bs rs : List (List Value)} {k : Nat} {nm : List Int} {wr wx : World} (h : Sr w x base o oc g gb gr T L bs rs k nm wr) (hb : Below base wr wx) (hs : wr.heap.size ≤ wx.heap.size) : Sr w x base o oc g gb gr T L bs rs k nm wx := by
  have hg := h.ge
  exact ⟨⟨(hb.block _ hg.2.2.1).trans h.X.h⟩, h.m.below hb hg.2.2.2, h.L, h.b.trans (hb.mono (by omega)), hg.1, hg.2.1, hg.2.2.1, Nat.le_trans hg.2.2.2 hs⟩
theorem OwnsU.fr {w w' : World} {S : List Nat} {base : Nat} {a : Option Addr} {c : Nat} {l : List Int} (h : OwnsU w base a c l) (F : Fr S w w') (hS : ∀ b ∈ S, b < base) : OwnsU w' base a c l :=
  OwnsU.heap h fun g hg => F.block g (h.lt g hg).2 (fun hm => by have := hS g hm; have := (h.lt g hg).1; omega)
theorem results_tmp4 {fn : Func} {t u v x : Tmp} (h : fn.results = #[.tmp t, .tmp u, .tmp v, .tmp x]) (tmps : Array Value) (P : Program) (w : World) :
    (results fn tmps).run P w = .ok (.tuple #[tmps.getD t undef, tmps.getD u undef, tmps.getD v undef, tmps.getD x undef]) w := by
  simp [results, h]
theorem nodup60 (W : List Int) (hn : W.Nodup) (h : ∀ x ∈ W, Pk 60 x) : W.length ≤ 60 := by
  have := nodup_len ((List.range 60).map fun p => packI (p : Nat) 1) W hn (fun x hx => by
    obtain ⟨p, hp, rfl⟩ := h x hx
    exact List.mem_map.2 ⟨p, List.mem_range.2 hp, rfl⟩)
  simpa using this
/-- in the last loop: which blocks were met, the words -/
structure S3 (w : World) (x : AskV) (base o oc g gb gr T : Nat) (L : List (Int × Int)) (bs rs : List (List Value)) (nm : List Int) (a : Option Addr) (c bm : Nat) (W : List Int) (a2 : Option Addr) (c2 : Nat) (wr : World) : Prop where
  S : Sr w x base o oc g gb gr T L bs rs 60 nm wr
  N : OwnsU wr base a c nm
  M : Blk wr bm (metA W) 82
  O : OwnsU wr base a2 c2 W
  ne : ∀ q ∈ blkS a2, q ≠ bm ∧ q ∉ blkS a
  na : ∀ q ∈ blkS a, q ≠ bm
  ge : base ≤ bm
  nd : W.Nodup
  pk : ∀ x ∈ W, Pk 60 x
theorem S3.under {w : World} {x : AskV} {base o oc g gb gr T : Nat} {L : List (Int × Int)} {bs rs : List (List Value)} {nm : List Int} {a : Option Addr} {c bm : Nat} {W : List Int} {a2 : Option Addr} {c2 : Nat} {wr : World} (h : S3 w x base o oc g gb gr T L bs rs nm a c bm W a2 c2 wr) {wx : World} (hb : Below wr.heap.size wr wx) : S3 w x base o oc g gb gr T L bs rs nm a c bm W a2 c2 wx :=
  ⟨h.S.under hb, h.N.below hb, h.M.below hb, h.O.below hb, h.ne, h.na, h.ge, h.nd, h.pk⟩
theorem S3.mark {w : World} {x : AskV} {base o oc g gb gr T : Nat} {L : List (Int × Int)} {bs rs : List (List Value)} {nm : List Int} {a : Option Addr} {c bm : Nat} {W : List Int} {a2 : Option Addr} {c2 : Nat} {wr : World} (h : S3 w x base o oc g gb gr T L bs rs nm a c bm W a2 c2 wr) (p : Nat) (hp : p < 60) (W' : List Int) (hW : ∀ x, x ∈ W' ↔ x ∈ W ∨ x = packI p 1) : Blk (wr.setCell ⟨bm, p, none⟩ (.int .i64 1)) bm (metA W') 82 := by
  have := h.M.set p (.int .i64 1)
  rwa [metA_set W p hp W' hW] at this
theorem S3.met {w : World} {x : AskV} {base o oc g gb gr T : Nat} {L : List (Int × Int)} {bs rs : List (List Value)} {nm : List Int} {a : Option Addr} {c bm : Nat} {W : List Int} {a2 : Option Addr} {c2 : Nat} {wr : World} (h : S3 w x base o oc g gb gr T L bs rs nm a c bm W a2 c2 wr) (p : Nat) (hp : p < 60) (hm : packI (p : Int) 1 ∈ W) : S3 w x base o oc g gb gr T L bs rs nm a c bm W a2 c2 (wr.setCell ⟨bm, p, none⟩ (.int .i64 1)) := by
  have F : Fr [bm] wr (wr.setCell ⟨bm, p, none⟩ (.int .i64 1)) := Fr.set (Fr.refl _ _) _ _ (.inl (by simp))
  have hgb := h.S.ge.2.2.2
  refine ⟨h.S.kept (F.below (Below.refl base wr) hgb (by simpa using h.ge)) F.size, OwnsU.heap h.N fun q hq => F.block q (h.N.lt q hq).2 (by simpa using h.na q (blkS_own hq)), h.mark p hp W (fun z => ⟨fun k => .inl k, fun k => ?_⟩), OwnsU.heap h.O fun q hq => F.block q (h.O.lt q hq).2 (by simpa using (h.ne q (blkS_own hq)).1), h.ne, h.na, h.ge, h.nd, h.pk⟩
  rcases k with k | k
  · exact k
  · rw [k]; exact hm
theorem S3.grow {w : World} {x : AskV} {base o oc g gb gr T : Nat} {L : List (Int × Int)} {bs rs : List (List Value)} {nm : List Int} {a : Option Addr} {c bm : Nat} {W : List Int} {a2 : Option Addr} {c2 : Nat} {wr : World} (h : S3 w x base o oc g gb gr T L bs rs nm a c bm W a2 c2 wr) {y : Int} {v : Value} {m g' cap : Nat} {l' : List Int} {wA : World} (KA : AddedU (wr.alloc (.cells #[.int .u64 y] 35)) base a2 c2 W v m l' g' cap wA) (hl : l'.Nodup ∧ ∀ x ∈ l', Pk 60 x) :
    Sr w x base o oc g gb gr T L bs rs 60 nm wA ∧ OwnsU wA base a c nm ∧ Blk wA bm (metA W) 82 ∧ (∀ q ∈ blkS (some (⟨g', 0, none⟩ : Addr)), q ≠ bm ∧ q ∉ blkS a) := by
  have hgb := h.S.ge.2.2.2
  have hb : Below wr.heap.size wr (wr.alloc (.cells #[.int .u64 y] 35)) := (Below.refl _ wr).alloc (Nat.le_refl _) _
  have H := h.under hb
  have F : Fr (blkS a2) (wr.alloc (.cells #[.int .u64 y] 35)) wA := Fr.of_grown KA.grown (fun q e => blkS_own e)
  have hge : ∀ q ∈ blkS a2, base ≤ q := fun q hq => (h.O.lt q (own_blkS hq)).1
  refine ⟨H.S.kept (F.below (Below.refl base _) H.S.ge.2.2.2 hge) F.size, OwnsU.heap H.N fun q hq => F.block q (H.N.lt q hq).2 (fun k => (h.ne q k).2 (blkS_own hq)), F.blk H.M (fun k => (h.ne bm k).1 rfl), fun q hq => ?_⟩
  obtain rfl : q = g' := by simpa [blkS] using hq
  rcases KA.at' with k | k
  · exact h.ne q (blkS_own k)
  · have h1 := h.M.lt
    refine ⟨by rw [k]; simp; omega, fun e => ?_⟩
    have := (h.N.lt q (own_blkS e)).2
    rw [k] at this
    simp at this
    omega
theorem S3.bmA {w : World} {x : AskV} {base o oc g gb gr T : Nat} {L : List (Int × Int)} {bs rs : List (List Value)} {nm : List Int} {a : Option Addr} {c bm : Nat} {W : List Int} {a2 : Option Addr} {c2 : Nat} {wr : World} (h : S3 w x base o oc g gb gr T L bs rs nm a c bm W a2 c2 wr) {y : Int} {v : Value} {m g' cap : Nat} {l' : List Int} {wA : World} (KA : AddedU (wr.alloc (.cells #[.int .u64 y] 35)) base a2 c2 W v m l' g' cap wA) : Blk wA bm (metA W) 82 := by
  have hb : Below wr.heap.size wr (wr.alloc (.cells #[.int .u64 y] 35)) := (Below.refl _ wr).alloc (Nat.le_refl _) _
  exact (h.M.below hb).grown KA.grown (fun e => (h.ne bm (blkS_own e.symm)).1 rfl)
theorem S3.add {w : World} {x : AskV} {base o oc g gb gr T : Nat} {L : List (Int × Int)} {bs rs : List (List Value)} {nm : List Int} {a : Option Addr} {c bm : Nat} {W : List Int} {a2 : Option Addr} {c2 : Nat} {wr : World} (h : S3 w x base o oc g gb gr T L bs rs nm a c bm W a2 c2 wr) (p : Nat) (hp : p < 60) (hm : packI (p : Int) 1 ∉ W) {v : Value} {m g' cap : Nat} {wA : World} (KA : AddedU (wr.alloc (.cells #[.int .u64 (packI p 1)] 35)) base a2 c2 W v m (W ++ [packI p 1]) g' cap wA) :
    S3 w x base o oc g gb gr T L bs rs nm a c bm (W ++ [packI p 1]) (some ⟨g', 0, none⟩) cap (wA.setCell ⟨bm, p, none⟩ (.int .i64 1)) := by
  have hnd : (W ++ [packI (p : Int) 1]).Nodup := by
    rw [List.nodup_append]
    exact ⟨h.nd, by simp, fun z hz u hu => by rw [List.mem_singleton.1 hu]; exact fun e => hm (e ▸ hz)⟩
  have hpk : ∀ z ∈ W ++ [packI (p : Int) 1], Pk 60 z := fun z hz => by
    rcases List.mem_append.1 hz with q | q
    · exact h.pk z q
    · rw [List.mem_singleton.1 q]; exact ⟨p, hp, rfl⟩
  obtain ⟨S1, N1, M1, ne1⟩ := h.grow KA ⟨hnd, hpk⟩
  have F : Fr [bm] wA (wA.setCell ⟨bm, p, none⟩ (.int .i64 1)) := Fr.set (Fr.refl _ _) _ _ (.inl (by simp))
  have hW : ∀ z, z ∈ W ++ [packI (p : Int) 1] ↔ z ∈ W ∨ z = packI p 1 := fun z => by simp
  have M2 := M1.set p (.int .i64 1)
  rw [metA_set W p hp _ hW] at M2
  exact ⟨S1.kept (F.below (Below.refl base wA) S1.ge.2.2.2 (by simpa using h.ge)) F.size, OwnsU.heap N1 fun q hq => F.block q (N1.lt q hq).2 (by simpa using h.na q (blkS_own hq)), M2, OwnsU.heap KA.own fun q hq => F.block q (KA.own.lt q hq).2 (by simpa using (ne1 q (blkS_own hq)).1), ne1, h.na, h.ge, hnd, hpk⟩
set_option maxRecDepth 100000 in
set_option maxHeartbeats 12800000 in
theorem rtStart_any (x : AskV) (T : Nat) (r : Int) (w : World) (hx : AskAt w x) (hT : (T : Int) = x.t % 4 + 1) (hr : r = 2 * (T : Int) + (x.r % 6 + 1)) :
    Calls Try.prog 7 #[.agg x.cells] w (StartAt w T r x.ns x.ws) := by
  have ht := hx.t
  have hrr := hx.r
  have hw1 : IntKind.i64.wrap x.t = x.t := by rw [IntKind.wrap_i64]; omega
  have hw2 : IntKind.i64.wrap (x.t % 4) = x.t % 4 := by rw [IntKind.wrap_i64]; omega
  have hw3 : IntKind.i64.wrap (x.t % 4 + 1) = x.t % 4 + 1 := by rw [IntKind.wrap_i64]; omega
  have hb0 : Below w.heap.size w (w.alloc (.cells x.cells 24)) := by (repeat (first | exact Below.refl _ _ | assumption | refine below_alloc2 ?_ (by first | exact Nat.le_refl _ | omega) _ | refine Below.drew ?_ | refine below_drewN ?_ _ | refine below_push2 ?_ ‹_› (by first | exact Nat.le_refl _ | omega) | refine Below.setCell ?_ (by first | (simp; done) | (simp; omega) | omega) _))
  have BX := Blk.new w x.cells 24
  have hs0 : (w.alloc (.cells x.cells 24)).heap.size = w.heap.size + 1 := by simp
  have hX := hx.below hb0
  have hT14 : 1 ≤ T ∧ T ≤ 4 := by omega
  have hTe := hT.symm
  clear hT
  go_enter Try.func7, Try.ntmps7
  go_upto_region 1 with (fail)
  generalize w.alloc (.cells x.cells 24) = w1 at hb0 BX hX hs0 ⊢
  have b0 : w1.cell? ⟨w.heap.size, 0, none⟩ = some (.int .u8 x.t) := BX.at 0 rfl
  go_wp2_with fail
  refine (mnew_yes 60 T 0 _ (by omega) (by omega) (by omega) (by omega) (by omega) (by omega)).mono ?_
  rintro e w2 ⟨o, oc, g, gb, gr, rfl, hM, hB2, ho, hoc, hg, hgb, hgr⟩
  obtain ⟨base, hbase⟩ : ∃ base, base = w2.heap.size := ⟨_, rfl⟩
  have hs2 := hB2.size
  have S0 : Sr w x base o oc g gb gr T (freshL 60 T 0) _ _ 0 [] w2 := ⟨BX.below hB2, ⟨hM, by rw [hbase]; exact ⟨hM.head.lt, hM.cells.head.lt, hM.cells.rows.lt, hM.blocks.lt, hM.records.lt⟩⟩, StL.fresh T, below_push2 hb0 hB2 (Nat.le_refl _), by omega, by omega, by omega, by omega⟩
  clear hM hB2 BX hb0 b0 hX hw1 hw2 hw3 ho hoc hg hgb hgr
  replace hbase := Lib.hid hbase
  go_wp2_with fail
  go_loopw [24] (fun i wr => ∃ k L bs rs, k ≤ 60 ∧ i = .int .i64 (k : Nat) ∧ Sr w x base o oc g gb gr T L bs rs k [] wr) (fun i _ => 60 - (intOf i).toNat)
  case atStart => exact ⟨0, _, _, _, by omega, rfl, S0⟩
  case round =>
    clear S0
    obtain ⟨k, L, bs, rs, hk, rfl, S⟩ := hrel
    by_cases hlt : k < 60
    · have hlt' : (k : Int) < 60 := by omega
      go_wp2_with fail
      refine (muse_any (k : Int) _ S.m.m (by omega) (by omega)).mono ?_
      rw [use_at (A := 60) (T := T) hlt]
      rintro e w3 ⟨rfl, hb3⟩
      have S3 := S.under hb3
      clear S hb3
      go_wp2_with fail
      refine (duse_any 1 1 _ (by omega) (by omega) (by omega) (by omega)).mono ?_
      rintro e wx ⟨rfl, rfl⟩
      go_wp2_with fail
      refine (do_store (60 + (k : Int)) 0 (useI 1 1) _ _ _ _ _ _ _ _ _ _ _ _ _ _ _ _ _ _ _ _ _ _ _ S3.m.m (by decide +kernel) (by decide +kernel)).mono ?_
      rintro e w4 ⟨rfl, hM4, hF4⟩
      have S4 := S3.did hM4 hF4 (S3.L.use hlt)
      clear S3 hM4 hF4
      go_wp2_with fail
      go_roundw
      case rel => exact ⟨k + 1, _, _, _, by omega, by go_num, S4⟩
      case measure => simp [intOf]; omega
    · obtain rfl : k = 60 := by omega
      obtain ⟨na, hna⟩ : ∃ na, na = x.na := ⟨_, rfl⟩
      have BN : Bys w na x.ns := by rw [hna]; exact hx.N
      have b3 : wr.cell? ⟨w.heap.size, 3, none⟩ = some (.slice na x.ns.length x.nc) := by rw [hna]; exact S.X.at 3 rfl
      replace hna := Lib.hid hna
      have hwT : IntKind.i64.wrap (2 * (T : Int)) = 2 * (T : Int) := by rw [IntKind.wrap_i64]; omega
      have hlN := hx.len.2
      go_wp2_with fail
      clear b3
      obtain ⟨wo, rfl⟩ : ∃ wo : World, wo = wr := ⟨_, rfl⟩
      go_loopg [9, 38] (x.ns.length) (fun gg u9 i wr => ∃ k L bs rs nm a c, k ≤ x.ns.length ∧ x.ns.length ≤ k + gg ∧ u9 = .slice a (nm : List Int).length c ∧ i = .int .i64 (k : Nat) ∧ Sr w x base o oc g gb gr T L bs rs 60 nm wr ∧ OwnsU wr base a c nm ∧ (∀ y ∈ nm, Pk 60 y) ∧ nm.length ≤ k ∧ nm.length ≤ 2 * T ∧ (k ≤ nm.length ∨ 2 * T ≤ nm.length))
      case atStart => exact ⟨0, L, bs, rs, [], none, 0, Nat.zero_le _, by omega, rfl, rfl, S, OwnsU.nil _ _, by simp, by simp, by simp, by simp⟩
      case round =>
        clear S
        obtain ⟨k, L, bs, rs, nm, a, c, hk, hkg, rfl, rfl, S, O, hpk, hn1, hn2, hn3⟩ := hrel
        by_cases hlt : k < x.ns.length
        · obtain ⟨bb, off, rfl, hbl, hc⟩ := (BN.below S.b).cell k hlt
          have hlt' : (k : Int) < (x.ns.length : Int) := by omega
          have hy := hx.N.rng (at0 x.ns k) (at0_mem x.ns k hlt)
          generalize at0 x.ns k = y at hc hy
          by_cases hk2 : k < 2 * T
          · have q1 : decide ((k : Int) < 2 * (T : Int)) = true := by simp; omega
            have hnk : nm.length = k := by omega
            obtain ⟨p, hp⟩ : ∃ p : Nat, (p : Int) = y % 60 := ⟨(y % 60).toNat, by omega⟩
            have hp60 : p < 60 := by omega
            replace hp := hp.symm
            have hw1 : IntKind.i64.wrap y = y := by rw [IntKind.wrap_i64]; omega
            have hw2 : IntKind.i64.wrap (p : Int) = (p : Int) := by rw [IntKind.wrap_i64]; omega
            have hw3 : IntKind.i64.wrap ((k : Int) / 2) = (k : Int) / 2 := by rw [IntKind.wrap_i64]; omega
            have hw4 : IntKind.i64.wrap ((k : Int) % 2) = (k : Int) % 2 := by rw [IntKind.wrap_i64]; omega
            have hpkp : Pk 60 (packI p 1) := ⟨p, hp60, rfl⟩
            have hL2 := S.L.haz (by omega) (packI p 1) (by omega)
            rw [hnk] at hL2
            have hnl : nm.length + 1 ≤ 65536 := by omega
            replace hnk := Lib.hid hnk
            go_wp2_with fail
            refine (dpack_any (p : Int) 1 _ (by omega) (by omega) (by omega) (by omega)).mono ?_
            rintro e wx ⟨rfl, rfl⟩
            go_wp2_with fail
            have hhz := haz_any ((k : Int) / 2) ((k : Int) % 2) _ S.m.m
            rw [show hazI 60 T ((k : Int) / 2) ((k : Int) % 2) = 120 + 3 * (T : Int) + (k : Int) by rw [haz_at hk2]; omega] at hhz
            refine hhz.mono ?_
            rintro e w3 ⟨rfl, hb3⟩
            have S3 := S.under hb3
            have O3 := O.below hb3
            clear S O hb3 hhz hw1 hw2 hw3 hw4 hc
            go_wp2_with fail
            refine (do_store (120 + 3 * (T : Int) + (k : Int)) 0 (packI p 1) _ _ _ _ _ _ _ _ _ _ _ _ _ _ _ _ _ _ _ _ _ _ _ S3.m.m (packI_lo _ _) (packI_hi _ _)).mono ?_
            rintro e w4 ⟨rfl, hM4, hF4⟩
            have S4 := S3.did hM4 hF4 hL2
            have O4 := OwnsU.fr O3 hF4 (by have := S3.m.lo; simp; omega)
            clear S3 O3 hM4 hF4 hL2
            obtain ⟨g', cap, wA, KA⟩ := addOne base O4 (packI p 1) ⟨packI_lo _ _, packI_hi _ _⟩ hnl S4.ge.2.2.2
            have hrun := Lib.hid KA.run
            have hbA := KA.keeps (fun q e => (O4.lt q e).1) w4 base (Nat.le_refl _) ((Below.refl base w4).alloc S4.ge.2.2.2 _) (by have := S4.ge.2.2.2; simp; omega)
            have S5 := S4.kept hbA hbA.size
            have O5 := KA.own
            clear KA S4 O4 hbA
            go_wp2_with (at_builtin; refine wpList_append_run hrun.out rfl (by rfl) (by rfl) (by rfl) ?_)
            go_roundg (x.ns.length - (k + 1))
            case measure => omega
            case rel =>
              have hk9 := hnk.out
              exact ⟨k + 1, _, _, _, nm ++ [packI p 1], _, _, by omega, by omega, by rw [List.length_append, List.length_singleton], by go_num, S5, O5, fun z hz => by
                rcases List.mem_append.1 hz with q | q
                · exact hpk z q
                · rw [List.mem_singleton.1 q]; exact hpkp, by rw [List.length_append, List.length_singleton]; omega, by rw [List.length_append, List.length_singleton]; omega, by rw [List.length_append, List.length_singleton]; omega⟩
          · have q1 : decide ((k : Int) < 2 * (T : Int)) = false := by simp; omega
            go_wp2_with fail
            go_roundg (x.ns.length - (k + 1))
            case measure => omega
            case rel => exact ⟨k + 1, _, _, _, nm, _, _, by omega, by omega, rfl, by go_num, S, O, hpk, by omega, hn2, by omega⟩
        · obtain rfl : k = x.ns.length := by omega
          have hn0 : 0 < x.ns.length → 0 < nm.length := fun h => by omega
          obtain ⟨wa, hwa⟩ : ∃ wa, wa = x.wa := ⟨_, rfl⟩
          have BW : Bys w wa x.ws := by rw [hwa]; exact hx.W
          have b2 : wr.cell? ⟨w.heap.size, 2, none⟩ = some (.slice wa x.ws.length x.wc) := by rw [hwa]; exact S.X.at 2 rfl
          replace hwa := Lib.hid hwa
          clear hn1 hn3 hlt
          go_upto_region 19 with (fail)
          have hz0 : (#[.int .i64 0, .int .i64 0, .int .i64 0, .int .i64 0, .int .i64 0, .int .i64 0, .int .i64 0, .int .i64 0, .int .i64 0, .int .i64 0, .int .i64 0, .int .i64 0, .int .i64 0, .int .i64 0, .int .i64 0, .int .i64 0, .int .i64 0, .int .i64 0, .int .i64 0, .int .i64 0, .int .i64 0, .int .i64 0, .int .i64 0, .int .i64 0, .int .i64 0, .int .i64 0, .int .i64 0, .int .i64 0, .int .i64 0, .int .i64 0, .int .i64 0, .int .i64 0, .int .i64 0, .int .i64 0, .int .i64 0, .int .i64 0, .int .i64 0, .int .i64 0, .int .i64 0, .int .i64 0, .int .i64 0, .int .i64 0, .int .i64 0, .int .i64 0, .int .i64 0, .int .i64 0, .int .i64 0, .int .i64 0, .int .i64 0, .int .i64 0, .int .i64 0, .int .i64 0, .int .i64 0, .int .i64 0, .int .i64 0, .int .i64 0, .int .i64 0, .int .i64 0, .int .i64 0, .int .i64 0] : Array Value) = metA [] := by kernel_rfl
          rw [hz0]
          clear hz0
          have hb5 : Below wr.heap.size wr (wr.alloc (.cells (metA []) 82)) := (Below.refl _ wr).alloc (Nat.le_refl _) _
          have hsz5 : (wr.alloc (.cells (metA []) 82)).heap.size = wr.heap.size + 1 := by simp
          have BM := Blk.new wr (metA []) 82
          have Q0 : S3 w x base o oc g gb gr T L bs rs nm a c wr.heap.size [] none 0 (wr.alloc (.cells (metA []) 82)) :=
            ⟨S.under hb5, O.below hb5, BM, OwnsU.nil _ _, by simp [blkS], fun q hq => by have := (O.lt q (own_blkS hq)).2; omega, S.ge.2.2.2, by simp, by simp⟩
          generalize wr.alloc (.cells (metA []) 82) = w5 at Q0 ⊢
          have b2' : w5.cell? ⟨w.heap.size, 2, none⟩ = some (.slice wa x.ws.length x.wc) := by rw [hwa.out]; exact Q0.S.X.at 2 rfl
          have hlW := hx.len.1
          obtain ⟨bm, hbm⟩ : ∃ bm, bm = wr.heap.size := ⟨_, rfl⟩
          rw [← hbm] at Q0 ⊢
          replace hbm := Lib.hid hbm
          replace hn0 := Lib.hid hn0
          clear b2 hb5 hsz5 BM S O
          go_wp2_with fail
          clear b2'
          obtain ⟨wp, rfl⟩ : ∃ wp : World, wp = wr := ⟨_, rfl⟩
          go_loopg [13, 69] (x.ws.length) (fun gg u13 i wr => ∃ k W a2 c2, k ≤ x.ws.length ∧ x.ws.length ≤ k + gg ∧ u13 = .slice a2 (W : List Int).length c2 ∧ i = .int .i64 (k : Nat) ∧ W.length ≤ k ∧ W.length ≤ 60 ∧ S3 w x base o oc g gb gr T L bs rs nm a c bm W a2 c2 wr)
          case atStart => exact ⟨0, [], none, 0, Nat.zero_le _, by omega, rfl, rfl, by simp, by simp, Q0⟩
          case round =>
            clear Q0
            obtain ⟨k, W, a2, c2, hk, hkg, rfl, rfl, hWk, hW60, Q⟩ := hrel
            by_cases hlt : k < x.ws.length
            · obtain ⟨bb, off, rfl, hbl, hc⟩ := (BW.below Q.S.b).cell k hlt
              have hlt' : (k : Int) < (x.ws.length : Int) := by omega
              have hy := hx.W.rng (at0 x.ws k) (at0_mem x.ws k hlt)
              generalize at0 x.ws k = y at hc hy
              obtain ⟨p, hp⟩ : ∃ p : Nat, (p : Int) = y % 60 := ⟨(y % 60).toNat, by omega⟩
              have hp60 : p < 60 := by omega
              have hp60' : (p : Int) < 60 := by omega
              replace hp := hp.symm
              have hw1 : IntKind.i64.wrap y = y := by rw [IntKind.wrap_i64]; omega
              have hw2 : IntKind.i64.wrap (p : Int) = (p : Int) := by rw [IntKind.wrap_i64]; omega
              have cM := Q.M.at p (metA_at W p hp60)
              have fM := Q.M.free p
              by_cases hm : packI (p : Int) 1 ∈ W
              · rw [if_pos hm] at cM
                have Q2 := Q.met p hp60 hm
                clear hm Q
                go_wp2_with fail
                go_roundg (x.ws.length - (k + 1))
                case measure => omega
                case rel => exact ⟨k + 1, W, _, _, by omega, by omega, rfl, by go_num, by omega, hW60, Q2⟩
              · rw [if_neg hm] at cM
                have hl9 := nodup60 (W ++ [packI (p : Int) 1]) (by
                  rw [List.nodup_append]
                  exact ⟨Q.nd, by simp, fun z hz u hu => by rw [List.mem_singleton.1 hu]; exact fun e => hm (e ▸ hz)⟩) (fun z hz => by
                  rcases List.mem_append.1 hz with q | q
                  · exact Q.pk z q
                  · rw [List.mem_singleton.1 q]; exact ⟨p, hp60, rfl⟩)
                rw [List.length_append, List.length_singleton] at hl9
                obtain ⟨g', cap, wA, KA⟩ := addOne base Q.O (packI p 1) ⟨packI_lo _ _, packI_hi _ _⟩ (by omega) Q.S.ge.2.2.2
                have hrun := Lib.hid KA.run
                have Q2 := Q.add p hp60 hm KA
                have BMA := Q.bmA KA
                have cMA := BMA.at p (metA_at W p hp60)
                have fMA := BMA.free p
                rw [if_neg hm] at cMA
                clear hm KA Q BMA
                go_wp2_with fail
                refine (dpack_any (p : Int) 1 _ (by omega) (by omega) (by omega) (by omega)).mono ?_
                rintro e wx ⟨rfl, rfl⟩
                go_wp2_with (at_builtin; refine wpList_append_run hrun.out rfl (by rfl) (by rfl) (by rfl) ?_)
                go_roundg (x.ws.length - (k + 1))
                case measure => omega
                case rel => exact ⟨k + 1, W ++ [packI (p : Int) 1], _, _, by omega, by omega, by rw [List.length_append, List.length_singleton], by go_num, by rw [List.length_append, List.length_singleton]; omega, by rw [List.length_append, List.length_singleton]; omega, Q2⟩
            · obtain rfl : k = x.ws.length := by omega
              have b1 : wr.cell? ⟨w.heap.size, 1, none⟩ = some (.int .u8 x.r) := Q.S.X.at 1 rfl
              have hw1 : IntKind.i64.wrap x.r = x.r := by rw [IntKind.wrap_i64]; omega
              have hw2 : IntKind.i64.wrap (x.r % 6) = x.r % 6 := by rw [IntKind.wrap_i64]; omega
              have hw3 : IntKind.i64.wrap (x.r % 6 + 1) = x.r % 6 + 1 := by rw [IntKind.wrap_i64]; omega
              have hrm : roomI (T : Int) (x.r % 6 + 1) = r := by
                unfold roomI
                rw [if_neg (by omega), hr]
                omega
              have hr1 : 1 ≤ r ∧ r ≤ 1056 := by omega
              replace hr := Lib.hid hr
              have hroom := room_any (T : Int) (x.r % 6 + 1) wr (by omega) (by omega) (by omega) (by omega)
              rw [hrm] at hroom
              clear hrm
              go_wp2_with fail
              refine hroom.mono ?_
              rintro e wx ⟨rfl, rfl⟩
              go_wp2_with fail
              refine (hazNew_yes r _ hr1.1 hr1.2).mono ?_
              rintro e w7 ⟨⟨lo, rfl, hlo, hL⟩, hb7⟩
              go_wp2_with fail
              refine bodyPost_ret (results_tmp4 rfl _ _ _) rfl ?_
              have Q7 := Q.under hb7
              refine ⟨base, o, oc, g, gb, gr, L, bs, rs, lo, a2, c2, W, a, c, nm, rfl, Q7.S.m, hL base Q.S.ge.2.2.2, Q7.O.words (by omega), Q7.N.words (by omega), Q7.S.L, Q7.nd, Q7.pk, hWk, hn2, hpk, hn0.out, ⟨fun q hq => ?_, fun q hq => ?_⟩, ⟨by have := Q7.S.ge; omega, by have := Q7.S.ge; omega, by have := Q7.S.ge; omega, Q7.S.ge.2.2.2⟩, Q7.S.b⟩
              · have := Q.O.lt q (own_blkS hq); exact ⟨this.1, by omega⟩
              · have := Q.N.lt q (own_blkS hq); exact ⟨this.1, by omega⟩
end Go.Proofs.Ytchkiacmiljopaa.MemP
