/-
  retire: while others write into hazards: how it lies in memory; rows of places.
-/
import Derived.Test.YtchkiacmiljopaaRetB
import Derived.Test.YtchkiacmiljopaaRetK
import Derived.Test.YtchkiacmiljopaaRetZ
import Derived.Test.YtchkiacmiljopaaOpenInts
namespace Go.Proofs.Ytchkiacmiljopaa.MemP
open Go.RowKit RefP CellP HazP Dp
set_option linter.unusedVariables false
set_option linter.unusedSimpArgs false
/-! rows of places -/
theorem infoInt : (Try.prog.info? 3).map (fun i => (i.zero, i.size, i.bytes)) = some (some (.int .i64 0), 1, 8) := by kernel_rfl
abbrev intF (x : Int) (j : Nat) : Value := .int .i64 x
abbrev OwnI (w : World) (base : Nat) (a : Option Addr) (c : Nat) (l : List Int) : Prop := OwnR 1 intF 0 w base 3 a c l
theorem addInt {w : World} (base : Nat) {a : Option Addr} {c : Nat} {l : List Int} (h : OwnI w base a c l) {b : Nat} (x : Int) (B : Blk w b #[.int .i64 x] 3) (hn : l.length + 1 ≤ 60000) (hbase : base ≤ w.heap.size) :
    ∃ g cap w', AddedR Try.prog 1 intF 0 w base 34 3 a c l (.slice (some ⟨b, 0, none⟩) 1 1) 1 (l ++ [x]) g cap w' := by
  obtain ⟨i0, hi, hz0, hz1, hz2⟩ := info_parts' infoInt
  have hx : RecS 1 intF 0 w (some ⟨b, 0, none⟩) [x] := rec_lit B x (fun j hj => by
    obtain rfl : j = 0 := by omega
    rfl)
  exact addRecs base _ _ i0 _ 8 Try.underlying34 hi hz0 hz1 hz2 (by simp [Value.cells]) (by omega) (fun x j hj => rfl) h hx (by simp) (by simp [maxLen]; omega) (by simp; omega) hbase
theorem rowI {w : World} {base : Nat} {a : Option Addr} {c : Nat} {l : List Int} (h : OwnI w base a c l) (h0 : 0 < l.length) : ∃ b off, a = some ⟨b, off, none⟩ ∧ b < w.heap.size ∧ ∀ j, j < l.length → w.cell? ⟨b, off + j, none⟩ = some (.int .i64 (at0 l j)) := by
  obtain ⟨b, off, ha, hb, hc⟩ := (OwnR.read h).row.get (by omega)
  refine ⟨b, off, ha, hb, fun j hj => ?_⟩
  have := hc j (by omega)
  rw [this]
  have := recF_at (k := 1) intF 0 l j 0 (by omega)
  rw [Nat.mul_one, Nat.add_zero] at this
  rw [this]
  rfl
theorem OwnI.cap_le {w : World} {base : Nat} {a : Option Addr} {c : Nat} {l : List Int} (h : OwnI w base a c l) : l.length ≤ c := by
  rcases h.own.2 with ⟨e, _⟩ | ⟨g, cap, cur, e, _, _, hnc, _⟩
  · injection e with e1 e2 e3; omega
  · injection e with e1 e2 e3; omega
/-- in the rounds -/
structure Kr (w0 : World) (base o oc g gb gr T : Nat) (L : List (Int × Int)) (bs rs : List (List Value)) (t lo : Nat) (r : Int) (d0 d : RA) (s : RS) (af : Option Addr) (cf : Nat) (fl : List Int) (wr : World) : Prop where
  m : MemB wr base o oc g gb gr 60 T L bs rs
  R : RtAt wr base o t lo r 60 d s
  F : OwnI wr w0.heap.size af cf fl
  fr : Fr (g :: gb :: allB t lo d0) w0 wr
  sub : ∀ b ∈ allB t lo d, b ∈ allB t lo d0 ∨ w0.heap.size ≤ b
  ne : ∀ b ∈ blkS af, b ∉ allB t lo d
  hs : base ≤ w0.heap.size
theorem Kr.under {w0 : World} {base o oc g gb gr T : Nat} {L : List (Int × Int)} {bs rs : List (List Value)} {t lo : Nat} {r : Int} {d0 d : RA} {s : RS} {af : Option Addr} {cf : Nat} {fl : List Int} {wr : World} (h : Kr w0 base o oc g gb gr T L bs rs t lo r d0 d s af cf fl wr) {wx : World} (hb : Below wr.heap.size wr wx) : Kr w0 base o oc g gb gr T L bs rs t lo r d0 d s af cf fl wx :=
  ⟨h.m.under hb, h.R.under hb, OwnR.below h.F hb, h.fr.trans (Fr.of_below hb), h.sub, h.ne, h.hs⟩
theorem Kr.le {w0 : World} {base o oc g gb gr T : Nat} {L : List (Int × Int)} {bs rs : List (List Value)} {t lo : Nat} {r : Int} {d0 d : RA} {s : RS} {af : Option Addr} {cf : Nat} {fl : List Int} {wr : World} (h : Kr w0 base o oc g gb gr T L bs rs t lo r d0 d s af cf fl wr) : base ≤ wr.heap.size := Nat.le_trans h.hs h.fr.size
theorem Kr.told {w0 : World} {base o oc g gb gr T : Nat} {L : List (Int × Int)} {bs rs : List (List Value)} {t lo : Nat} {r : Int} {d0 d : RA} {s : RS} {af : Option Addr} {cf : Nat} {fl : List Int} {wr : World} (h : Kr w0 base o oc g gb gr T L bs rs t lo r d0 d s af cf fl wr) {wx : World} {d' : RA} {s' : RS} (X : RtAt wx base o t lo r 60 d' s') (M : Mv (allB t lo d) (allB t lo d') wr wx) : Kr w0 base o oc g gb gr T L bs rs t lo r d0 d' s' af cf fl wx := by
  have hsz := h.fr.size
  refine ⟨h.m.below (M.below (fun b hb => (h.R.all_ge b hb).1) h.le) h.le, X, OwnR.heap h.F fun q hq => M.fr.block q (OwnR.lt h.F q hq).2 (h.ne q (blkS_own hq)), fr_new h.fr M.fr (fun b hb => ?_), fun b hb => ?_, fun b hb hm => ?_, h.hs⟩
  · rcases h.sub b hb with q | q
    · exact .inl (by simp [q])
    · exact .inr q
  · rcases M.sub b hb with q | q
    · exact h.sub b q
    · exact .inr (by omega)
  · rcases M.sub b hm with q | q
    · exact h.ne b hb q
    · have := (OwnR.lt h.F b (own_blkS hb)).2; omega
theorem Kr.did {w0 : World} {base o oc g gb gr T : Nat} {L : List (Int × Int)} {bs rs : List (List Value)} {t lo : Nat} {r : Int} {d0 d : RA} {s : RS} {af : Option Addr} {cf : Nat} {fl : List Int} {wr : World} (h : Kr w0 base o oc g gb gr T L bs rs t lo r d0 d s af cf fl wr) {wx : World} {L' : List (Int × Int)} {bs' : List (List Value)} (hM : MemAt wx o oc g gb gr 60 T L' bs' rs) (F : Fr [g, gb] wr wx) : Kr w0 base o oc g gb gr T L' bs' rs t lo r d0 d s af cf fl wx := by
  have hl := h.m.lo
  have hhs := h.hs
  exact ⟨⟨hM, hl⟩, h.R.off F (fun b hb => .inl (by simp at hb; omega)), OwnR.fr h.F F (by simp; omega), h.fr.trans (F.more (by simp)), h.sub, h.ne, h.hs⟩
theorem Kr.added {w0 : World} {base o oc g gb gr T : Nat} {L : List (Int × Int)} {bs rs : List (List Value)} {t lo : Nat} {r : Int} {d0 d : RA} {s : RS} {af : Option Addr} {cf : Nat} {fl : List Int} {wr : World} (h : Kr w0 base o oc g gb gr T L bs rs t lo r d0 d s af cf fl wr) {wx : World} {x : Int} {v : Value} {g' cap : Nat} {w' : World} (hb : Below wr.heap.size wr wx)
    (K : AddedR Try.prog 1 intF 0 wx w0.heap.size 34 3 af cf fl v 1 (fl ++ [x]) g' cap w') : Kr w0 base o oc g gb gr T L bs rs t lo r d0 d s (some ⟨g', 0, none⟩) cap (fl ++ [x]) w' := by
  have H := h.under hb
  have hl := h.m.lo
  have hhs := h.hs
  have hlt := fun q e => (OwnR.lt H.F q e).1
  have hF : Fr (blkS af) wx w' := Fr.of_grown K.grown (fun q e => blkS_own e)
  have hge : ∀ b ∈ blkS af, w0.heap.size ≤ b := fun b k => hlt b (own_blkS k)
  refine ⟨⟨H.m.m.off hF ⟨?_, ?_, ?_, ?_, ?_⟩, hl⟩, H.R.off hF (fun b k => ?_), K.own, fr_new H.fr hF (fun b k => .inr (hge b k)), h.sub, fun b k hm => ?_, hhs⟩
  · intro k; have := hge _ k; omega
  · intro k; have := hge _ k; omega
  · intro k; have := hge _ k; omega
  · intro k; have := hge _ k; omega
  · intro k; have := hge _ k; omega
  · have := h.ne b k
    simp only [allB, List.mem_append, not_or] at this
    exact .inr ⟨this.1, this.2.1, this.2.2⟩
  · obtain rfl : b = g' := by simpa [blkS] using k
    rcases K.at' with q | q
    · exact h.ne b (blkS_own q) hm
    · have := (H.R.all_ge b hm).2; omega
/-- the places of words -/
def placeL (l : List Int) : List Int := l.map fun x => 60 + openP x
/-- what the statement holds all the while: so many rounds may still come -/
structure Kv (T : Nat) (r : Int) (W : List Int) (p0 : Int) (s : RS) (L : List (Int × Int)) (fw : List Int) (fl : List Int) (i : Nat) : Prop where
  k : Kp T W p0 s fw
  fl : fl = placeL fw
  pot : pot T s + i ≤ 540
  L : L.length = 121 + 5 * T ∧ loadW L (120 + 3 * T) = p0
theorem Kv.len {T : Nat} {r : Int} {W : List Int} {p0 : Int} {s : RS} {L : List (Int × Int)} {fw fl : List Int} {i : Nat} (h : Kv T r W p0 s L fw fl i) : fl.length ≤ W.length := by
  rw [h.fl]
  have := h.k.perm.length_eq
  simp [placeL] at this ⊢
  omega
theorem Kv.nrm {T : Nat} {r : Int} {W : List Int} {p0 : Int} {s : RS} {L : List (Int × Int)} {fw fl : List Int} {i : Nat} (hT : 1 ≤ T) (hr : ((2 * T : Nat) : Int) < r) (hn : W.Nodup) (h : Kv T r W p0 s L fw fl i) : Kv T r W p0 (MemP.nrm T r 4 s) L fw fl i :=
  ⟨h.k.nrm hT hr hn 4, h.fl, by have := (nrm_fit (r := r) 4 h.k.fit).2; have := h.pot; omega, h.L⟩
theorem Kv.load {T : Nat} {r : Int} {W : List Int} {p0 : Int} {L : List (Int × Int)} {fw fl : List Int} {i : Nat} {W' : List Int} {a : Nat} {nm fr l : List Int} (h : Kv T r W p0 ⟨W', 1, a, nm, fr, l⟩ L fw fl i) (ho : outB T ⟨W', 1, a, nm, fr, l⟩ = true) :
    Kv T r W p0 (tellS ⟨W', 1, a, nm, fr, l⟩ (loadW L (hazI 60 T ((a : Int) / 2) ((a : Int) % 2)))) L fw fl (i + 1) := by
  have ha : a < 2 * T := by simpa [outB] using ho
  refine ⟨h.k.load ho _ (fun e => ?_), h.fl, by have := (tell_fit h.k.fit ho (by simp) (loadW L (hazI 60 T ((a : Int) / 2) ((a : Int) % 2)))).2; have := h.pot; omega, h.L⟩
  rw [haz_at ha, e]
  have := h.L.2
  have e2 : 2 * ((60 : Nat) : Int) + 3 * (T : Int) + ((0 : Nat) : Int) = 120 + 3 * (T : Int) := by omega
  rw [e2]; exact this
theorem Kv.store {T : Nat} {r : Int} {W : List Int} {p0 : Int} {L : List (Int × Int)} {fw fl : List Int} {i : Nat} {W' : List Int} {a : Nat} {nm fr l : List Int} {y : Int} (h : Kv T r W p0 ⟨W', 2, a, nm, y :: fr, l⟩ L fw fl i) (hy : GoodW 60 y) :
    Kv T r W p0 (tellS ⟨W', 2, a, nm, y :: fr, l⟩ 0) (storeL L (60 + openP y) (freedI y)) (fw ++ [y]) (fl ++ [60 + openP y]) (i + 1) := by
  have hL := h.L
  have hp := hy.2.2
  refine ⟨h.k.store 0, by rw [h.fl]; simp [placeL], by have := (tell_fit h.k.fit (by simp [outB]) (by simp) 0).2; have := h.pot; omega, by rw [storeL_length]; exact hL.1, ?_⟩
  rw [loadW_store _ _ _ _ (by omega), if_neg (by omega)]
  exact hL.2
theorem Kv.write {T : Nat} {r : Int} {W : List Int} {p0 : Int} {s : RS} {L : List (Int × Int)} {fw fl : List Int} {i : Nat} (h : Kv T r W p0 s L fw fl i) (j : Nat) (hj : 0 < j ∧ j < 2 * T) (x : Int) : Kv T r W p0 s (storeL L (120 + 3 * T + j) x) fw fl i := by
  have hL := h.L
  refine ⟨h.k, h.fl, h.pot, by rw [storeL_length]; exact hL.1, ?_⟩
  rw [loadW_store _ _ _ _ (by omega), if_neg (by omega)]
  exact hL.2
theorem use_good {T : Nat} {y : Int} (h : GoodW 60 y) : atI 60 T 1 (openP y) = 60 + openP y := by
  have := h.2.2
  rw [atI_yes (by omega) (by simp [sizeI]; omega)]
  simp [fromI]
/-- the places of words that are others are others -/
theorem placeL_ne {W fw : List Int} (hn : W.Nodup) (hpk : ∀ x ∈ W, Pk 60 x) (hs : ∀ x ∈ fw, x ∈ W) (hf : fw.Nodup) (i j : Nat) (hi : i < fw.length) (hj : j < i) : at0 (placeL fw) j ≠ at0 (placeL fw) i := by
  have h1 : at0 (placeL fw) i = 60 + openP fw[i] := by rw [at0_of _ i (by simpa [placeL] using hi)]; simp [placeL]
  have h2 : at0 (placeL fw) j = 60 + openP (fw[j]'(by omega)) := by rw [at0_of _ j (by simp [placeL]; omega)]; simp [placeL]
  rw [h1, h2]
  have hne := (List.pairwise_iff_getElem.1 hf) j i (by omega) hi hj
  obtain ⟨p, hp, e1⟩ := hpk _ (hs _ (List.getElem_mem hi))
  obtain ⟨q, hq, e2⟩ := hpk _ (hs _ (List.getElem_mem (show j < fw.length by omega)))
  rw [e1, e2, (Pk.open (by omega) hp).2.1, (Pk.open (by omega) hq).2.1]
  intro e
  apply hne
  rw [e1, e2]
  have : q = p := by omega
  rw [this]
theorem placeL_not {W fw : List Int} (hpk : ∀ x ∈ W, Pk 60 x) (hs : ∀ x ∈ fw, x ∈ W) {p0 : Int} (hp0 : Pk 60 p0) (hn : p0 ∉ fw) (i : Nat) (hi : i < fw.length) : at0 (placeL fw) i ≠ 60 + openP p0 := by
  have h1 : at0 (placeL fw) i = 60 + openP fw[i] := by rw [at0_of _ i (by simpa [placeL] using hi)]; simp [placeL]
  rw [h1]
  obtain ⟨p, hp, e1⟩ := hpk _ (hs _ (List.getElem_mem hi))
  obtain ⟨q, hq, rfl⟩ := hp0
  rw [e1, (Pk.open (by omega) hp).2.1, (Pk.open (by omega) hq).2.1]
  intro e
  have : p = q := by omega
  apply hn
  rw [← this, ← e1]
  exact List.getElem_mem hi
end Go.Proofs.Ytchkiacmiljopaa.MemP
