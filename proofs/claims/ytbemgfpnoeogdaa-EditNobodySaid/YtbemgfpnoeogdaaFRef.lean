/-
  The document's views: what lies in memory; Cell, Lack, Find: contracts.
-/
import Derived.Test.YtbemgfpnoeogdaaFDo
import Derived.Test.YtbemgfpnoeogdaaOwnV
import Derived.Test.YtbemgfpnoeogdaaDeepFlat
import Derived.Test.YtbemgfpnoeogdaaQuietRow
import Derived.BigRegion
namespace Go.Proofs.Ytbemgfpnoeogdaa.FoP
open Go.RowKit RefP Go.Maps Dp
set_option linter.unusedVariables false
set_option linter.unusedSimpArgs false
/-- cells as they are -/
def rawC (k : Nat) : Cod (List Value) where
  k := k
  rep _ _ cs x := cs = x ∧ x.length = k ∧ ∀ v ∈ x, v.oneCell' = true
  len h := by rw [h.1]; exact h.2.1
  one h := by rw [h.1]; exact h.2.2
  keep h _ := h
  more h _ := h
theorem raw_at {k : Nat} {w : World} {S : List Nat} {h : Hd} {xs : List (List Value)} (H : HRow (rawC k) w S h xs) (i : Nat) (hi : i < xs.length) : ∃ b off, h.a = some ⟨b, off, none⟩ ∧ b < w.heap.size ∧ w.rangeAt b (off + i * k) xs[i] := by
  obtain ⟨b, off, e, hb, _, hc⟩ := H.row (by omega)
  obtain ⟨cs, ⟨rfl, _⟩, hv⟩ := hc i xs[i] (List.getElem?_eq_getElem hi)
  exact ⟨b, off, e, hb, hv⟩
def spC : Cod Sp := isoC (pairC i64C (pairC u64C unitC)) (fun p => (p.1, p.2, ()))
abbrev spL (x : Sp) : List Value := [.int .i64 x.1, .int .u64 x.2]
theorem spC_of {w : World} {S : List Nat} {cs : List Value} {x : Sp} (h : spC.rep w S cs x) : cs = spL x ∧ I64 x.1 ∧ U64 x.2 := by
  obtain ⟨_, _, rfl, ⟨rfl, h0⟩, _, _, rfl, ⟨rfl, h1⟩, rfl⟩ := h
  exact ⟨rfl, I64.of h0, U64.of h1⟩
theorem spC_mk {w : World} {S : List Nat} {x : Sp} (h0 : I64 x.1) (h1 : U64 x.2) : spC.rep w S (spL x) x := ⟨[_], _, rfl, ⟨rfl, wf_i64 h0⟩, [_], [], rfl, ⟨rfl, wf_u64 h1⟩, rfl⟩
theorem sp_at {w : World} {S : List Nat} {h : Hd} {xs : List Sp} (H : HRow spC w S h xs) (i : Nat) (hi : i < xs.length) : ∃ b off, h.a = some ⟨b, off, none⟩ ∧ b < w.heap.size ∧ w.cell? ⟨b, off + i * 2, none⟩ = some (.int .i64 xs[i].1) ∧ w.cell? ⟨b, off + i * 2 + 1, none⟩ = some (.int .u64 xs[i].2) ∧ I64 xs[i].1 ∧ U64 xs[i].2 := by
  obtain ⟨b, off, e, hb, _, hc⟩ := H.row (by omega)
  obtain ⟨cs, hr, hv⟩ := hc i xs[i] (List.getElem?_eq_getElem hi)
  obtain ⟨rfl, h0, h1⟩ := spC_of hr
  exact ⟨b, off, e, hb, hv 0 _ rfl, hv 1 _ rfl, h0, h1⟩
/-- the cells of a known -/
abbrev knL (L : List Kn) : List (List Value) := L.map (·.2.toList)
abbrev rvA (kh sh : Hd) (ln sn : Nat) (k n : Int) : Array Value := #[.slice kh.a ln kh.c, .slice sh.a sn sh.c, .int .i64 k, .int .i64 n]
structure RV (w : World) (kh sh : Hd) (L : List Kn) (S : List Sp) : Prop where
  kn : HRow (rawC 11) w [] kh (knL L)
  sp : HRow spC w [] sh S
  hd : ∀ p ∈ L, p.2[0]? = some (.int .i64 p.1)
  ok : ∀ p ∈ L, p.2.size = 11 ∧ p.2.all (·.oneCell') = true
  ll : L.length ≤ 100
  sl : S.length ≤ 100
theorem RV.below {w w' : World} {kh sh : Hd} {L : List Kn} {S : List Sp} (h : RV w kh sh L S) (hb : Below w.heap.size w w') : RV w' kh sh L S := ⟨h.kn.keep (Keeps.of_below hb), h.sp.keep (Keeps.of_below hb), h.hd, h.ok, h.ll, h.sl⟩
theorem RV.at {w : World} {kh sh : Hd} {L : List Kn} {S : List Sp} (h : RV w kh sh L S) (i : Nat) (hi : i < L.length) : ∃ b off, kh.a = some ⟨b, off, none⟩ ∧ b < w.heap.size ∧ w.rangeAt b (off + i * 11) L[i].2.toList ∧ w.cell? ⟨b, off + i * 11, none⟩ = some (.int .i64 L[i].1) := by
  obtain ⟨b, off, e, hb, hr⟩ := raw_at h.kn i (by simpa using hi)
  simp only [List.getElem_map] at hr
  refine ⟨b, off, e, hb, hr, hr 0 _ ?_⟩
  have := h.hd L[i] (List.getElem_mem hi)
  simpa using this
theorem rcell_any (w : World) (n : Int) : Calls Try.prog 17 #[.int .i64 n] w fun e w' => e = .returned (.bool (cellB n)) ∧ w' = w := by
  by_cases h0 : 0 ≤ n
  · by_cases h1 : n < 8192
    · have hE : Hid (cellB n = true) := Lib.hid (by simp [cellB, h0, h1])
      go_enter Try.func17, Try.ntmps17
      go_wp2_with fail
      go_ret
      exact ⟨by rw [hE.out]; rfl, rfl⟩
    · have hE : Hid (cellB n = false) := Lib.hid (by simp [cellB, h1])
      have h1' : 8192 ≤ n := by omega
      go_enter Try.func17, Try.ntmps17
      go_wp2_with fail
      go_ret
      exact ⟨by rw [hE.out]; rfl, rfl⟩
  · have hE : Hid (cellB n = false) := Lib.hid (by simp [cellB, h0])
    have h0' : n < 0 := by omega
    go_enter Try.func17, Try.ntmps17
    go_wp2_with fail
    go_ret
    exact ⟨by rw [hE.out]; rfl, rfl⟩
abbrev rz : Array Value := #[.slice none 0 0, .slice none 0 0, .int .i64 0, .int .i64 0]
set_option maxHeartbeats 1600000 in
theorem rlack_any (kh sh : Hd) (ln sn : Nat) (k0 n0 k n : Int) (w : World) : Calls Try.prog 35 #[.agg (rvA kh sh ln sn k0 n0), .int .i64 k, .int .i64 n] w fun e w' => e = .returned (.agg (rvA kh sh ln sn (lackK k0 k) (lackN k0 n0 n))) ∧ Below w.heap.size w w' := by
  have hb : Below w.heap.size w ((w.alloc (.cells (rvA kh sh ln sn k0 n0) 58)).alloc (.cells rz 58)) := by (repeat (first | exact Below.refl _ _ | assumption | refine below_alloc2 ?_ (by first | exact Nat.le_refl _ | omega) _ | refine Below.drew ?_ | refine below_drewN ?_ _ | refine below_push2 ?_ ‹_› (by first | exact Nat.le_refl _ | omega) | refine Below.setCell ?_ (by first | (simp; done) | (simp; omega) | omega) _))
  have BV := (Blk.new w (rvA kh sh ln sn k0 n0) 58).alloc (.cells rz 58)
  have BR := Blk.new (w.alloc (.cells (rvA kh sh ln sn k0 n0) 58)) rz 58
  rw [World.size_alloc] at BR
  go_enter Try.func35, Try.ntmps35
  go_upto_region 1 with (fail)
  generalize (w.alloc (.cells (rvA kh sh ln sn k0 n0) 58)).alloc (.cells rz 58) = w1 at hb BV BR ⊢
  have c0 := BV.at 0 rfl
  have c1 := BV.at 1 rfl
  have c2 := BV.at 2 rfl
  have c3 := BV.at 3 rfl
  have f2 := BV.free 2
  have f3 := BV.free 3
  by_cases h : k0 = 0
  · subst h
    have B2 : Blk ((w1.setCell ⟨w.heap.size, 2, none⟩ (.int .i64 k)).setCell ⟨w.heap.size, 3, none⟩ (.int .i64 n)) (w.heap.size + 1) rz 58 := (BR.far _ _ (by simp)).far _ _ (by simp)
    go_wp2_with (refine wpList_store_row rfl 58 _ _ rfl (w.heap.size + 1) _ rfl rfl 58 _ B2.h (by kernel_rfl) (by rfl) (by kernel_rfl) ?_)
    refine bodyPost_ret (results_cell_row rfl _ _ (w.heap.size + 1) 58 (rvA kh sh ln sn k n) (0, 0) _ rfl (Blk.row B2 _).h Try.underlying58 rfl (by kernel_rfl)) rfl ⟨by simp [lackK, lackN], below_setRow ((hb.setCell (Nat.le_refl _) _).setCell (Nat.le_refl _) _) (by omega) _⟩
  · have hk : (k0 == 0) = false := by simpa using h
    have hE : Hid (lackK k0 k = k0 ∧ lackN k0 n0 n = n0) := Lib.hid ⟨by simp [lackK, h], by simp [lackN, h]⟩
    clear h
    go_wp2_with (refine wpList_store_row rfl 58 _ _ rfl (w.heap.size + 1) _ rfl rfl 58 _ BR.h (by kernel_rfl) (by rfl) (by kernel_rfl) ?_)
    refine bodyPost_ret (results_cell_row rfl _ _ (w.heap.size + 1) 58 (rvA kh sh ln sn k0 n0) (0, 0) _ rfl (Blk.row BR _).h Try.underlying58 rfl (by kernel_rfl)) rfl ⟨by rw [hE.out.1, hE.out.2], below_setRow hb (by omega) _⟩
def FoundAt (L : List Kn) (n r : Int) : Prop := (r = -1 ∧ knAt L n = none) ∨ ∃ (i : Nat) (h : i < L.length), r = i ∧ L[i].1 = n ∧ knAt L n = some L[i].2
theorem found_no {L : List Kn} {n : Int} (h : ∀ j (hj : j < L.length), L[j].1 ≠ n) : FoundAt L n (-1) := by
  refine .inl ⟨rfl, ?_⟩
  unfold knAt
  rw [Option.map_eq_none_iff, List.find?_eq_none]
  intro p hp
  obtain ⟨j, hj, rfl⟩ := List.getElem_of_mem hp
  simpa using h j hj
theorem found_yes {L : List Kn} {n : Int} {i : Nat} (hi : i < L.length) (h : ∀ j (hj : j < L.length), j < i → L[j].1 ≠ n) (he : L[i].1 = n) : FoundAt L n i := by
  refine .inr ⟨i, hi, rfl, he, ?_⟩
  unfold knAt
  rw [show L.find? (fun p => p.1 == n) = some L[i] from ?_]
  · rfl
  rw [List.find?_eq_some_iff_getElem]
  refine ⟨by simpa using he, i, hi, rfl, fun j hj => ?_⟩
  simpa using h j (by omega) hj
set_option maxHeartbeats 1600000 in
theorem rfind_any {w : World} {kh sh : Hd} {L : List Kn} {S : List Sp} (H : RV w kh sh L S) (k0 n0 n : Int) : Calls Try.prog 18 #[.agg (rvA kh sh L.length S.length k0 n0), .int .i64 n] w fun e w' => ∃ r, e = .returned (.int .i64 r) ∧ FoundAt L n r ∧ Below w.heap.size w w' := by
  have hb : Below w.heap.size w (w.alloc (.cells (rvA kh sh L.length S.length k0 n0) 58)) := by (repeat (first | exact Below.refl _ _ | assumption | refine below_alloc2 ?_ (by first | exact Nat.le_refl _ | omega) _ | refine Below.drew ?_ | refine below_drewN ?_ _ | refine below_push2 ?_ ‹_› (by first | exact Nat.le_refl _ | omega) | refine Below.setCell ?_ (by first | (simp; done) | (simp; omega) | omega) _))
  have BV := Blk.new w (rvA kh sh L.length S.length k0 n0) 58
  go_enter Try.func18, Try.ntmps18
  go_upto_region 1 with (fail)
  generalize w.alloc (.cells (rvA kh sh L.length S.length k0 n0) 58) = w1 at hb BV ⊢
  have H1 := H.below hb
  have c0 := BV.at 0 rfl
  have hll := H.ll
  go_wp2_with fail
  go_loop [5] (fun i => ∃ k : Nat, k ≤ L.length ∧ i = .int .i64 k ∧ Hid (∀ j (hj : j < L.length), j < k → L[j].1 ≠ n)) (fun i => L.length - (intOf i).toNat)
  case atStart => exact ⟨0, Nat.zero_le _, rfl, Lib.hid fun j _ h => absurd h (by omega)⟩
  case round =>
    obtain ⟨k, hk, rfl, hall⟩ := hrel
    by_cases hlt : k < L.length
    · have hlt' : (k : Int) < (L.length : Int) := by omega
      obtain ⟨b, off, ha, hbl, hcs, x0⟩ := H1.at k hlt
      have a0 : w1.cell? ⟨w.heap.size, 0, none⟩ = some (.slice (some ⟨b, off, none⟩) L.length kh.c) := by rw [← ha]; exact c0
      clear c0 hcs
      by_cases he : L[k].1 = n
      · have hE := Lib.hid (found_yes hlt hall.out he)
        rw [he] at x0
        clear he
        go_wp2_with fail
        go_ret
        exact ⟨_, rfl, hE.out, hb⟩
      · have hN : Hid (∀ j (hj : j < L.length), j < k + 1 → L[j].1 ≠ n) := Lib.hid fun j hj hjk => by
          by_cases e : j = k
          · subst e; exact he
          · exact hall.out j hj (by omega)
        have hne : (L[k].1 == n) = false := by simpa using he
        generalize L[k].1 = x at x0 hne
        clear he
        go_wp2_with fail
        go_round
        case rel => exact ⟨k + 1, by omega, by go_num, hN⟩
        case measure => simp [intOf]; omega
    · obtain rfl : k = L.length := by omega
      have hE := Lib.hid (found_no fun j hj => hall.out j hj hj)
      go_wp2_with fail
      go_ret
      exact ⟨_, rfl, hE.out, hb⟩
end Go.Proofs.Ytbemgfpnoeogdaa.FoP
