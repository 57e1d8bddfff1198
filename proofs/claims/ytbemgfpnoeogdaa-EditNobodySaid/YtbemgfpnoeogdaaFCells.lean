/-
  A view: Cells: the contract.
-/
import Derived.Test.YtbemgfpnoeogdaaFSortI
import Derived.Maps.RangeWalk
import Derived.Lib.SlKeysI
import Derived.Sort.OwnSortedInts
import Derived.Shelf.Slices.In.SortNone
import Derived.Deep.LoopGhost
namespace Go.Proofs.Ytbemgfpnoeogdaa.FoP
open Go.RowKit RefP Go.Maps Dp
set_option linter.unusedVariables false
set_option linter.unusedSimpArgs false
theorem sortI_any (blk off cap : Nat) (zs : List Int) (w : World) (hH : Go.Sort.Holds (Value.int .i64) w blk off zs.toArray) (hblk : blk < w.heap.size) (hsz : zs.length < 4611686018427387904) :
    Calls Try.prog 58 #[.slice (some ⟨blk, off, none⟩) zs.length cap] w fun e w' =>
      e = .returned (.tuple #[]) ∧ ∃ n os, w' = Go.Sort.grow (Go.Sort.putRow (Value.int .i64) (Go.Sort.ahead w n) blk off (zs.mergeSort fun x y => decide (x ≤ y)).toArray) os := Any.slices_Sort_int lays189 blk off cap zs w hH hblk hsz
theorem sortI_none (p : Option Addr) (cap : Nat) (w : World) : Calls Try.prog 58 #[.slice p 0 cap] w fun e w' => e = .returned (.tuple #[]) ∧ w' = w := Any.slices_Sort_int_none lays189 p cap w
abbrev inF (x : Int) (j : Nat) : Value := .int .i64 x
abbrev OwnN (w : World) (base : Nat) (a : Option Addr) (c : Nat) (l : List Int) : Prop := OwnR 1 inF 0 w base 3 a c l
theorem cells_ok {L : List Kn} (hc : ∀ p ∈ L, cellB p.1 = true) {ss : List Int} (hn : ss.Nodup) (hm : ∀ x, x ∈ ss ↔ (knAt L x).isSome = true) : (ss.mergeSort fun x y => decide (x ≤ y)) = cellsL L := by
  have hp : ss.Perm (cellsL L) := by
    refine (List.perm_ext_iff_of_nodup hn ?_).2 fun x => ?_
    · refine List.Pairwise.map _ ?_ (List.Pairwise.filter _ List.nodup_range)
      intro a b h e
      exact h (Int.ofNat.inj e)
    · rw [hm]
      unfold cellsL cellsTo
      rw [List.mem_map]
      constructor
      · intro h
        have h' := h
        unfold knAt at h
        rw [Option.isSome_map] at h
        obtain ⟨p, hp⟩ := Option.isSome_iff_exists.1 h
        have e : p.1 = x := by simpa using List.find?_some hp
        have hb := hc p (List.mem_of_find?_eq_some hp)
        rw [e] at hb
        have hr : 0 ≤ x ∧ x < 8192 := by simpa [cellB] using hb
        refine ⟨x.toNat, List.mem_filter.2 ⟨List.mem_range.2 (by omega), ?_⟩, by omega⟩
        rw [Int.toNat_of_nonneg hr.1]
        exact h'
      · rintro ⟨n, hn, rfl⟩
        exact (List.mem_filter.1 hn).2
  rw [show (ss.mergeSort fun x y => decide (x ≤ y)) = ss.mergeSort leI from rfl, mergeSort_of_perm_i hp]
  refine List.mergeSort_of_pairwise ?_
  unfold cellsL cellsTo
  refine List.Pairwise.map _ ?_ (List.Pairwise.filter _ (List.pairwise_lt_range))
  intro a b h
  simp; omega
theorem inRow (ss : List Int) : rowL (ss.length * 1) (recF 1 inF 0 ss) = ss.map (Value.int .i64) := by
  apply List.ext_getElem?
  intro j
  by_cases hj : j < ss.length
  · rw [rowL_at _ _ _ (by omega), List.getElem?_map, List.getElem?_eq_getElem hj]
    simp [recF, inF, List.getD_eq_getElem?_getD, List.getElem?_eq_getElem hj]
  · rw [List.getElem?_eq_none (by rw [rowL_length]; omega), List.getElem?_eq_none (by simp; omega)]
theorem hrow_ints {w : World} {base g cap : Nat} {e : TypeId} {ts : List Int} (hown : w.ownsRow base e 1 (.slice (some ⟨g, 0, none⟩) ts.length cap) ts.length (ts.map (Value.int .i64))) (h64 : ∀ x ∈ ts, I64 x) : HRow i64C w [] ⟨some ⟨g, 0, none⟩, cap⟩ ts := by
  have hown' := hown
  rcases hown.2 with ⟨h0, _⟩ | ⟨g', cap', cur, hv, hg, hh, hn, hcap, _, _⟩
  · cases h0
  cases hv
  refine ⟨hn, hcap, fun h0 => ⟨g, 0, rfl, lt_of_block hh, by simp, fun i x hi => ?_⟩⟩
  have hil : i < ts.length := (List.getElem?_eq_some_iff.1 hi).1
  have hx : ts[i] = x := (List.getElem?_eq_some_iff.1 hi).2
  refine ⟨[.int .i64 x], ⟨rfl, wf_i64 (h64 x (by rw [← hx]; exact List.getElem_mem hil))⟩, fun j v hj => ?_⟩
  obtain rfl : j = 0 := by
    have := (List.getElem?_eq_some_iff.1 hj).1
    simp at this; omega
  simp at hj
  subst hj
  have := hown'.cellAt i (by omega)
  simp [hil, hx] at this
  simpa [show i64C.k = 1 from rfl] using this
set_option maxRecDepth 20000 in
set_option maxHeartbeats 1600000 in
theorem cells_any {w : World} {base o m : Nat} {L : List Kn} {a : Option Addr} {c : Nat} {S : List Sp} {k0 n0 : Int} (V : VwAt w base o m L a c S k0 n0) (hl : L.length ≤ 100) (hc : ∀ p ∈ L, cellB p.1 = true) :
    Calls Try.prog 38 #[.pointer (some ⟨o, 0, none⟩)] w fun e w' => ∃ a' c', e = .returned (.slice a' (cellsL L).length c') ∧ Below w.heap.size w w' ∧ HRow i64C w' [] ⟨a', c'⟩ (cellsL L) := by
  obtain ⟨D, hD, hM⟩ := V.map
  have c0 := V.head.at 0 rfl
  go_enter Try.func38, Try.ntmps38
  go_wp2_with fail
  refine (none_some V.head).mono ?_
  rintro e w2 ⟨rfl, rfl⟩
  go_wp2_with (first | (at_range; refine wpList_range_own _ rfl _ 86 rfl 3 53 lawI Try.underlying86 Rk m L.length D rfl hD ?_; intro w0 hrg0 hg0 hs0) | fail)
  go_frame
  have hbase : w0.heap.size = w2.heap.size + 1 := hs0
  have hml : m < w2.heap.size := by obtain ⟨es, clock, hb, _⟩ := hD; exact lt_of_block hb
  have hb0 : Below w2.heap.size w2 w0 := (Fr.of_grown (S := []) hg0 (by simp)).below (Below.refl _ w2) (Nat.le_refl _) (by simp)
  have hlen : ∀ (left : Lit → Bool) (ss : List Int), CollectedI D left ss → ss.length ≤ L.length := fun left ss h => by
    have := nodup_len ss (L.map (·.1)) h.1 (fun x hx => by
      have h1 := ((h.2 x).1 hx).1
      rw [hM.has] at h1
      obtain ⟨cx, hcx⟩ := Option.isSome_iff_exists.1 h1
      exact List.mem_map.2 ⟨_, knAt_some hcx, rfl⟩)
    simpa using this
  generalize hr0 : w2.heap.size = r0 at hrg0 hb0 hbase hml ⊢
  replace hr0 := Lib.hid hr0
  go_loopg [2] (Maps.size D) (fun gg v2 wr => ∃ (left : Lit → Bool) (cnt : Nat) (ss : List Int) (a : Option Addr) (c : Nat), wr.ranges Try.prog 3 Rk m r0 L.length D left cnt ∧ CollectedI D left ss ∧ v2 = .slice a ss.length c ∧ Below r0 w2 wr ∧ OwnN wr (r0 + 1) a c ss ∧ cnt ≤ gg ∧ r0 < wr.heap.size)
  case atStart => exact ⟨Maps.has D, Maps.size D, [], none, 0, hrg0, CollectedI.start D, rfl, hb0, OwnR.nil _ _ _ _ _ _, Nat.le_refl _, by omega⟩
  case round =>
    clear hrg0 hb0 hg0 hs0 hbase
    obtain ⟨left, cnt, ss, a, c, hrg, hC, rfl, hb, O, hcg, hrz⟩ := hrel
    go_wp2_with (first | (at_next; refine wpList_next_ranges _ rfl _ rfl 3 lawI Rk (Value.int .i64) (fun v : Value => v) (fun key kl h => by obtain ⟨x, hx, _⟩ := Maps.keyOf_i64 Try.underlying3 h; exact ⟨x, hx⟩) (fun v y _ => ⟨v, rfl⟩) m r0 L.length D left cnt rfl hrg ?_ ?_) | fail)
    · intro hc0 hl0
      have hcl := cells_ok hc hC.1 (fun x => by rw [hC.2 x, hM.has, hl0]; simp)
      have h64 : ∀ x ∈ cellsL L, I64 x := fun x hx => by
        obtain ⟨n, hn, rfl⟩ := List.mem_map.1 hx
        have := List.mem_range.1 (List.mem_filter.1 hn).1
        exact ⟨by omega, by omega⟩
      have hsl := hlen _ _ hC
      have hperm : (ss.mergeSort fun x y => decide (x ≤ y)).length = ss.length := List.length_mergeSort ..
      have hO := O.own.2
      rw [inRow] at hO
      replace hcl := Lib.hid hcl
      replace h64 := Lib.hid h64
      replace hperm := Lib.hid hperm
      clear hc hlen hl0
      go_wp2_with fail
      rcases hO with q | ⟨g, cap, cur, e', hg, hh, hn, hm2, hs, r⟩
      · have q1 := q.1
        injection q1 with q2 q3 q4
        obtain rfl : ss = [] := List.eq_nil_of_length_eq_zero q3
        subst q2
        subst q4
        refine (sortI_none none 0 _).mono ?_
        rintro e w3 ⟨rfl, rfl⟩
        go_wp2_with fail
        go_ret
        have e0 : cellsL L = [] := by rw [← hcl.out]; simp
        rw [e0]
        exact ⟨none, 0, rfl, by rw [hr0.out]; exact hb, HRow.nil _ _ _⟩
      · injection e' with q2 q3 q4
        subst q2
        subst q4
        have hH := Go.holds_of_blockI hh (by rw [Nat.mul_one] at r; exact r)
        refine (sortI_any g 0 c ss _ hH (lt_of_block hh) (by omega)).mono ?_
        rintro e w3 ⟨rfl, n, os, rfl⟩
        have hown := Go.ownsRow_sortedI (n := n) (os := os) hperm.out hg hh hn hm2 hs
        have hgr := Go.grownBy_sortedI (w := wr) (g := g) (n := n) (os := os) (ss.mergeSort fun x y => decide (x ≤ y)).toArray
        have hbF : Below r0 w2 _ := (Fr.of_grown (S := [g]) hgr (by simp)).below hb (by have := hr0.out; omega) (by simp; omega)
        rw [← hperm.out] at hown
        rw [hcl.out] at hown hbF ⊢
        go_wp2_with fail
        go_ret
        have hlq : ss.length = (cellsL L).length := by rw [← hcl.out, hperm.out]
        exact ⟨some ⟨g, 0, none⟩, c, by rw [hlq]; rfl, by rw [hr0.out]; exact hbF, hrow_ints hown h64.out⟩
    · intro x cv kl y ps w1 cnt1 hkey hlk hv hat hrg1 hlt hg1 hs1 hen
      obtain ⟨x', ex, rfl, hwx⟩ := Maps.keyOf_i64 Try.underlying3 hkey
      cases ex
      have hC1 := hC.step hlk hat
      have hsl := hlen _ _ hC
      have O1 : OwnN w1 (r0 + 1) a c ss := OwnR.kept O hg1 (.inr (fun e => by have := (OwnR.lt O r0 e).1; omega))
      have hb1 : Below r0 w2 w1 := (Fr.of_grown (S := [r0]) hg1 (by simp)).below hb (by have := hr0.out; omega) (by simp)
      have hz1 : r0 < w1.heap.size := by rw [hs1]; exact hrz
      have hbx : Below w1.heap.size w1 (w1.alloc (.cells #[.int .i64 x] 3)) := (Below.refl _ _).alloc (Nat.le_refl _) _
      obtain ⟨ii, z, hi, hz, hsize, hby, hzs⟩ := tinInt.inf
      have hR : RecS 1 inF 0 (w1.alloc (.cells #[.int .i64 x] 3)) (some ⟨w1.heap.size, 0, none⟩) [x] := rec_lit (Blk.new w1 #[.int .i64 x] 3) x (fun j hj => by
        obtain rfl : j = 0 := by omega
        rfl)
      obtain ⟨g, d, w5, A⟩ := addRecs (P := Try.prog) (c' := 1) (r0 + 1) 24 3 ii z 8 Try.underlying24 hi hz hsize hby hzs (by decide) (fun x j _ => rfl) (OwnR.below O1 hbx) hR (by simp) (by simp [maxLen]; omega) (by simp; omega) (by have := hbx.size; omega)
      have hrg5 := (hrg1.alloc (.cells #[.int .i64 x] 3)).kept A.grown (fun e => by have := (OwnR.lt O1 m e.symm).1; omega) (fun e => by have := (OwnR.lt O1 r0 e.symm).1; omega)
      have hb5 : Below r0 w2 w5 := (Fr.of_grown (S := ob a) A.grown (fun q hq => ob_own hq)).below (hb1.alloc (by omega) _) (by have := hr0.out; omega) (fun b hb => by have := (OwnR.lt O1 b (own_ob hb)).1; omega)
      have hz5 : r0 < w5.heap.size := by have := A.grown.size; have := hbx.size; omega
      have hr := Lib.hid A.run
      have O5 := A.own
      clear A hR hC hrg O O1 hrg1 hg1 hbx hat hv hlk hkey hb hc hs1
      simp only [List.length_singleton] at hr
      go_wp2_with (at_builtin; refine wpList_append_run hr.out rfl (by rfl) (by rfl) (by rfl) ?_)
      all_goals
        go_roundg cnt1
        case measure => omega
        case rel => exact ⟨_, cnt1, ss ++ [x], _, _, hrg5, hC1, by rw [List.length_append]; rfl, hb5, O5, Nat.le_refl _, hz5⟩
end Go.Proofs.Ytbemgfpnoeogdaa.FoP
