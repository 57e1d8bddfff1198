/-
  The document's Sames of rows, nodes, answers, blocks: contracts.
-/
import Derived.Test.YtbemgfpnoeogdaaDeepEq
namespace Go.Proofs.Ytbemgfpnoeogdaa.Dp
open Go.RowKit RefP
set_option linter.unusedVariables false
set_option linter.unusedSimpArgs false
set_option maxRecDepth 100000 in
set_option maxHeartbeats 1600000 in
theorem same04_any (S S' : List Nat) (h h' : Hd) (xs ys : List (ByteArray)) (w : World) (H : HRow strC w S h xs) (H' : HRow strC w S' h' ys) :
    Calls Try.prog 51 #[.slice h.a xs.length h.c, .slice h'.a ys.length h'.c] w fun e w' => e = .returned (.bool (decide (xs = ys))) ∧ Below w.heap.size w w' := by
  by_cases hl : xs.length = ys.length
  · have q0 : ((xs.length : Int) != (ys.length : Int)) = false := by simp; omega
    have hle := H.le
    have hcap := H.cap
    have hm : (maxLen : Nat) = 9223372036854775807 := by unfold maxLen; rfl
    go_enter Try.func51, Try.ntmps51
    go_wp2_with fail
    go_loopw [5] (fun i wr => ∃ k : Nat, k ≤ xs.length ∧ i = .int .i64 k ∧ Below w.heap.size w wr ∧ xs.take k = ys.take k) (fun i _ => xs.length - (intOf i).toNat)
    case atStart => exact ⟨0, Nat.zero_le _, rfl, Below.refl _ _, by simp⟩
    case round =>
      obtain ⟨k, hk, rfl, hB, hall⟩ := hrel
      by_cases hlt : k < xs.length
      · have hlt' : (k : Int) < (xs.length : Int) := by omega
        have hlty : k < ys.length := by omega
        have hlty' : (k : Int) < (ys.length : Int) := by omega
        obtain ⟨b, off, ha, hbl, hc⟩ := (flat_str).cell (H.keep (Keeps.of_below hB)) k hlt
        obtain ⟨b', off', ha', hbl', hc'⟩ := (flat_str).cell (H'.keep (Keeps.of_below hB)) k hlty
        rw [ha, ha']
        have hst := fun e => Lib.hid (eq_step hall hlt hlty e)
        have hno := fun e => Lib.hid (eq_not hlt hlty e)
        generalize hX : xs[k] = x at hc hst hno
        generalize hY : ys[k] = y at hc' hst hno
        clear hX hY hall
        have c0 : wr.cell? ⟨b, off + k, none⟩ = some (.string x) := by simpa [strC] using hc 0 _ rfl
        have d0 : wr.cell? ⟨b', off' + k, none⟩ = some (.string y) := by simpa [strC] using hc' 0 _ rfl
        go_upto_region 6 with (fail)
        go_quiet (fail)
        go_wp2_with fail
        · rename_i hq
          have hN := hno (sNe hq)
          go_ret
          exact ⟨by rw [decide_eq_false hN.out]; rfl, below_drewN hB _⟩
        · rename_i hq
          go_roundw
          case rel => exact ⟨k + 1, by omega, by go_num, below_drewN hB _, (hst (sEq hq)).out⟩
          case measure => simp [intOf]; omega
      · obtain rfl : k = xs.length := by omega
        have hR := Lib.hid (eq_all hall hl)
        clear hall
        go_wp2_with fail
        go_ret
        exact ⟨by rw [decide_eq_true hR.out]; rfl, hB⟩
  · have q0 : ((xs.length : Int) != (ys.length : Int)) = true := by simp; omega
    have hR := Lib.hid (eq_len hl)
    clear hl
    go_enter Try.func51, Try.ntmps51
    go_wp2_with fail
    go_ret
    exact ⟨by rw [decide_eq_false hR.out]; rfl, Below.refl _ _⟩
set_option maxRecDepth 100000 in
set_option maxHeartbeats 3200000 in
theorem same10_any (S S' : List Nat) (h h' : NodeH) (x y : NodeV) (w : World) (H : NodeOk w S h x) (H' : NodeOk w S' h' y) :
    Calls Try.prog 21 #[.agg (nodeA h x), .agg (nodeA h' y)] w fun e w' => e = .returned (.bool (decide (x = y))) ∧ Below w.heap.size w w' := by
  have hb : Below w.heap.size w ((w.alloc (.cells (nodeA h x) 26)).alloc (.cells (nodeA h' y) 26)) := by (repeat (first | exact Below.refl _ _ | assumption | refine below_alloc2 ?_ (by first | exact Nat.le_refl _ | omega) _ | refine Below.drew ?_ | refine below_drewN ?_ _ | refine below_push2 ?_ ‹_› (by first | exact Nat.le_refl _ | omega) | refine Below.setCell ?_ (by first | (simp; done) | (simp; omega) | omega) _))
  have BX := (Blk.new w (nodeA h x) 26).alloc (.cells (nodeA h' y) 26)
  have BY : Blk ((w.alloc (.cells (nodeA h x) 26)).alloc (.cells (nodeA h' y) 26)) (w.heap.size + 1) (nodeA h' y) 26 := by
    have := Blk.new (w.alloc (.cells (nodeA h x) 26)) (nodeA h' y) 26
    simpa using this
  generalize hW : (w.alloc (.cells (nodeA h x) 26)).alloc (.cells (nodeA h' y) 26) = w1 at hb BX BY
  replace hW := Lib.hid hW
  have x0 := BX.at 0 rfl
  have x1 := BX.at 1 rfl
  have x2 := BX.at 2 rfl
  have x3 := BX.at 3 rfl
  have x4 := BX.at 4 rfl
  have x5 := BX.at 5 rfl
  have x6 := BX.at 6 rfl
  have x7 := BX.at 7 rfl
  have y0 := BY.at 0 rfl
  have y1 := BY.at 1 rfl
  have y2 := BY.at 2 rfl
  have y3 := BY.at 3 rfl
  have y4 := BY.at 4 rfl
  have y5 := BY.at 5 rfl
  have y6 := BY.at 6 rfl
  have y7 := BY.at 7 rfl
  go_enter Try.func21, Try.ntmps21
  go_upto_region 1 with (fail)
  rw [hW.out]
  go_wp2_with fail
  all_goals first
    | (go_ret
       refine ⟨?_, hb⟩
       have hne : x ≠ y := by
         intro e
         subst e
         clear hb BX BY hW x0 x1 x2 x3 x4 x5 x6 x7 y0 y1 y2 y3 y4 y5 y6 y7 H H'
         simp_all
       rw [decide_eq_false hne]; rfl)
    | skip
  clear hW x0 x1 x2 x3 x4 x5 x6 x7 y0 y1 y2 y3 y4 y5 y6 y7
  have f2 : x.low = y.low := (Lib.bytes_beq_iff _ _).1 (by simpa using (show x.low.toList = y.low.toList by assumption))
  have f3 : x.high = y.high := (Lib.bytes_beq_iff _ _).1 (by simpa using (show x.high.toList = y.high.toList by assumption))
  have f5 : x.next = y.next := by simpa using (show (x.next != y.next) = false by assumption)
  have hE : Hid (x.level = y.level ∧ x.low = y.low ∧ x.high = y.high ∧ x.last = y.last ∧ x.next = y.next) := ⟨by assumption, f2, f3, by assumption, f5⟩
  clear f2 f3 f5
  refine (same04_any S S' h.keys h'.keys x.keys y.keys w1 (H.keys.keep (Keeps.of_below hb)) (H'.keys.keep (Keeps.of_below hb))).mono ?_
  rintro e w2 ⟨rfl, hb2⟩
  have hB := below_push2 hb hb2 (Nat.le_refl _)
  replace BX := BX.below hb2
  replace BY := BY.below hb2
  clear hb hb2
  have x0 := BX.at 0 rfl
  have x1 := BX.at 1 rfl
  have x2 := BX.at 2 rfl
  have x3 := BX.at 3 rfl
  have x4 := BX.at 4 rfl
  have x5 := BX.at 5 rfl
  have x6 := BX.at 6 rfl
  have x7 := BX.at 7 rfl
  have y0 := BY.at 0 rfl
  have y1 := BY.at 1 rfl
  have y2 := BY.at 2 rfl
  have y3 := BY.at 3 rfl
  have y4 := BY.at 4 rfl
  have y5 := BY.at 5 rfl
  have y6 := BY.at 6 rfl
  have y7 := BY.at 7 rfl
  have hm : (maxLen : Nat) = 9223372036854775807 := by unfold maxLen; rfl
  have v1 := H.vals.le
  have v2 := H.vals.cap
  have v3 := H.kids.le
  have v4 := H.kids.cap
  by_cases hk : x.keys = y.keys
  · rw [decide_eq_true hk]
    have hkH := Lib.hid hk
    by_cases hv : x.vals.length = y.vals.length
    · have q1 : ((x.vals.length : Int) != (y.vals.length : Int)) = false := by simp; omega
      by_cases hd : x.kids.length = y.kids.length
      · have q2 : ((x.kids.length : Int) != (y.kids.length : Int)) = false := by simp; omega
        have hv' := Lib.hid hv
        have hd' := Lib.hid hd
        clear hv hd hk
        go_wp2_with fail
        clear q1 q2 x0 x1 x2 x3 x4 x5 x6 x7 y0 y1 y2 y3 y4 y5 y6 y7
        go_loopw [5] (fun i wr => ∃ k : Nat, k ≤ x.vals.length ∧ i = .int .i64 k ∧ Below w.heap.size w wr ∧ Blk wr w.heap.size (nodeA h x) 26 ∧ Blk wr (w.heap.size + 1) (nodeA h' y) 26 ∧ x.vals.take k = y.vals.take k) (fun i _ => x.vals.length - (intOf i).toNat)
        case atStart => exact ⟨0, Nat.zero_le _, rfl, hB, BX, BY, by simp⟩
        clear BX BY hB
        obtain ⟨k, hk, rfl, hB, BX, BY, hall⟩ := hrel
        have x6 := BX.at 6 rfl
        have y6 := BY.at 6 rfl
        by_cases hlt : k < x.vals.length
        · have hlt' : (k : Int) < (x.vals.length : Int) := by omega
          have hlty : k < y.vals.length := by have := (hv').out; omega
          have hlty' : (k : Int) < (y.vals.length : Int) := by omega
          obtain ⟨b, off, ha, hbl, hc⟩ := (flat_u64).cell (H.vals.keep (Keeps.of_below hB)) k hlt
          obtain ⟨b', off', ha', hbl', hc'⟩ := (flat_u64).cell (H'.vals.keep (Keeps.of_below hB)) k hlty
          have hst := fun e => Lib.hid (eq_step hall hlt hlty e)
          have hno := fun e => Lib.hid (eq_not hlt hlty e)
          have c0 : wr.cell? ⟨b, off + k, none⟩ = some (.int .u64 x.vals[k]) := by simpa [intC] using hc 0 _ rfl
          have d0 : wr.cell? ⟨b', off' + k, none⟩ = some (.int .u64 y.vals[k]) := by simpa [intC] using hc' 0 _ rfl
          have p0 : wr.cell? ⟨w.heap.size, 6, none⟩ = some (.slice (some ⟨b, off, none⟩) x.vals.length h.vals.c) := by rw [← ha]; exact x6
          have p1 : wr.cell? ⟨w.heap.size + 1, 6, none⟩ = some (.slice (some ⟨b', off', none⟩) y.vals.length h'.vals.c) := by rw [← ha']; exact y6
          clear hc hc' ha ha' x6 y6 hall
          generalize x.vals[k] = a at c0 hst hno
          generalize y.vals[k] = c at d0 hst hno
          go_upto_region 8 with (fail)
          go_quiet (fail)
          have BX2 := BX.drewN nq
          have BY2 := BY.drewN nq
          go_wp2_with fail
          · rename_i hq
            have hN := Lib.hid (show x ≠ y from fun e => (hno (iNe hq)).out (by rw [e]))
            go_ret
            exact ⟨by rw [decide_eq_false hN.out]; rfl, below_drewN hB _⟩
          · rename_i hq
            go_roundw
            case rel => exact ⟨k + 1, by omega, by go_num, below_drewN hB _, BX2, BY2, (hst (iEq hq)).out⟩
            case measure => simp [intOf]; omega
        obtain rfl : k = x.vals.length := by omega
        have hRvals := Lib.hid (eq_all hall (hv').out)
        clear hall
        go_wp2_with fail
        go_loopw [6] (fun i wr => ∃ k : Nat, k ≤ x.kids.length ∧ i = .int .i64 k ∧ Below w.heap.size w wr ∧ Blk wr w.heap.size (nodeA h x) 26 ∧ Blk wr (w.heap.size + 1) (nodeA h' y) 26 ∧ x.kids.take k = y.kids.take k) (fun i _ => x.kids.length - (intOf i).toNat)
        case atStart => exact ⟨0, Nat.zero_le _, rfl, hB, BX, BY, by simp⟩
        clear BX BY hB
        obtain ⟨k, hk, rfl, hB, BX, BY, hall⟩ := hrel
        have x7 := BX.at 7 rfl
        have y7 := BY.at 7 rfl
        by_cases hlt : k < x.kids.length
        · have hlt' : (k : Int) < (x.kids.length : Int) := by omega
          have hlty : k < y.kids.length := by have := (hd').out; omega
          have hlty' : (k : Int) < (y.kids.length : Int) := by omega
          obtain ⟨b, off, ha, hbl, hc⟩ := (flat_i64).cell (H.kids.keep (Keeps.of_below hB)) k hlt
          obtain ⟨b', off', ha', hbl', hc'⟩ := (flat_i64).cell (H'.kids.keep (Keeps.of_below hB)) k hlty
          have hst := fun e => Lib.hid (eq_step hall hlt hlty e)
          have hno := fun e => Lib.hid (eq_not hlt hlty e)
          have c0 : wr.cell? ⟨b, off + k, none⟩ = some (.int .i64 x.kids[k]) := by simpa [intC] using hc 0 _ rfl
          have d0 : wr.cell? ⟨b', off' + k, none⟩ = some (.int .i64 y.kids[k]) := by simpa [intC] using hc' 0 _ rfl
          have p0 : wr.cell? ⟨w.heap.size, 7, none⟩ = some (.slice (some ⟨b, off, none⟩) x.kids.length h.kids.c) := by rw [← ha]; exact x7
          have p1 : wr.cell? ⟨w.heap.size + 1, 7, none⟩ = some (.slice (some ⟨b', off', none⟩) y.kids.length h'.kids.c) := by rw [← ha']; exact y7
          clear hc hc' ha ha' x7 y7 hall
          generalize x.kids[k] = a at c0 hst hno
          generalize y.kids[k] = c at d0 hst hno
          go_upto_region 13 with (fail)
          go_quiet (fail)
          have BX2 := BX.drewN nq
          have BY2 := BY.drewN nq
          go_wp2_with fail
          · rename_i hq
            have hN := Lib.hid (show x ≠ y from fun e => (hno (iNe hq)).out (by rw [e]))
            go_ret
            exact ⟨by rw [decide_eq_false hN.out]; rfl, below_drewN hB _⟩
          · rename_i hq
            go_roundw
            case rel => exact ⟨k + 1, by omega, by go_num, below_drewN hB _, BX2, BY2, (hst (iEq hq)).out⟩
            case measure => simp [intOf]; omega
        obtain rfl : k = x.kids.length := by omega
        have hRkids := Lib.hid (eq_all hall (hd').out)
        clear hall
        go_wp2_with fail
        go_ret
        exact ⟨by
          obtain ⟨g1, g2, g3, g4, g5⟩ := hE.out
          rw [decide_eq_true (show x = y by cases x; cases y; simp only [NodeV.mk.injEq]; exact ⟨g1, g2, g3, g4, g5, hkH.out, hRvals.out, hRkids.out⟩)]; rfl, hB⟩
      · have q2 : ((x.kids.length : Int) != (y.kids.length : Int)) = true := by simp; omega
        have hN := Lib.hid (show x ≠ y from fun e => hd (by rw [e]))
        clear hv hd hk
        go_wp2_with fail
        go_ret
        exact ⟨by rw [decide_eq_false hN.out]; rfl, hB⟩
    · have q1 : ((x.vals.length : Int) != (y.vals.length : Int)) = true := by simp; omega
      have hN := Lib.hid (show x ≠ y from fun e => hv (by rw [e]))
      clear hv hk
      go_wp2_with fail
      go_ret
      exact ⟨by rw [decide_eq_false hN.out]; rfl, hB⟩
  · rw [decide_eq_false hk]
    go_wp2_with fail
    go_ret
    exact ⟨by rw [decide_eq_false (fun e => hk (by rw [e]))]; rfl, hB⟩
end Go.Proofs.Ytbemgfpnoeogdaa.Dp
