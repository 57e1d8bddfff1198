/-
  The Sames of answers, plans and blocks, the program's and the document's: contracts.
-/
import Derived.Test.YtnecikholpiefaaDeepSame
namespace Go.Proofs.Ytnecikholpiefaa.Dp
open Go.RowKit RefP
set_option linter.unusedVariables false
set_option linter.unusedSimpArgs false
abbrev ansA (h : Hd) (x : AnsV) : Array Value := #[.int .i64 x.code, .string x.key, .int .u64 x.val, .slice h.a x.pairs.length h.c]
set_option maxRecDepth 100000 in
set_option maxHeartbeats 3200000 in
theorem same17_any (S S' : List Nat) (h h' : Hd) (x y : AnsV) (w : World) (H : HRow pairT w S h x.pairs) (H' : HRow pairT w S' h' y.pairs) :
    Calls Try.prog 17 #[.agg (ansA h x), .agg (ansA h' y)] w fun e w' => e = .returned (.bool (decide (x = y))) ∧ Below w.heap.size w w' := by
  have hb : Below w.heap.size w ((w.alloc (.cells (ansA h x) 25)).alloc (.cells (ansA h' y) 25)) := by (repeat (first | exact Below.refl _ _ | assumption | refine below_alloc2 ?_ (by first | exact Nat.le_refl _ | omega) _ | refine Below.drew ?_ | refine below_drewN ?_ _ | refine below_push2 ?_ ‹_› (by first | exact Nat.le_refl _ | omega) | refine Below.setCell ?_ (by first | (simp; done) | (simp; omega) | omega) _))
  have BX := (Blk.new w (ansA h x) 25).alloc (.cells (ansA h' y) 25)
  have BY : Blk ((w.alloc (.cells (ansA h x) 25)).alloc (.cells (ansA h' y) 25)) (w.heap.size + 1) (ansA h' y) 25 := by
    have := Blk.new (w.alloc (.cells (ansA h x) 25)) (ansA h' y) 25
    simpa using this
  generalize hW : (w.alloc (.cells (ansA h x) 25)).alloc (.cells (ansA h' y) 25) = w1 at hb BX BY
  replace hW := Lib.hid hW
  have x0 := BX.at 0 rfl
  have x1 := BX.at 1 rfl
  have x2 := BX.at 2 rfl
  have x3 := BX.at 3 rfl
  have y0 := BY.at 0 rfl
  have y1 := BY.at 1 rfl
  have y2 := BY.at 2 rfl
  have y3 := BY.at 3 rfl
  go_enter Try.func17, Try.ntmps17
  go_upto_region 1 with (fail)
  rw [hW.out]
  go_wp2_with fail
  all_goals first
    | (go_ret
       refine ⟨?_, hb⟩
       have hne : x ≠ y := by
         intro e
         subst e
         first | contradiction | simp_all
       rw [decide_eq_false hne]; rfl)
    | skip
  have f2 : x.key = y.key := (Lib.bytes_beq_iff _ _).1 (by simpa using (show x.key.toList = y.key.toList by assumption))
  have hE : Hid (x.code = y.code ∧ x.key = y.key ∧ x.val = y.val) := ⟨by assumption, f2, by assumption⟩
  clear f2
  refine (same06_any S S' h h' x.pairs y.pairs w1 (H.keep (Keeps.of_below hb)) (H'.keep (Keeps.of_below hb))).mono ?_
  rintro e w2 ⟨rfl, hb2⟩
  have hB := below_push2 hb hb2 (Nat.le_refl _)
  go_wp2_with fail
  go_ret
  refine ⟨?_, hB⟩
  obtain ⟨g1, g2, g3⟩ := hE.out
  have : decide (x.pairs = y.pairs) = decide (x = y) := by
    cases x; cases y
    simp only [AnsV.mk.injEq] at *
    simp [g1, g2, g3]
  rw [← this]; rfl
/-- a block's cells -/
abbrev blockA (h : BlockH) (x : BlockV) : Array Value := #[.int .i64 x.kind, .int .i64 x.node.level, .string x.node.low, .string x.node.high, .bool x.node.last, .int .i64 x.node.next, .slice h.node.keys.a x.node.keys.length h.node.keys.c, .slice h.node.vals.a x.node.vals.length h.node.vals.c, .slice h.node.kids.a x.node.kids.length h.node.kids.c, .int .i64 x.plan.thread, .int .i64 x.plan.ans.code, .string x.plan.ans.key, .int .u64 x.plan.ans.val, .slice h.plan.pairs.a x.plan.ans.pairs.length h.plan.pairs.c, .slice h.plan.steps.a x.plan.steps.length h.plan.steps.c, .slice h.plan.extra.a x.plan.extra.length h.plan.extra.c, .slice h.pairs.a x.pairs.length h.pairs.c]
theorem block_eq {x y : BlockV} (e0 : x.kind = y.kind) (e1 : x.node = y.node) (e2 : x.plan.thread = y.plan.thread) (e3 : x.plan.ans = y.plan.ans) (e4 : x.plan.steps = y.plan.steps) (e5 : x.plan.extra = y.plan.extra) (e6 : x.pairs = y.pairs) : x = y := by
  obtain ⟨k, n, ⟨t, a, s, e⟩, p⟩ := x
  obtain ⟨k', n', ⟨t', a', s', e'⟩, p'⟩ := y
  simp only at *
  subst e0; subst e1; subst e2; subst e3; subst e4; subst e5; subst e6
  rfl
set_option maxRecDepth 100000 in
set_option maxHeartbeats 6400000 in
theorem sameB_any (S S' : List Nat) (h h' : BlockH) (x y : BlockV) (w : World) (H : BlockOk w S h x) (H' : BlockOk w S' h' y) :
    Calls Try.prog 10 #[.agg (blockA h x), .agg (blockA h' y)] w fun e w' => e = .returned (.bool (decide (x = y))) ∧ Below w.heap.size w w' := by
  have hB : Below w.heap.size w ((w.alloc (.cells (blockA h x) 48)).alloc (.cells (blockA h' y) 48)) := by (repeat (first | exact Below.refl _ _ | assumption | refine below_alloc2 ?_ (by first | exact Nat.le_refl _ | omega) _ | refine Below.drew ?_ | refine below_drewN ?_ _ | refine below_push2 ?_ ‹_› (by first | exact Nat.le_refl _ | omega) | refine Below.setCell ?_ (by first | (simp; done) | (simp; omega) | omega) _))
  have BX := (Blk.new w (blockA h x) 48).alloc (.cells (blockA h' y) 48)
  have BY : Blk ((w.alloc (.cells (blockA h x) 48)).alloc (.cells (blockA h' y) 48)) (w.heap.size + 1) (blockA h' y) 48 := by
    have := Blk.new (w.alloc (.cells (blockA h x) 48)) (blockA h' y) 48
    simpa using this
  generalize hW : (w.alloc (.cells (blockA h x) 48)).alloc (.cells (blockA h' y) 48) = w1 at hB BX BY
  replace hW := Lib.hid hW
  have x0 := BX.at 0 rfl
  have x1 := BX.at 1 rfl
  have x2 := BX.at 2 rfl
  have x3 := BX.at 3 rfl
  have x4 := BX.at 4 rfl
  have x5 := BX.at 5 rfl
  have x6 := BX.at 6 rfl
  have x7 := BX.at 7 rfl
  have x8 := BX.at 8 rfl
  have x9 := BX.at 9 rfl
  have x10 := BX.at 10 rfl
  have x11 := BX.at 11 rfl
  have x12 := BX.at 12 rfl
  have x13 := BX.at 13 rfl
  have x14 := BX.at 14 rfl
  have x15 := BX.at 15 rfl
  have x16 := BX.at 16 rfl
  have y0 := BY.at 0 rfl
  have y1 := BY.at 1 rfl
  have y2 := BY.at 2 rfl
  have y3 := BY.at 3 rfl
  have y4 := BY.at 4 rfl
  have y5 := BY.at 5 rfl
  have y6 := BY.at 6 rfl
  have y7 := BY.at 7 rfl
  have y8 := BY.at 8 rfl
  have y9 := BY.at 9 rfl
  have y10 := BY.at 10 rfl
  have y11 := BY.at 11 rfl
  have y12 := BY.at 12 rfl
  have y13 := BY.at 13 rfl
  have y14 := BY.at 14 rfl
  have y15 := BY.at 15 rfl
  have y16 := BY.at 16 rfl
  have hm : (maxLen : Nat) = 9223372036854775807 := by unfold maxLen; rfl
  go_enter Try.func10, Try.ntmps10
  go_upto_region 1 with (fail)
  rw [hW.out]
  clear hW
  by_cases e0 : x.kind = y.kind
  · have q0 : (x.kind != y.kind) = false := by simpa using e0
    have hE0 := Lib.hid e0
    clear e0
    go_wp2_with fail
    refine (same10_any S S' h.node h'.node x.node y.node w1 ⟨H.node.level, H.node.low, H.node.high, H.node.next, H.node.keys.keep (Keeps.of_below hB), H.node.vals.keep (Keeps.of_below hB), H.node.kids.keep (Keeps.of_below hB)⟩ ⟨H'.node.level, H'.node.low, H'.node.high, H'.node.next, H'.node.keys.keep (Keeps.of_below hB), H'.node.vals.keep (Keeps.of_below hB), H'.node.kids.keep (Keeps.of_below hB)⟩).mono ?_
    rintro e w2 ⟨rfl, hb2⟩
    replace hB := below_push2 hB hb2 (Nat.le_refl _)
    replace BX := BX.below hb2
    replace BY := BY.below hb2
    clear hb2 q0
    clear x0 x1 x2 x3 x4 x5 x6 x7 x8 x9 x10 x11 x12 x13 x14 x15 x16 y0 y1 y2 y3 y4 y5 y6 y7 y8 y9 y10 y11 y12 y13 y14 y15 y16
    have x0 := BX.at 0 rfl
    have x1 := BX.at 1 rfl
    have x2 := BX.at 2 rfl
    have x3 := BX.at 3 rfl
    have x4 := BX.at 4 rfl
    have x5 := BX.at 5 rfl
    have x6 := BX.at 6 rfl
    have x7 := BX.at 7 rfl
    have x8 := BX.at 8 rfl
    have x9 := BX.at 9 rfl
    have x10 := BX.at 10 rfl
    have x11 := BX.at 11 rfl
    have x12 := BX.at 12 rfl
    have x13 := BX.at 13 rfl
    have x14 := BX.at 14 rfl
    have x15 := BX.at 15 rfl
    have x16 := BX.at 16 rfl
    have y0 := BY.at 0 rfl
    have y1 := BY.at 1 rfl
    have y2 := BY.at 2 rfl
    have y3 := BY.at 3 rfl
    have y4 := BY.at 4 rfl
    have y5 := BY.at 5 rfl
    have y6 := BY.at 6 rfl
    have y7 := BY.at 7 rfl
    have y8 := BY.at 8 rfl
    have y9 := BY.at 9 rfl
    have y10 := BY.at 10 rfl
    have y11 := BY.at 11 rfl
    have y12 := BY.at 12 rfl
    have y13 := BY.at 13 rfl
    have y14 := BY.at 14 rfl
    have y15 := BY.at 15 rfl
    have y16 := BY.at 16 rfl
    by_cases e1 : x.node = y.node
    · rw [decide_eq_true e1]
      have hE1 := Lib.hid e1
      clear e1
      by_cases e2 : x.plan.thread = y.plan.thread
      · have q2 : (x.plan.thread != y.plan.thread) = false := by simpa using e2
        have hE2 := Lib.hid e2
        clear e2
        go_wp2_with fail
        refine (same17_any S S' h.plan.pairs h'.plan.pairs x.plan.ans y.plan.ans w2 (H.plan.ans.pairs.keep (Keeps.of_below hB)) (H'.plan.ans.pairs.keep (Keeps.of_below hB))).mono ?_
        rintro e w3 ⟨rfl, hb3⟩
        replace hB := below_push2 hB hb3 (Nat.le_refl _)
        replace BX := BX.below hb3
        replace BY := BY.below hb3
        clear hb3 q2
        clear x0 x1 x2 x3 x4 x5 x6 x7 x8 x9 x10 x11 x12 x13 x14 x15 x16 y0 y1 y2 y3 y4 y5 y6 y7 y8 y9 y10 y11 y12 y13 y14 y15 y16
        have x0 := BX.at 0 rfl
        have x1 := BX.at 1 rfl
        have x2 := BX.at 2 rfl
        have x3 := BX.at 3 rfl
        have x4 := BX.at 4 rfl
        have x5 := BX.at 5 rfl
        have x6 := BX.at 6 rfl
        have x7 := BX.at 7 rfl
        have x8 := BX.at 8 rfl
        have x9 := BX.at 9 rfl
        have x10 := BX.at 10 rfl
        have x11 := BX.at 11 rfl
        have x12 := BX.at 12 rfl
        have x13 := BX.at 13 rfl
        have x14 := BX.at 14 rfl
        have x15 := BX.at 15 rfl
        have x16 := BX.at 16 rfl
        have y0 := BY.at 0 rfl
        have y1 := BY.at 1 rfl
        have y2 := BY.at 2 rfl
        have y3 := BY.at 3 rfl
        have y4 := BY.at 4 rfl
        have y5 := BY.at 5 rfl
        have y6 := BY.at 6 rfl
        have y7 := BY.at 7 rfl
        have y8 := BY.at 8 rfl
        have y9 := BY.at 9 rfl
        have y10 := BY.at 10 rfl
        have y11 := BY.at 11 rfl
        have y12 := BY.at 12 rfl
        have y13 := BY.at 13 rfl
        have y14 := BY.at 14 rfl
        have y15 := BY.at 15 rfl
        have y16 := BY.at 16 rfl
        by_cases e3 : x.plan.ans = y.plan.ans
        · rw [decide_eq_true e3]
          have hE3 := Lib.hid e3
          clear e3
          by_cases e4 : x.plan.steps.length = y.plan.steps.length
          · have q4 : ((x.plan.steps.length : Int) != (y.plan.steps.length : Int)) = false := by simp; omega
            have hE4 := Lib.hid e4
            by_cases e5 : x.plan.extra.length = y.plan.extra.length
            · have q5 : ((x.plan.extra.length : Int) != (y.plan.extra.length : Int)) = false := by simp; omega
              have hE5 := Lib.hid e5
              clear e4 e5
              go_wp2_with fail
              refine (show Calls _ _ _ _ _ from same17_any S S' h.pairs h'.pairs ⟨0, ⟨#[]⟩, 0, x.pairs⟩ ⟨0, ⟨#[]⟩, 0, y.pairs⟩ w3 (H.pairs.keep (Keeps.of_below hB)) (H'.pairs.keep (Keeps.of_below hB))).mono ?_
              rintro e w4 ⟨rfl, hb4⟩
              replace hB := below_push2 hB hb4 (Nat.le_refl _)
              replace BX := BX.below hb4
              replace BY := BY.below hb4
              clear hb4 q4 q5
              clear x0 x1 x2 x3 x4 x5 x6 x7 x8 x9 x10 x11 x12 x13 x14 x15 x16 y0 y1 y2 y3 y4 y5 y6 y7 y8 y9 y10 y11 y12 y13 y14 y15 y16
              by_cases e6 : x.pairs = y.pairs
              · rw [decide_eq_true (show (⟨0, ⟨#[]⟩, 0, x.pairs⟩ : AnsV) = ⟨0, ⟨#[]⟩, 0, y.pairs⟩ by rw [e6])]
                have hE6 := Lib.hid e6
                clear e6
                go_wp2_with fail
                have v1 := H.plan.steps.le
                have v2 := H.plan.steps.cap
                have v3 := H.plan.extra.le
                have v4 := H.plan.extra.cap
                go_loopw [5] (fun i wr => ∃ k : Nat, k ≤ x.plan.steps.length ∧ i = .int .i64 k ∧ Below w.heap.size w wr ∧ Blk wr w.heap.size (blockA h x) 48 ∧ Blk wr (w.heap.size + 1) (blockA h' y) 48 ∧ x.plan.steps.take k = y.plan.steps.take k) (fun i _ => x.plan.steps.length - (intOf i).toNat)
                case atStart => exact ⟨0, Nat.zero_le _, rfl, hB, BX, BY, by simp⟩
                clear BX BY hB
                obtain ⟨k, hk, rfl, hB, BX, BY, hall⟩ := hrel
                have x14 := BX.at 14 rfl
                have y14 := BY.at 14 rfl
                by_cases hlt : k < x.plan.steps.length
                · have hlt' : (k : Int) < (x.plan.steps.length : Int) := by omega
                  have hlty : k < y.plan.steps.length := by have := (hE4).out; omega
                  have hlty' : (k : Int) < (y.plan.steps.length : Int) := by omega
                  obtain ⟨b, off, ha, hbl, hc⟩ := (flat_step).cell (H.plan.steps.keep (Keeps.of_below hB)) k hlt
                  obtain ⟨b', off', ha', hbl', hc'⟩ := (flat_step).cell (H'.plan.steps.keep (Keeps.of_below hB)) k hlty
                  have hst := fun e => Lib.hid (eq_step hall hlt hlty e)
                  have hno := fun e => Lib.hid (eq_not hlt hlty e)
                  have p0 : wr.cell? ⟨w.heap.size, 14, none⟩ = some (.slice (some ⟨b, off, none⟩) x.plan.steps.length h.plan.steps.c) := by rw [← ha]; exact x14
                  have p1 : wr.cell? ⟨w.heap.size + 1, 14, none⟩ = some (.slice (some ⟨b', off', none⟩) y.plan.steps.length h'.plan.steps.c) := by rw [← ha']; exact y14
                  clear ha ha' x14 y14 hall
                  generalize x.plan.steps[k] = a at hc hst hno
                  generalize y.plan.steps[k] = c at hc' hst hno
                  obtain ⟨x1, x2, x3, x4, x5⟩ := a
                  obtain ⟨y1, y2, y3, y4, y5⟩ := c
                  have c0 : wr.cell? ⟨b, off + k * 5, none⟩ = some (.int .i64 x1) := hc 0 _ rfl
                  have c1 : wr.cell? ⟨b, off + k * 5 + 1, none⟩ = some (.int .u64 x2) := hc 1 _ rfl
                  have c2 : wr.cell? ⟨b, off + k * 5 + 2, none⟩ = some (.int .u64 x3) := hc 2 _ rfl
                  have c3 : wr.cell? ⟨b, off + k * 5 + 3, none⟩ = some (.int .u64 x4) := hc 3 _ rfl
                  have c4 : wr.cell? ⟨b, off + k * 5 + 4, none⟩ = some (.bool x5) := hc 4 _ rfl
                  have d0 : wr.cell? ⟨b', off' + k * 5, none⟩ = some (.int .i64 y1) := hc' 0 _ rfl
                  have d1 : wr.cell? ⟨b', off' + k * 5 + 1, none⟩ = some (.int .u64 y2) := hc' 1 _ rfl
                  have d2 : wr.cell? ⟨b', off' + k * 5 + 2, none⟩ = some (.int .u64 y3) := hc' 2 _ rfl
                  have d3 : wr.cell? ⟨b', off' + k * 5 + 3, none⟩ = some (.int .u64 y4) := hc' 3 _ rfl
                  have d4 : wr.cell? ⟨b', off' + k * 5 + 4, none⟩ = some (.bool y5) := hc' 4 _ rfl
                  have hq := fun w => neqStep w x1 y1 x2 y2 x3 y3 x4 y4 x5 y5
                  clear hc hc'
                  go_upto_region 8 with (fail)
                  go_quiet (fail)
                  have BX2 := BX.drewN nq
                  have BY2 := BY.drewN nq
                  go_wp2_with fail
                  · rename_i hq
                    have hN := Lib.hid (show x ≠ y from fun e => (hno (tNe hq)).out (by rw [e]))
                    go_ret
                    exact ⟨by rw [decide_eq_false hN.out]; rfl, below_drewN hB _⟩
                  · rename_i hq
                    go_roundw
                    case rel => exact ⟨k + 1, by omega, by go_num, below_drewN hB _, BX2, BY2, (hst (tEq hq)).out⟩
                    case measure => simp [intOf]; omega
                obtain rfl : k = x.plan.steps.length := by omega
                have hRsteps := Lib.hid (eq_all hall (hE4).out)
                clear hall
                go_wp2_with fail
                go_loopw [6] (fun i wr => ∃ k : Nat, k ≤ x.plan.extra.length ∧ i = .int .i64 k ∧ Below w.heap.size w wr ∧ Blk wr w.heap.size (blockA h x) 48 ∧ Blk wr (w.heap.size + 1) (blockA h' y) 48 ∧ x.plan.extra.take k = y.plan.extra.take k) (fun i _ => x.plan.extra.length - (intOf i).toNat)
                case atStart => exact ⟨0, Nat.zero_le _, rfl, hB, BX, BY, by simp⟩
                clear BX BY hB
                obtain ⟨k, hk, rfl, hB, BX, BY, hall⟩ := hrel
                have x15 := BX.at 15 rfl
                have y15 := BY.at 15 rfl
                by_cases hlt : k < x.plan.extra.length
                · have hlt' : (k : Int) < (x.plan.extra.length : Int) := by omega
                  have hlty : k < y.plan.extra.length := by have := (hE5).out; omega
                  have hlty' : (k : Int) < (y.plan.extra.length : Int) := by omega
                  obtain ⟨b, off, ha, hbl, hc⟩ := (flat_u64).cell (H.plan.extra.keep (Keeps.of_below hB)) k hlt
                  obtain ⟨b', off', ha', hbl', hc'⟩ := (flat_u64).cell (H'.plan.extra.keep (Keeps.of_below hB)) k hlty
                  have hst := fun e => Lib.hid (eq_step hall hlt hlty e)
                  have hno := fun e => Lib.hid (eq_not hlt hlty e)
                  have p0 : wr.cell? ⟨w.heap.size, 15, none⟩ = some (.slice (some ⟨b, off, none⟩) x.plan.extra.length h.plan.extra.c) := by rw [← ha]; exact x15
                  have p1 : wr.cell? ⟨w.heap.size + 1, 15, none⟩ = some (.slice (some ⟨b', off', none⟩) y.plan.extra.length h'.plan.extra.c) := by rw [← ha']; exact y15
                  clear ha ha' x15 y15 hall
                  generalize x.plan.extra[k] = a at hc hst hno
                  generalize y.plan.extra[k] = c at hc' hst hno
                  have c0 : wr.cell? ⟨b, off + k, none⟩ = some (.int .u64 a) := by simpa [intC] using hc 0 _ rfl
                  have d0 : wr.cell? ⟨b', off' + k, none⟩ = some (.int .u64 c) := by simpa [intC] using hc' 0 _ rfl
                  clear hc hc'
                  go_upto_region 13 with (fail)
                  go_quiet (fail)
                  have BX2 := BX.drewN nq
                  have BY2 := BY.drewN nq
                  go_wp2_with fail
                  · rename_i hq
                    have hN := Lib.hid (show x ≠ y from fun e => (hno (iNe hq)).out (by rw [e]))
                    go_ret
                    exact ⟨by rw [decide_eq_false hN.out]; rfl, below_drewN hB _⟩
                  · rename_i hq
                    go_roundw
                    case rel => exact ⟨k + 1, by omega, by go_num, below_drewN hB _, BX2, BY2, (hst (iEq hq)).out⟩
                    case measure => simp [intOf]; omega
                obtain rfl : k = x.plan.extra.length := by omega
                have hRextra := Lib.hid (eq_all hall (hE5).out)
                clear hall
                go_wp2_with fail
                go_ret
                refine ⟨?_, hB⟩
                rw [decide_eq_true (block_eq hE0.out hE1.out hE2.out hE3.out hRsteps.out hRextra.out hE6.out)]; rfl
              · rw [decide_eq_false (show ¬ (⟨0, ⟨#[]⟩, 0, x.pairs⟩ : AnsV) = ⟨0, ⟨#[]⟩, 0, y.pairs⟩ from fun e => e6 (by injection e))]
                have hN := Lib.hid (show x ≠ y from fun e => e6 (by rw [e]))
                clear e6
                go_wp2_with fail
                go_ret
                exact ⟨by rw [decide_eq_false hN.out]; rfl, hB⟩
            · have q5 : ((x.plan.extra.length : Int) != (y.plan.extra.length : Int)) = true := by simp; omega
              have hN := Lib.hid (show x ≠ y from fun e => e5 (by rw [e]))
              clear e4 e5
              go_wp2_with fail
              go_ret
              exact ⟨by rw [decide_eq_false hN.out]; rfl, hB⟩
          · have q4 : ((x.plan.steps.length : Int) != (y.plan.steps.length : Int)) = true := by simp; omega
            have hN := Lib.hid (show x ≠ y from fun e => e4 (by rw [e]))
            clear e4
            go_wp2_with fail
            go_ret
            exact ⟨by rw [decide_eq_false hN.out]; rfl, hB⟩
        · rw [decide_eq_false e3]
          have hN := Lib.hid (show x ≠ y from fun e => e3 (by rw [e]))
          clear e3
          go_wp2_with fail
          go_ret
          exact ⟨by rw [decide_eq_false hN.out]; rfl, hB⟩
      · have q2 : (x.plan.thread != y.plan.thread) = true := by simpa using e2
        have hN := Lib.hid (show x ≠ y from fun e => e2 (by rw [e]))
        clear e2
        go_wp2_with fail
        go_ret
        exact ⟨by rw [decide_eq_false hN.out]; rfl, hB⟩
    · rw [decide_eq_false e1]
      have hN := Lib.hid (show x ≠ y from fun e => e1 (by rw [e]))
      clear e1
      go_wp2_with fail
      go_ret
      exact ⟨by rw [decide_eq_false hN.out]; rfl, hB⟩
  · have q0 : (x.kind != y.kind) = true := by simpa using e0
    have hN := Lib.hid (show x ≠ y from fun e => e0 (by rw [e]))
    clear e0
    go_wp2_with fail
    go_ret
    exact ⟨by rw [decide_eq_false hN.out]; rfl, hB⟩
end Go.Proofs.Ytnecikholpiefaa.Dp
