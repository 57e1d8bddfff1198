/-
  The Sames of answers, plans and blocks, the program's and the document's: contracts.
-/
import Derived.Laws.CopyOwn
import Derived.Laws.MakeOwn
import Derived.Deep.RegionHeld
import Derived.WalkSpells
import Derived.Lib.QuietBelow
import Derived.BigQuiet
import Derived.Deep.MidRow
import Derived.StillTailTactics
import Derived.Test.YtpempcefgfmniaaMemoryDoesPack2

namespace Go.Proofs.Ytpempcefgfmniaa.Dp
open Go.RowKit RefP
set_option linter.unusedVariables false
set_option linter.unusedSimpArgs false
abbrev ansA (h : Hd) (x : AnsV) : Array Value := #[.int .i64 x.code, .string x.key, .int .u64 x.val, .slice h.a x.pairs.length h.c]
set_option maxRecDepth 100000 in
set_option maxHeartbeats 3200000 in
theorem same17_any (S S' : List Nat) (h h' : Hd) (x y : AnsV) (w : World) (H : HRow pairT w S h x.pairs) (H' : HRow pairT w S' h' y.pairs) :
    Calls Try.prog 55 #[.agg (ansA h x), .agg (ansA h' y)] w fun e w' => e = .returned (.bool (decide (x = y))) ∧ Below w.heap.size w w' := by
  have hb : Below w.heap.size w ((w.alloc (.cells (ansA h x) 30)).alloc (.cells (ansA h' y) 30)) := by (repeat (first | exact Below.refl _ _ | assumption | refine below_alloc2 ?_ (by first | exact Nat.le_refl _ | omega) _ | refine Below.drew ?_ | refine below_drewN ?_ _ | refine below_push2 ?_ ‹_› (by first | exact Nat.le_refl _ | omega) | refine Below.setCell ?_ (by first | (simp; done) | (simp; omega) | omega) _))
  have BX := (Blk.new w (ansA h x) 30).alloc (.cells (ansA h' y) 30)
  have BY : Blk ((w.alloc (.cells (ansA h x) 30)).alloc (.cells (ansA h' y) 30)) (w.heap.size + 1) (ansA h' y) 30 := by
    have := Blk.new (w.alloc (.cells (ansA h x) 30)) (ansA h' y) 30
    simpa using this
  generalize hW : (w.alloc (.cells (ansA h x) 30)).alloc (.cells (ansA h' y) 30) = w1 at hb BX BY
  replace hW := Lib.hid hW
  have x0 := BX.at 0 rfl
  have x1 := BX.at 1 rfl
  have x2 := BX.at 2 rfl
  have x3 := BX.at 3 rfl
  have y0 := BY.at 0 rfl
  have y1 := BY.at 1 rfl
  have y2 := BY.at 2 rfl
  have y3 := BY.at 3 rfl
  go_enter Try.func55, Try.ntmps55
  go_upto_region 1 with (fail)
  rw [hW.out]
  go_wp2_with fail
  all_goals first
    | (go_ret
       refine ⟨?_, hb⟩
       have hne : x ≠ y := by
         intro e
         subst e
         first | contradiction | simp_all
       rw [decide_eq_false hne]; rfl)
    | skip
  have f2 : x.key = y.key := (Lib.bytes_beq_iff _ _).1 (by simpa using (show x.key.toList = y.key.toList by assumption))
  have hE : Hid (x.code = y.code ∧ x.key = y.key ∧ x.val = y.val) := ⟨by assumption, f2, by assumption⟩
  clear f2
  refine (same06_any S S' h h' x.pairs y.pairs w1 (H.keep (Keeps.of_below hb)) (H'.keep (Keeps.of_below hb))).mono ?_
  rintro e w2 ⟨rfl, hb2⟩
  have hB := below_push2 hb hb2 (Nat.le_refl _)
  go_wp2_with fail
  go_ret
  refine ⟨?_, hB⟩
  obtain ⟨g1, g2, g3⟩ := hE.out
  have : decide (x.pairs = y.pairs) = decide (x = y) := by
    cases x; cases y
    simp only [AnsV.mk.injEq] at *
    simp [g1, g2, g3]
  rw [← this]; rfl
/-- a block's cells -/
abbrev blockA (h : BlockH) (x : BlockV) : Array Value := #[.int .i64 x.kind, .int .i64 x.node.level, .string x.node.low, .string x.node.high, .bool x.node.last, .int .i64 x.node.next, .slice h.node.keys.a x.node.keys.length h.node.keys.c, .slice h.node.vals.a x.node.vals.length h.node.vals.c, .slice h.node.kids.a x.node.kids.length h.node.kids.c, .int .i64 x.plan.thread, .int .i64 x.plan.ans.code, .string x.plan.ans.key, .int .u64 x.plan.ans.val, .slice h.plan.pairs.a x.plan.ans.pairs.length h.plan.pairs.c, .slice h.plan.steps.a x.plan.steps.length h.plan.steps.c, .slice h.plan.extra.a x.plan.extra.length h.plan.extra.c, .slice h.pairs.a x.pairs.length h.pairs.c]
theorem block_eq {x y : BlockV} (e0 : x.kind = y.kind) (e1 : x.node = y.node) (e2 : x.plan.thread = y.plan.thread) (e3 : x.plan.ans = y.plan.ans) (e4 : x.plan.steps = y.plan.steps) (e5 : x.plan.extra = y.plan.extra) (e6 : x.pairs = y.pairs) : x = y := by
  obtain ⟨k, n, ⟨t, a, s, e⟩, p⟩ := x
  obtain ⟨k', n', ⟨t', a', s', e'⟩, p'⟩ := y
  simp only at *
  subst e0; subst e1; subst e2; subst e3; subst e4; subst e5; subst e6
  rfl
set_option maxRecDepth 100000 in
set_option maxHeartbeats 6400000 in
theorem sameB_any (S S' : List Nat) (h h' : BlockH) (x y : BlockV) (w : World) (H : BlockOk w S h x) (H' : BlockOk w S' h' y) :
    Calls Try.prog 26 #[.agg (blockA h x), .agg (blockA h' y)] w fun e w' => e = .returned (.bool (decide (x = y))) ∧ Below w.heap.size w w' := by
  have hB : Below w.heap.size w ((w.alloc (.cells (blockA h x) 35)).alloc (.cells (blockA h' y) 35)) := by (repeat (first | exact Below.refl _ _ | assumption | refine below_alloc2 ?_ (by first | exact Nat.le_refl _ | omega) _ | refine Below.drew ?_ | refine below_drewN ?_ _ | refine below_push2 ?_ ‹_› (by first | exact Nat.le_refl _ | omega) | refine Below.setCell ?_ (by first | (simp; done) | (simp; omega) | omega) _))
  have BX := (Blk.new w (blockA h x) 35).alloc (.cells (blockA h' y) 35)
  have BY : Blk ((w.alloc (.cells (blockA h x) 35)).alloc (.cells (blockA h' y) 35)) (w.heap.size + 1) (blockA h' y) 35 := by
    have := Blk.new (w.alloc (.cells (blockA h x) 35)) (blockA h' y) 35
    simpa using this
  generalize hW : (w.alloc (.cells (blockA h x) 35)).alloc (.cells (blockA h' y) 35) = w1 at hB BX BY
  replace hW := Lib.hid hW
  have x0 := BX.at 0 rfl
  have x1 := BX.at 1 rfl
  have x2 := BX.at 2 rfl
  have x3 := BX.at 3 rfl
  have x4 := BX.at 4 rfl
  have x5 := BX.at 5 rfl
  have x6 := BX.at 6 rfl
  have x7 := BX.at 7 rfl
  have x8 := BX.at 8 rfl
  have x9 := BX.at 9 rfl
  have x10 := BX.at 10 rfl
  have x11 := BX.at 11 rfl
  have x12 := BX.at 12 rfl
  have x13 := BX.at 13 rfl
  have x14 := BX.at 14 rfl
  have x15 := BX.at 15 rfl
  have x16 := BX.at 16 rfl
  have y0 := BY.at 0 rfl
  have y1 := BY.at 1 rfl
  have y2 := BY.at 2 rfl
  have y3 := BY.at 3 rfl
  have y4 := BY.at 4 rfl
  have y5 := BY.at 5 rfl
  have y6 := BY.at 6 rfl
  have y7 := BY.at 7 rfl
  have y8 := BY.at 8 rfl
  have y9 := BY.at 9 rfl
  have y10 := BY.at 10 rfl
  have y11 := BY.at 11 rfl
  have y12 := BY.at 12 rfl
  have y13 := BY.at 13 rfl
  have y14 := BY.at 14 rfl
  have y15 := BY.at 15 rfl
  have y16 := BY.at 16 rfl
  have hm : (maxLen : Nat) = 9223372036854775807 := by unfold maxLen; rfl
  go_enter Try.func26, Try.ntmps26
  go_upto_region 1 with (fail)
  rw [hW.out]
  clear hW
  by_cases e0 : x.kind = y.kind
  · have q0 : (x.kind != y.kind) = false := by simpa using e0
    have hE0 := Lib.hid e0
    clear e0
    go_wp2_with fail
    refine (same10_any S S' h.node h'.node x.node y.node w1 ⟨H.node.level, H.node.low, H.node.high, H.node.next, H.node.keys.keep (Keeps.of_below hB), H.node.vals.keep (Keeps.of_below hB), H.node.kids.keep (Keeps.of_below hB)⟩ ⟨H'.node.level, H'.node.low, H'.node.high, H'.node.next, H'.node.keys.keep (Keeps.of_below hB), H'.node.vals.keep (Keeps.of_below hB), H'.node.kids.keep (Keeps.of_below hB)⟩).mono ?_
    rintro e w2 ⟨rfl, hb2⟩
    replace hB := below_push2 hB hb2 (Nat.le_refl _)
    replace BX := BX.below hb2
    replace BY := BY.below hb2
    clear hb2 q0
    clear x0 x1 x2 x3 x4 x5 x6 x7 x8 x9 x10 x11 x12 x13 x14 x15 x16 y0 y1 y2 y3 y4 y5 y6 y7 y8 y9 y10 y11 y12 y13 y14 y15 y16
    have x0 := BX.at 0 rfl
    have x1 := BX.at 1 rfl
    have x2 := BX.at 2 rfl
    have x3 := BX.at 3 rfl
    have x4 := BX.at 4 rfl
    have x5 := BX.at 5 rfl
    have x6 := BX.at 6 rfl
    have x7 := BX.at 7 rfl
    have x8 := BX.at 8 rfl
    have x9 := BX.at 9 rfl
    have x10 := BX.at 10 rfl
    have x11 := BX.at 11 rfl
    have x12 := BX.at 12 rfl
    have x13 := BX.at 13 rfl
    have x14 := BX.at 14 rfl
    have x15 := BX.at 15 rfl
    have x16 := BX.at 16 rfl
    have y0 := BY.at 0 rfl
    have y1 := BY.at 1 rfl
    have y2 := BY.at 2 rfl
    have y3 := BY.at 3 rfl
    have y4 := BY.at 4 rfl
    have y5 := BY.at 5 rfl
    have y6 := BY.at 6 rfl
    have y7 := BY.at 7 rfl
    have y8 := BY.at 8 rfl
    have y9 := BY.at 9 rfl
    have y10 := BY.at 10 rfl
    have y11 := BY.at 11 rfl
    have y12 := BY.at 12 rfl
    have y13 := BY.at 13 rfl
    have y14 := BY.at 14 rfl
    have y15 := BY.at 15 rfl
    have y16 := BY.at 16 rfl
    by_cases e1 : x.node = y.node
    · rw [decide_eq_true e1]
      have hE1 := Lib.hid e1
      clear e1
      by_cases e2 : x.plan.thread = y.plan.thread
      · have q2 : (x.plan.thread != y.plan.thread) = false := by simpa using e2
        have hE2 := Lib.hid e2
        clear e2
        go_wp2_with fail
        refine (same17_any S S' h.plan.pairs h'.plan.pairs x.plan.ans y.plan.ans w2 (H.plan.ans.pairs.keep (Keeps.of_below hB)) (H'.plan.ans.pairs.keep (Keeps.of_below hB))).mono ?_
        rintro e w3 ⟨rfl, hb3⟩
        replace hB := below_push2 hB hb3 (Nat.le_refl _)
        replace BX := BX.below hb3
        replace BY := BY.below hb3
        clear hb3 q2
        clear x0 x1 x2 x3 x4 x5 x6 x7 x8 x9 x10 x11 x12 x13 x14 x15 x16 y0 y1 y2 y3 y4 y5 y6 y7 y8 y9 y10 y11 y12 y13 y14 y15 y16
        have x0 := BX.at 0 rfl
        have x1 := BX.at 1 rfl
        have x2 := BX.at 2 rfl
        have x3 := BX.at 3 rfl
        have x4 := BX.at 4 rfl
        have x5 := BX.at 5 rfl
        have x6 := BX.at 6 rfl
        have x7 := BX.at 7 rfl
        have x8 := BX.at 8 rfl
        have x9 := BX.at 9 rfl
        have x10 := BX.at 10 rfl
        have x11 := BX.at 11 rfl
        have x12 := BX.at 12 rfl
        have x13 := BX.at 13 rfl
        have x14 := BX.at 14 rfl
        have x15 := BX.at 15 rfl
        have x16 := BX.at 16 rfl
        have y0 := BY.at 0 rfl
        have y1 := BY.at 1 rfl
        have y2 := BY.at 2 rfl
        have y3 := BY.at 3 rfl
        have y4 := BY.at 4 rfl
        have y5 := BY.at 5 rfl
        have y6 := BY.at 6 rfl
        have y7 := BY.at 7 rfl
        have y8 := BY.at 8 rfl
        have y9 := BY.at 9 rfl
        have y10 := BY.at 10 rfl
        have y11 := BY.at 11 rfl
        have y12 := BY.at 12 rfl
        have y13 := BY.at 13 rfl
        have y14 := BY.at 14 rfl
        have y15 := BY.at 15 rfl
        have y16 := BY.at 16 rfl
        by_cases e3 : x.plan.ans = y.plan.ans
        · rw [decide_eq_true e3]
          have hE3 := Lib.hid e3
          clear e3
          by_cases e4 : x.plan.steps.length = y.plan.steps.length
          · have q4 : ((x.plan.steps.length : Int) != (y.plan.steps.length : Int)) = false := by simp; omega
            have hE4 := Lib.hid e4
            by_cases e5 : x.plan.extra.length = y.plan.extra.length
            · have q5 : ((x.plan.extra.length : Int) != (y.plan.extra.length : Int)) = false := by simp; omega
              have hE5 := Lib.hid e5
              clear e4 e5
              go_wp2_with fail
              refine (show Calls _ _ _ _ _ from same17_any S S' h.pairs h'.pairs ⟨0, ⟨#[]⟩, 0, x.pairs⟩ ⟨0, ⟨#[]⟩, 0, y.pairs⟩ w3 (H.pairs.keep (Keeps.of_below hB)) (H'.pairs.keep (Keeps.of_below hB))).mono ?_
              rintro e w4 ⟨rfl, hb4⟩
              replace hB := below_push2 hB hb4 (Nat.le_refl _)
              replace BX := BX.below hb4
              replace BY := BY.below hb4
              clear hb4 q4 q5
              clear x0 x1 x2 x3 x4 x5 x6 x7 x8 x9 x10 x11 x12 x13 x14 x15 x16 y0 y1 y2 y3 y4 y5 y6 y7 y8 y9 y10 y11 y12 y13 y14 y15 y16
              by_cases e6 : x.pairs = y.pairs
              · rw [decide_eq_true (show (⟨0, ⟨#[]⟩, 0, x.pairs⟩ : AnsV) = ⟨0, ⟨#[]⟩, 0, y.pairs⟩ by rw [e6])]
                have hE6 := Lib.hid e6
                clear e6
                go_wp2_with fail
                have v1 := H.plan.steps.le
                have v2 := H.plan.steps.cap
                have v3 := H.plan.extra.le
                have v4 := H.plan.extra.cap
                go_loopw [5] (fun i wr => ∃ k : Nat, k ≤ x.plan.steps.length ∧ i = .int .i64 k ∧ Below w.heap.size w wr ∧ Blk wr w.heap.size (blockA h x) 35 ∧ Blk wr (w.heap.size + 1) (blockA h' y) 35 ∧ x.plan.steps.take k = y.plan.steps.take k) (fun i _ => x.plan.steps.length - (intOf i).toNat)
                case atStart => exact ⟨0, Nat.zero_le _, rfl, hB, BX, BY, by simp⟩
                clear BX BY hB
                obtain ⟨k, hk, rfl, hB, BX, BY, hall⟩ := hrel
                have x14 := BX.at 14 rfl
                have y14 := BY.at 14 rfl
                by_cases hlt : k < x.plan.steps.length
                · have hlt' : (k : Int) < (x.plan.steps.length : Int) := by omega
                  have hlty : k < y.plan.steps.length := by have := (hE4).out; omega
                  have hlty' : (k : Int) < (y.plan.steps.length : Int) := by omega
                  obtain ⟨b, off, ha, hbl, hc⟩ := (flat_step).cell (H.plan.steps.keep (Keeps.of_below hB)) k hlt
                  obtain ⟨b', off', ha', hbl', hc'⟩ := (flat_step).cell (H'.plan.steps.keep (Keeps.of_below hB)) k hlty
                  have hst := fun e => Lib.hid (eq_step hall hlt hlty e)
                  have hno := fun e => Lib.hid (eq_not hlt hlty e)
                  have p0 : wr.cell? ⟨w.heap.size, 14, none⟩ = some (.slice (some ⟨b, off, none⟩) x.plan.steps.length h.plan.steps.c) := by rw [← ha]; exact x14
                  have p1 : wr.cell? ⟨w.heap.size + 1, 14, none⟩ = some (.slice (some ⟨b', off', none⟩) y.plan.steps.length h'.plan.steps.c) := by rw [← ha']; exact y14
                  clear ha ha' x14 y14 hall
                  generalize x.plan.steps[k] = a at hc hst hno
                  generalize y.plan.steps[k] = c at hc' hst hno
                  obtain ⟨x1, x2, x3, x4, x5⟩ := a
                  obtain ⟨y1, y2, y3, y4, y5⟩ := c
                  have c0 : wr.cell? ⟨b, off + k * 5, none⟩ = some (.int .i64 x1) := hc 0 _ rfl
                  have c1 : wr.cell? ⟨b, off + k * 5 + 1, none⟩ = some (.int .u64 x2) := hc 1 _ rfl
                  have c2 : wr.cell? ⟨b, off + k * 5 + 2, none⟩ = some (.int .u64 x3) := hc 2 _ rfl
                  have c3 : wr.cell? ⟨b, off + k * 5 + 3, none⟩ = some (.int .u64 x4) := hc 3 _ rfl
                  have c4 : wr.cell? ⟨b, off + k * 5 + 4, none⟩ = some (.bool x5) := hc 4 _ rfl
                  have d0 : wr.cell? ⟨b', off' + k * 5, none⟩ = some (.int .i64 y1) := hc' 0 _ rfl
                  have d1 : wr.cell? ⟨b', off' + k * 5 + 1, none⟩ = some (.int .u64 y2) := hc' 1 _ rfl
                  have d2 : wr.cell? ⟨b', off' + k * 5 + 2, none⟩ = some (.int .u64 y3) := hc' 2 _ rfl
                  have d3 : wr.cell? ⟨b', off' + k * 5 + 3, none⟩ = some (.int .u64 y4) := hc' 3 _ rfl
                  have d4 : wr.cell? ⟨b', off' + k * 5 + 4, none⟩ = some (.bool y5) := hc' 4 _ rfl
                  have hq := fun w => neqStep w x1 y1 x2 y2 x3 y3 x4 y4 x5 y5
                  clear hc hc'
                  go_upto_region 8 with (fail)
                  go_quiet (fail)
                  have BX2 := BX.drewN nq
                  have BY2 := BY.drewN nq
                  go_wp2_with fail
                  · rename_i hq
                    have hN := Lib.hid (show x ≠ y from fun e => (hno (tNe hq)).out (by rw [e]))
                    go_ret
                    exact ⟨by rw [decide_eq_false hN.out]; rfl, below_drewN hB _⟩
                  · rename_i hq
                    go_roundw
                    case rel => exact ⟨k + 1, by omega, by go_num, below_drewN hB _, BX2, BY2, (hst (tEq hq)).out⟩
                    case measure => simp [intOf]; omega
                obtain rfl : k = x.plan.steps.length := by omega
                have hRsteps := Lib.hid (eq_all hall (hE4).out)
                clear hall
                go_wp2_with fail
                go_loopw [6] (fun i wr => ∃ k : Nat, k ≤ x.plan.extra.length ∧ i = .int .i64 k ∧ Below w.heap.size w wr ∧ Blk wr w.heap.size (blockA h x) 35 ∧ Blk wr (w.heap.size + 1) (blockA h' y) 35 ∧ x.plan.extra.take k = y.plan.extra.take k) (fun i _ => x.plan.extra.length - (intOf i).toNat)
                case atStart => exact ⟨0, Nat.zero_le _, rfl, hB, BX, BY, by simp⟩
                clear BX BY hB
                obtain ⟨k, hk, rfl, hB, BX, BY, hall⟩ := hrel
                have x15 := BX.at 15 rfl
                have y15 := BY.at 15 rfl
                by_cases hlt : k < x.plan.extra.length
                · have hlt' : (k : Int) < (x.plan.extra.length : Int) := by omega
                  have hlty : k < y.plan.extra.length := by have := (hE5).out; omega
                  have hlty' : (k : Int) < (y.plan.extra.length : Int) := by omega
                  obtain ⟨b, off, ha, hbl, hc⟩ := (flat_u64).cell (H.plan.extra.keep (Keeps.of_below hB)) k hlt
                  obtain ⟨b', off', ha', hbl', hc'⟩ := (flat_u64).cell (H'.plan.extra.keep (Keeps.of_below hB)) k hlty
                  have hst := fun e => Lib.hid (eq_step hall hlt hlty e)
                  have hno := fun e => Lib.hid (eq_not hlt hlty e)
                  have p0 : wr.cell? ⟨w.heap.size, 15, none⟩ = some (.slice (some ⟨b, off, none⟩) x.plan.extra.length h.plan.extra.c) := by rw [← ha]; exact x15
                  have p1 : wr.cell? ⟨w.heap.size + 1, 15, none⟩ = some (.slice (some ⟨b', off', none⟩) y.plan.extra.length h'.plan.extra.c) := by rw [← ha']; exact y15
                  clear ha ha' x15 y15 hall
                  generalize x.plan.extra[k] = a at hc hst hno
                  generalize y.plan.extra[k] = c at hc' hst hno
                  have c0 : wr.cell? ⟨b, off + k, none⟩ = some (.int .u64 a) := by simpa [intC] using hc 0 _ rfl
                  have d0 : wr.cell? ⟨b', off' + k, none⟩ = some (.int .u64 c) := by simpa [intC] using hc' 0 _ rfl
                  clear hc hc'
                  go_upto_region 13 with (fail)
                  go_quiet (fail)
                  have BX2 := BX.drewN nq
                  have BY2 := BY.drewN nq
                  go_wp2_with fail
                  · rename_i hq
                    have hN := Lib.hid (show x ≠ y from fun e => (hno (iNe hq)).out (by rw [e]))
                    go_ret
                    exact ⟨by rw [decide_eq_false hN.out]; rfl, below_drewN hB _⟩
                  · rename_i hq
                    go_roundw
                    case rel => exact ⟨k + 1, by omega, by go_num, below_drewN hB _, BX2, BY2, (hst (iEq hq)).out⟩
                    case measure => simp [intOf]; omega
                obtain rfl : k = x.plan.extra.length := by omega
                have hRextra := Lib.hid (eq_all hall (hE5).out)
                clear hall
                go_wp2_with fail
                go_ret
                refine ⟨?_, hB⟩
                rw [decide_eq_true (block_eq hE0.out hE1.out hE2.out hE3.out hRsteps.out hRextra.out hE6.out)]; rfl
              · rw [decide_eq_false (show ¬ (⟨0, ⟨#[]⟩, 0, x.pairs⟩ : AnsV) = ⟨0, ⟨#[]⟩, 0, y.pairs⟩ from fun e => e6 (by injection e))]
                have hN := Lib.hid (show x ≠ y from fun e => e6 (by rw [e]))
                clear e6
                go_wp2_with fail
                go_ret
                exact ⟨by rw [decide_eq_false hN.out]; rfl, hB⟩
            · have q5 : ((x.plan.extra.length : Int) != (y.plan.extra.length : Int)) = true := by simp; omega
              have hN := Lib.hid (show x ≠ y from fun e => e5 (by rw [e]))
              clear e4 e5
              go_wp2_with fail
              go_ret
              exact ⟨by rw [decide_eq_false hN.out]; rfl, hB⟩
          · have q4 : ((x.plan.steps.length : Int) != (y.plan.steps.length : Int)) = true := by simp; omega
            have hN := Lib.hid (show x ≠ y from fun e => e4 (by rw [e]))
            clear e4
            go_wp2_with fail
            go_ret
            exact ⟨by rw [decide_eq_false hN.out]; rfl, hB⟩
        · rw [decide_eq_false e3]
          have hN := Lib.hid (show x ≠ y from fun e => e3 (by rw [e]))
          clear e3
          go_wp2_with fail
          go_ret
          exact ⟨by rw [decide_eq_false hN.out]; rfl, hB⟩
      · have q2 : (x.plan.thread != y.plan.thread) = true := by simpa using e2
        have hN := Lib.hid (show x ≠ y from fun e => e2 (by rw [e]))
        clear e2
        go_wp2_with fail
        go_ret
        exact ⟨by rw [decide_eq_false hN.out]; rfl, hB⟩
    · rw [decide_eq_false e1]
      have hN := Lib.hid (show x ≠ y from fun e => e1 (by rw [e]))
      clear e1
      go_wp2_with fail
      go_ret
      exact ⟨by rw [decide_eq_false hN.out]; rfl, hB⟩
  · have q0 : (x.kind != y.kind) = true := by simpa using e0
    have hN := Lib.hid (show x ≠ y from fun e => e0 (by rw [e]))
    clear e0
    go_wp2_with fail
    go_ret
    exact ⟨by rw [decide_eq_false hN.out]; rfl, hB⟩
end Go.Proofs.Ytpempcefgfmniaa.Dp

/-
  Deep copies: node.Clone, slices.Clone, memory's copied: contracts.
-/
namespace Go.Proofs.Ytpempcefgfmniaa.Dp
open Go.RowKit RefP MemP
set_option linter.unusedVariables false
set_option linter.unusedSimpArgs false
theorem copy_fr {P : Program} {w : World} {ops : Array Oper} {rest : List Oper} {o : Oper} {a : Act} {Q : Exit → Act → World → Prop} (hgd : o.guard = none) (d s : Operand) (dT sT : TypeId)
    (ho : o.op = .call { callee := .builtin .copy, args := #[d, s], argTypes := #[dT, sT] }) (elem : TypeId) (hu : P.underlying dT = some (.slice elem)) (hsz : (P.info? elem).map (·.size) = some 1)
    (dp sp : Option Addr) (dLen dCap sLen sCap : Nat) (hd : a.eval d = .slice dp dLen dCap) (hs : a.eval s = .slice sp sLen sCap)
    (g off : Nat) (cur : List Value) (t : TypeId) (hg : w.heap[g]? = some (.cells cur.toArray t (0, 0))) (cs : List Value) (hn : cs.length = Nat.min sLen dLen)
    (hpos : 0 < cs.length → dp = some ⟨g, off, none⟩ ∧ ∃ ad, sp = some ad ∧ ∀ j v, cs[j]? = some v → w.cell? (ad.add j) = some v)
    (hfit : off + cs.length ≤ cur.length) (h1 : ∀ v ∈ cs, v.oneCell' = true)
    (h : ∀ w', Hid (w'.heap[g]? = some (.cells (splice cur off cs).toArray t (0, 0))) → Fr [g] w w' → wpList P ops Q rest (a.put o.dst (goInt cs.length)) w') :
    wpList P ops Q (o :: rest) a w := by
  by_cases h0 : cs.length = 0
  · obtain rfl : cs = [] := List.eq_nil_of_length_eq_zero h0
    refine wpList_copy_nothing hgd d s dT sT ho elem hu hsz dp sp dLen dCap sLen sCap hd hs (by simpa using hn.symm) ?_
    exact h w (show _ = _ by simpa [splice] using hg) (Fr.refl _ _)
  · obtain ⟨rfl, ad, rfl, hsrc⟩ := hpos (by omega)
    refine wpList_copy_own hgd d s dT sT ho elem hu hsz g off dLen dCap ad sLen sCap hd hs cur.toArray t hg cs hn hsrc (by simpa using hfit) h1 ?_
    exact h _ (show _ = _ by simpa [splice] using setRow_heap w g _ _ t _ hg) (Fr.row g _ (by simp))
theorem add_off (b off i : Nat) : (⟨b, off, none⟩ : Addr).add i = ⟨b, off + i, none⟩ := by
  unfold Addr.add
  by_cases h : i = 0 <;> simp [h]
/-- the cells of a row of elements of one cell, in order -/
theorem src1 {α : Type} {C : Cod α} (f : α → Value) (F : Flat C (fun x => [f x])) {w : World} {S : List Nat} {h : Hd} {xs : List α} (H : HRow C w S h xs) : 0 < (xs.map f).length → ∃ ad, h.a = some ad ∧ ∀ j v, (xs.map f)[j]? = some v → w.cell? (ad.add j) = some v := by
  intro h0
  have hk : C.k = 1 := by
    cases xs with
    | nil => simp at h0
    | cons x _ => rw [← F.len x]; rfl
  obtain ⟨b, off, e, hb, hc⟩ := F.cells H (by simpa using h0)
  refine ⟨_, e, fun j v hj => ?_⟩
  rw [List.getElem?_map] at hj
  cases hx : xs[j]? with
  | none => simp [hx] at hj
  | some x =>
    simp [hx] at hj
    subst hj
    obtain ⟨hi, hxi⟩ := List.getElem?_eq_some_iff.1 hx
    have := hc j hi 0 _ rfl
    rw [hk, Nat.mul_one, Nat.add_zero, hxi] at this
    rw [add_off]; exact this
/-- a block that has them -/
theorem row1 {α : Type} {C : Cod α} (f : α → Value) (F : Flat C (fun x => [f x])) {w w0 : World} {S S0 : List Nat} {b : Nat} {xs : List α} {T : TypeId} (B : Blk w b (xs.map f).toArray T) (hx : ∀ x ∈ xs, ∃ cs, C.rep w0 S0 cs x) (hS : b ∉ S) (hl : xs.length ≤ maxLen) : HRow C w S ⟨some ⟨b, 0, none⟩, xs.length⟩ xs := by
  refine ⟨Nat.le_refl _, hl, fun h0 => ⟨b, 0, rfl, B.lt, hS, fun i x hi => ?_⟩⟩
  obtain ⟨hil, hxi⟩ := List.getElem?_eq_some_iff.1 hi
  subst hxi
  obtain ⟨cs, hr⟩ := hx _ (List.getElem_mem hil)
  have := F.eq hr
  subst this
  have hk : C.k = 1 := by rw [← F.len xs[i]]; rfl
  refine ⟨_, F.any hr, fun j v hj => ?_⟩
  cases j with
  | zero =>
    simp at hj
    subst hj
    rw [hk, Nat.mul_one, Nat.add_zero, Nat.zero_add]
    exact B.at i (by simp [hil])
  | succ j => simp at hj
/-- a row of zeros that was made -/
abbrev zrow (z : Value) (n : Nat) : Array Value := madeCells #[z] n
abbrev hd1 (b n : Nat) : Value := .slice (some ⟨b, 0, none⟩) n n
theorem infoS : (Try.prog.info? 9).map (fun i => (i.zero, i.size, i.bytes)) = some (some (.string ⟨#[]⟩), 1, 16) := by kernel_rfl
theorem infoU : (Try.prog.info? 22).map (fun i => (i.zero, i.size, i.bytes)) = some (some (.int .u64 0), 1, 8) := by kernel_rfl
theorem infoI : (Try.prog.info? 3).map (fun i => (i.zero, i.size, i.bytes)) = some (some (.int .i64 0), 1, 8) := by kernel_rfl
theorem mk_u {P : Program} (t e : TypeId) (z : Value) (by_ : Nat) (ht : P.underlying t = some (.slice e)) (hi : (P.info? e).map (fun i => (i.zero, i.size, i.bytes)) = some (some z, 1, by_)) (hz : z.cells = #[z]) (n : Nat) (hb : by_ * n ≤ 281474976710656) (h63 : n ≤ 9223372036854775807) (w : World) :
    (Instr.makeSlice t (.int .i64 (n : Int)) (.int .i64 (n : Int))).run P w = .ok (.slice (some ⟨w.heap.size, 0, none⟩) n n) (w.alloc (.cells (zrow z n) e)) := by
  obtain ⟨i0, hi, hz0, hz1, hz2⟩ := info_parts' hi
  have hb' : (i0.bytes : Int) * (n : Int) ≤ 281474976710656 := by
    have h : ((i0.bytes * n : Nat) : Int) ≤ 281474976710656 := by rw [hz2]; omega
    rwa [Int.natCast_mul] at h
  have hr := run_make (P := P) w t e i0 z ht hi hz0 .i64 .i64 n n (by omega) (by omega) hb' (by omega)
  simp only [Int.toNat_natCast, hz1, Nat.mul_one, hz] at hr
  exact hr
end Go.Proofs.Ytpempcefgfmniaa.Dp

/-
  node.Clone of any node: contract.
-/
namespace Go.Proofs.Ytpempcefgfmniaa.Dp
open Go.RowKit RefP MemP
set_option linter.unusedVariables false
set_option linter.unusedSimpArgs false
abbrev ndZ : Array Value := #[.int .i64 0, .string ⟨#[]⟩, .string ⟨#[]⟩, .bool false, .int .i64 0, .slice none 0 0, .slice none 0 0, .slice none 0 0]
theorem splice_all' {α : Type} (L cs : List α) (h : L.length = cs.length) : splice L 0 cs = cs := by simp [splice, ← h]
/-- what makes three rows leaves -/
structure Made3 (w0 w w' : World) (h : NodeH) (x : NodeV) (b1 b2 b3 : Nat) : Prop where
  below : Below w0.heap.size w0 w'
  n : Blk w' w0.heap.size (nodeA h x) 27
  r : Blk w' (w0.heap.size + 1) ndZ 27
  k : Blk w' b1 (zrow (.string ⟨#[]⟩) x.keys.length) 9
  v : Blk w' b2 (zrow (.int .u64 0) x.vals.length) 22
  d : Blk w' b3 (zrow (.int .i64 0) x.kids.length) 3
  ge : w0.heap.size + 2 ≤ b1 ∧ w0.heap.size + 2 ≤ b2 ∧ w0.heap.size + 2 ≤ b3
  ne : b1 ≠ b2 ∧ b1 ≠ b3 ∧ b2 ≠ b3
set_option maxRecDepth 100000 in
set_option maxHeartbeats 3200000 in
theorem nclone_any (S : List Nat) (h : NodeH) (x : NodeV) (w : World) (H : NodeOk w S h x) (hk : x.keys.length ≤ 1000) (hv : x.vals.length ≤ 1000) (hd : x.kids.length ≤ 1000) :
    Calls Try.prog 72 #[.agg (nodeA h x)] w fun e w' => (∃ h', e = .returned (.agg (nodeA h' x)) ∧ NodeOk w' (List.range w.heap.size) h' x) ∧ Below w.heap.size w w' := by
  have hb0 : Below w.heap.size w ((w.alloc (.cells (nodeA h x) 27)).alloc (.cells ndZ 27)) := by (repeat (first | exact Below.refl _ _ | assumption | refine below_alloc2 ?_ (by first | exact Nat.le_refl _ | omega) _ | refine Below.drew ?_ | refine below_drewN ?_ _ | refine below_push2 ?_ ‹_› (by first | exact Nat.le_refl _ | omega) | refine Below.setCell ?_ (by first | (simp; done) | (simp; omega) | omega) _))
  have BN := (Blk.new w (nodeA h x) 27).alloc (.cells ndZ 27)
  have BR : Blk ((w.alloc (.cells (nodeA h x) 27)).alloc (.cells ndZ 27)) (w.heap.size + 1) ndZ 27 := by
    have := Blk.new (w.alloc (.cells (nodeA h x) 27)) ndZ 27
    simpa using this
  have m1 := mk_u (P := Try.prog) 23 9 _ _ Try.underlying23 infoS (by simp [Value.cells]) x.keys.length (by omega) (by omega)
  have m2 := mk_u (P := Try.prog) 24 22 _ _ Try.underlying24 infoU (by simp [Value.cells]) x.vals.length (by omega) (by omega)
  have m3 := mk_u (P := Try.prog) 25 3 _ _ Try.underlying25 infoI (by simp [Value.cells]) x.kids.length (by omega) (by omega)
  have hs : ((w.alloc (.cells (nodeA h x) 27)).alloc (.cells ndZ 27)).heap.size = w.heap.size + 2 := by simp
  go_enter Try.func72, Try.ntmps72
  go_wp2_with fail
  generalize ((w.alloc (.cells (nodeA h x) 27)).alloc (.cells ndZ 27)) = w1 at hb0 BN BR hs ⊢
  have c5 := BN.at 5 rfl
  have c6 := BN.at 6 rfl
  have c7 := BN.at 7 rfl
  go_upto_region 1 with (fail)
  have f1 : ∀ (c : Array Value) (T : TypeId) (Y Z : Obj), Blk (((w1.alloc (.cells c T)).alloc Y).alloc Z).drew (w.heap.size + 2) c T := fun c T Y Z => by
    have := (((Blk.new w1 c T).alloc Y).alloc Z).drew
    rwa [hs] at this
  have f2 : ∀ (c : Array Value) (T : TypeId) (Y Z : Obj), Blk (((w1.alloc Y).alloc (.cells c T)).alloc Z).drew (w.heap.size + 2 + 1) c T := fun c T Y Z => by
    have := ((Blk.new (w1.alloc Y) c T).alloc Z).drew
    rwa [World.size_alloc, hs] at this
  have f3 : ∀ (c : Array Value) (T : TypeId) (Y Z : Obj), Blk (((w1.alloc Y).alloc Z).alloc (.cells c T)).drew (w.heap.size + 2 + 1 + 1) c T := fun c T Y Z => by
    have := (Blk.new ((w1.alloc Y).alloc Z) c T).drew
    rwa [World.size_alloc, World.size_alloc, hs] at this
  go_cut [3, 4, 5] (fun u3 u4 u5 wx => ∃ b1 b2 b3, u3 = hd1 b1 x.keys.length ∧ u4 = hd1 b2 x.vals.length ∧ u5 = hd1 b3 x.kids.length ∧ Made3 w w1 wx h x b1 b2 b3)
  case first =>
    go_region_held (fun w' => w'.cell? ⟨w.heap.size, 5, none⟩ = some (.slice h.keys.a x.keys.length h.keys.c) ∧ w'.cell? ⟨w.heap.size, 6, none⟩ = some (.slice h.vals.a x.vals.length h.vals.c) ∧ w'.cell? ⟨w.heap.size, 7, none⟩ = some (.slice h.kids.a x.kids.length h.kids.c)) (first | exact ⟨BN.drew.at 5 rfl, BN.drew.at 6 rfl, BN.drew.at 7 rfl⟩ | exact ⟨(BN.alloc _).drew.at 5 rfl, (BN.alloc _).drew.at 6 rfl, (BN.alloc _).drew.at 7 rfl⟩ | exact ⟨((BN.alloc _).alloc _).drew.at 5 rfl, ((BN.alloc _).alloc _).drew.at 6 rfl, ((BN.alloc _).alloc _).drew.at 7 rfl⟩ | exact ⟨(((BN.alloc _).alloc _).alloc _).drew.at 5 rfl, (((BN.alloc _).alloc _).alloc _).drew.at 6 rfl, (((BN.alloc _).alloc _).alloc _).drew.at 7 rfl⟩) (fail)
    all_goals
      go_wp2_with fail
      go_meet
      refine ⟨_, _, _, rfl, rfl, rfl, (((hb0.alloc (by omega) _).alloc (by simp; omega) _).alloc (by simp; omega) _).drew, (((BN.alloc _).alloc _).alloc _).drew, (((BR.alloc _).alloc _).alloc _).drew, ?_, ?_, ?_, ⟨by omega, by omega, by omega⟩, ⟨by omega, by omega, by omega⟩⟩ <;>
        first
          | exact f1 _ _ _ _
          | exact f2 _ _ _ _
          | exact f3 _ _ _ _
  case rest =>
    obtain ⟨b1, b2, b3, rfl, rfl, rfl, M⟩ := hcut
    clear hb0 BN BR c5 c6 c7 hs m1 m2 m3 f1 f2 f3
    have c5 := M.n.at 5 rfl
    have c6 := M.n.at 6 rfl
    have c7 := M.n.at 7 rfl
    have hkk := Keeps.of_below (S := S) M.below
    have kH := H.keep hkk
    have z1 : (Try.prog.info? 9).map (·.size) = some 1 := by kernel_rfl
    have z2 : (Try.prog.info? 22).map (·.size) = some 1 := by kernel_rfl
    have z3 : (Try.prog.info? 3).map (·.size) = some 1 := by kernel_rfl
    have l1 : (zrow (.string ⟨#[]⟩) x.keys.length).toList.length = (x.keys.map Value.string).length := by simp [size_madeCells]
    have l2 : (zrow (.int .u64 0) x.vals.length).toList.length = (x.vals.map (Value.int .u64)).length := by simp [size_madeCells]
    have l3 : (zrow (.int .i64 0) x.kids.length).toList.length = (x.kids.map (Value.int .i64)).length := by simp [size_madeCells]
    have n1 : (x.keys.map Value.string).length = Nat.min x.keys.length x.keys.length := by simp
    have n2 : (x.vals.map (Value.int .u64)).length = Nat.min x.vals.length x.vals.length := by simp
    have n3 : (x.kids.map (Value.int .i64)).length = Nat.min x.kids.length x.kids.length := by simp
    have h1 : wc.heap[b1]? = some (.cells (zrow (.string ⟨#[]⟩) x.keys.length).toList.toArray 9 (0, 0)) := by simpa using M.k.h
    have hl := M.below.size
    obtain ⟨ge1, ge2, ge3⟩ := M.ge
    obtain ⟨ne1, ne2, ne3⟩ := M.ne
    go_upto_region 2 with (fail)
    go_upto_region 3 with (refine copy_fr (o := ⟨some _, _, _, _, _, _⟩) rfl _ _ 23 23 rfl 9 Try.underlying23 z1 _ _ _ _ _ _ (by rfl) (by rfl) b1 0 (zrow (.string ⟨#[]⟩) x.keys.length).toList 9 h1 (x.keys.map Value.string) n1 (fun h0 => ⟨rfl, src1 Value.string flat_str kH.keys h0⟩) (by omega) (fun v hv => by simp at hv; obtain ⟨s, _, rfl⟩ := hv; rfl) ?_; intro w2 hg2 hF2)
    have hg2' := hg2.out
    rw [splice_all' _ _ l1] at hg2'
    have BK : Blk w2 b1 (x.keys.map Value.string).toArray 9 := ⟨hg2'⟩
    have hB2 := hF2.below M.below (Nat.le_refl _) (by simp; omega)
    have N2 := hF2.blk M.n (by simp; omega)
    have R2 := hF2.blk M.r (by simp; omega)
    have V2 := hF2.blk M.v (by simp; omega)
    have D2 := hF2.blk M.d (by simp; omega)
    have kH2 := H.keep (Keeps.of_below (S := S) hB2)
    clear hg2 hg2' hF2 c5 c6 c7 kH hkk h1 M
    have h2 : w2.heap[b2]? = some (.cells (zrow (.int .u64 0) x.vals.length).toList.toArray 22 (0, 0)) := by simpa using V2.h
    have c6 := N2.at 6 rfl
    go_upto_region 4 with (refine copy_fr (o := ⟨some _, _, _, _, _, _⟩) rfl _ _ 24 24 rfl 22 Try.underlying24 z2 _ _ _ _ _ _ (by rfl) (by rfl) b2 0 (zrow (.int .u64 0) x.vals.length).toList 22 h2 (x.vals.map (Value.int .u64)) n2 (fun h0 => ⟨rfl, src1 (Value.int .u64) flat_u64 kH2.vals h0⟩) (by omega) (fun v hv => by simp at hv; obtain ⟨s, _, rfl⟩ := hv; rfl) ?_; intro w3 hg3 hF3)
    have hg3' := hg3.out
    rw [splice_all' _ _ l2] at hg3'
    have BV : Blk w3 b2 (x.vals.map (Value.int .u64)).toArray 22 := ⟨hg3'⟩
    have hB3 := hF3.below hB2 (Nat.le_refl _) (by simp; omega)
    have N3 := hF3.blk N2 (by simp; omega)
    have R3 := hF3.blk R2 (by simp; omega)
    have K3 := hF3.blk BK (by simp; omega)
    have D3 := hF3.blk D2 (by simp; omega)
    have kH3 := H.keep (Keeps.of_below (S := S) hB3)
    clear hg3 hg3' hF3 c6 kH2 h2 N2 R2 V2 D2 BK hB2
    have h3 : w3.heap[b3]? = some (.cells (zrow (.int .i64 0) x.kids.length).toList.toArray 3 (0, 0)) := by simpa using D3.h
    have c7 := N3.at 7 rfl
    go_upto_region 5 with (refine copy_fr (o := ⟨some _, _, _, _, _, _⟩) rfl _ _ 25 25 rfl 3 Try.underlying25 z3 _ _ _ _ _ _ (by rfl) (by rfl) b3 0 (zrow (.int .i64 0) x.kids.length).toList 3 h3 (x.kids.map (Value.int .i64)) n3 (fun h0 => ⟨rfl, src1 (Value.int .i64) flat_i64 kH3.kids h0⟩) (by omega) (fun v hv => by simp at hv; obtain ⟨s, _, rfl⟩ := hv; rfl) ?_; intro w4 hg4 hF4)
    have hg4' := hg4.out
    rw [splice_all' _ _ l3] at hg4'
    have D4 : Blk w4 b3 (x.kids.map (Value.int .i64)).toArray 3 := ⟨hg4'⟩
    have hB4 := hF4.below hB3 (Nat.le_refl _) (by simp; omega)
    have N4 := hF4.blk N3 (by simp; omega)
    have R4 := hF4.blk R3 (by simp; omega)
    have K4 := hF4.blk K3 (by simp; omega)
    have V4 := hF4.blk BV (by simp; omega)
    clear hg4 hg4' hF4 c7 kH3 h3 N3 R3 D3 K3 BV hB3
    have f5 := N4.free 5
    have f6 := N4.free 6
    have f7 := N4.free 7
    have c5 := N4.at 5 rfl
    have c6 := N4.at 6 rfl
    have c7 := N4.at 7 rfl
    generalize hh : (⟨⟨some ⟨b1, 0, none⟩, x.keys.length⟩, ⟨some ⟨b2, 0, none⟩, x.vals.length⟩, ⟨some ⟨b3, 0, none⟩, x.kids.length⟩⟩ : NodeH) = h'
    have BF : Blk (((w4.setCell ⟨w.heap.size, 5, none⟩ (hd1 b1 x.keys.length)).setCell ⟨w.heap.size, 6, none⟩ (hd1 b2 x.vals.length)).setCell ⟨w.heap.size, 7, none⟩ (hd1 b3 x.kids.length)) w.heap.size (nodeA h' x) 27 := by
      subst hh
      simpa [nodeA] using ((N4.set 5 (hd1 b1 x.keys.length)).set 6 (hd1 b2 x.vals.length)).set 7 (hd1 b3 x.kids.length)
    have far : ∀ {b : Nat} {cs : Array Value} {T : TypeId}, Blk w4 b cs T → b ≠ w.heap.size → Blk (((w4.setCell ⟨w.heap.size, 5, none⟩ (hd1 b1 x.keys.length)).setCell ⟨w.heap.size, 6, none⟩ (hd1 b2 x.vals.length)).setCell ⟨w.heap.size, 7, none⟩ (hd1 b3 x.kids.length)) b cs T := fun B hn =>
      ((B.far ⟨w.heap.size, 5, none⟩ _ hn).far ⟨w.heap.size, 6, none⟩ _ hn).far ⟨w.heap.size, 7, none⟩ _ hn
    have RF := far R4 (by omega)
    have KF := far K4 (by omega)
    have VF := far V4 (by omega)
    have DF := far D4 (by omega)
    have hbF := ((hB4.setCell (p := ⟨w.heap.size, 5, none⟩) (Nat.le_refl _) (hd1 b1 x.keys.length)).setCell (p := ⟨w.heap.size, 6, none⟩) (Nat.le_refl _) (hd1 b2 x.vals.length)).setCell (p := ⟨w.heap.size, 7, none⟩) (Nat.le_refl _) (hd1 b3 x.kids.length)
    go_wp2_with (first
      | (refine wpList_load_row rfl 27 _ rfl w.heap.size rfl 27 _ (0, 0) _ BF.h Try.underlying27 rfl (by kernel_rfl) ?_)
      | (refine wpList_store_row rfl 27 _ _ rfl (w.heap.size + 1) _ rfl rfl 27 _ RF.h (by kernel_rfl) (by rfl) (by kernel_rfl) ?_))
    refine bodyPost_ret (results_cell_row rfl _ _ (w.heap.size + 1) 27 (nodeA h' x) (0, 0) _ rfl (Blk.row RF (nodeA h' x)).h Try.underlying27 rfl (by kernel_rfl)) rfl ⟨⟨h', rfl, ?_⟩, below_setRow hbF (by omega) _⟩
    have hm : (maxLen : Nat) = 9223372036854775807 := by unfold maxLen; rfl
    have FR := Fr.row (S := [w.heap.size + 1]) (w := (((w4.setCell ⟨w.heap.size, 5, none⟩ (hd1 b1 x.keys.length)).setCell ⟨w.heap.size, 6, none⟩ (hd1 b2 x.vals.length)).setCell ⟨w.heap.size, 7, none⟩ (hd1 b3 x.kids.length))) (w.heap.size + 1) (nodeA h' x) (by simp)
    have K5 := FR.blk KF (by simp; omega)
    have V5 := FR.blk VF (by simp; omega)
    have D5 := FR.blk DF (by simp; omega)
    subst hh
    exact ⟨H.level, H.low, H.high, H.next, row1 Value.string flat_str K5 H.keys.all (by simp; omega) (by omega), row1 (Value.int .u64) flat_u64 V5 H.vals.all (by simp; omega) (by omega), row1 (Value.int .i64) flat_i64 D5 H.kids.all (by simp; omega) (by omega)⟩
end Go.Proofs.Ytpempcefgfmniaa.Dp

/-
  slices.Clone of steps, words and pairs: contracts.
-/
namespace Go.Proofs.Ytpempcefgfmniaa.Dp
open Go.RowKit RefP MemP
set_option linter.unusedVariables false
set_option linter.unusedSimpArgs false
theorem infoPair : (Try.prog.info? 64).map (fun i => (i.zero, i.size, i.bytes)) = some (some (.agg #[.string ⟨#[]⟩, .int .u64 0]), 2, 24) := by kernel_rfl
theorem infoStep : (Try.prog.info? 94).map (fun i => (i.zero, i.size, i.bytes)) = some (some (.agg #[.int .i64 0, .int .u64 0, .int .u64 0, .int .u64 0, .bool false]), 5, 40) := by kernel_rfl
/-- what a copy of a row is -/
structure Copied {α : Type} (C : Cod α) (w w' : World) (e : Ending) (xs : List α) : Prop where
  ret : ∃ h' : Hd, e = .returned (.slice h'.a xs.length h'.c) ∧ HRow C w' (List.range w.heap.size) h' xs
  below : Below w.heap.size w w'
set_option maxRecDepth 100000 in
set_option maxHeartbeats 1600000 in
theorem clPair_any (S : List Nat) (h : Hd) (xs : List (PairV)) (w : World) (H : HRow pairT w S h xs) (hl : xs.length ≤ 1000) :
    Calls Try.prog 75 #[.slice h.a xs.length h.c] w (fun e w' => Copied pairT w w' e xs) := by
  have hnil : ∀ (w : World) (a : Option Addr) (n c : Nat), (binOp .eql 28 (.slice a n c) (.slice none 0 0)).run Try.prog w = .ok (.bool a.isNone) w := fun w a n c => Lib.run_eql_slice_nil w _ _ a n c 0 0 Try.underlying28
  cases ha : h.a with
  | none =>
    have hx : xs = [] := by
      cases xs with
      | nil => rfl
      | cons x l =>
        obtain ⟨b, off, e, _⟩ := H.row (by simp)
        rw [ha] at e; cases e
    subst hx
    have h0 := hnil w none 0 h.c
    go_enter Try.func75, Try.ntmps75
    go_wp2_with fail
    go_ret
    exact ⟨⟨Hd.nil, rfl, HRow.nil _ _ _⟩, Below.refl _ _⟩
  | some ad =>
    have h0 := fun w => hnil w (some ad) xs.length h.c
    have hm : (maxLen : Nat) = 9223372036854775807 := by unfold maxLen; rfl
    have hb1 : Below w.heap.size w (w.alloc (.cells #[] 64)) := (Below.refl _ w).alloc (Nat.le_refl _) _
    have O := OwnR.empty 2 (flatF pairL) ⟨⟨#[]⟩, 0⟩ w w.heap.size 64 (Nat.le_refl _)
    have R := (flat_pair).recs ⟨⟨#[]⟩, 0⟩ (H.keep (Keeps.of_below hb1))
    rw [ha] at R
    obtain ⟨i0, hi, hz0, hz1, hz2⟩ := info_parts' infoPair
    have A : ∃ g cap w', AddedR Try.prog 2 (flatF pairL) ⟨⟨#[]⟩, 0⟩ (w.alloc (.cells #[] 64)) w.heap.size 28 64 (some ⟨w.heap.size, 0, none⟩) 0 [] (.slice (some ad) xs.length h.c) xs.length xs g cap w' := by
      by_cases hx : 0 < xs.length
      · exact addRecs (c' := h.c) w.heap.size 28 64 i0 _ 24 Try.underlying28 hi hz0 hz1 hz2 (by simp [Value.cells]) (by decide) (flat_pair).oneF O R hx (by simp; omega) (by simp; omega) (by simp)
      · obtain rfl : xs = [] := List.eq_nil_of_length_eq_zero (by omega)
        exact ⟨_, _, _, addRecs_zero w.heap.size w.heap.size 28 64 i0 Try.underlying28 hi O (some ad) h.c⟩
    obtain ⟨g, cap, wa, A⟩ := A
    have hrun := fun ty => A.run ty
    simp only [List.length_nil, Nat.zero_add] at hrun
    replace hrun := Lib.hid hrun
    go_enter Try.func75, Try.ntmps75
    go_wp2_with (at_builtin; refine wpList_append_run hrun.out rfl (by rfl) (by rfl) (by rfl) ?_)
    go_ret
    have hb2 : Below w.heap.size w wa := A.keeps (fun k e => (O.lt k e).1) w w.heap.size (Nat.le_refl _) hb1 (by simp)
    have hcap : xs.length ≤ cap ∧ cap ≤ maxLen := by
      rcases A.own.own.2 with ⟨q, _⟩ | ⟨g', cap', cur, q, _, _, h1, h2, _⟩
      · cases q
      · injection q with _ _ q3
        subst q3
        exact ⟨h1, h2⟩
    refine ⟨⟨⟨some ⟨g, 0, none⟩, cap⟩, rfl, (flat_pair).back A.own.read H.all (fun b off e => ?_) hcap.1 hcap.2⟩, hb2⟩
    injection e with e
    injection e with e1
    subst e1
    have := A.ge
    simp
    omega
set_option maxRecDepth 100000 in
set_option maxHeartbeats 1600000 in
theorem clU64_any (S : List Nat) (h : Hd) (xs : List (Int)) (w : World) (H : HRow u64C w S h xs) (hl : xs.length ≤ 1000) :
    Calls Try.prog 74 #[.slice h.a xs.length h.c] w (fun e w' => Copied u64C w w' e xs) := by
  have hnil : ∀ (w : World) (a : Option Addr) (n c : Nat), (binOp .eql 24 (.slice a n c) (.slice none 0 0)).run Try.prog w = .ok (.bool a.isNone) w := fun w a n c => Lib.run_eql_slice_nil w _ _ a n c 0 0 Try.underlying24
  cases ha : h.a with
  | none =>
    have hx : xs = [] := by
      cases xs with
      | nil => rfl
      | cons x l =>
        obtain ⟨b, off, e, _⟩ := H.row (by simp)
        rw [ha] at e; cases e
    subst hx
    have h0 := hnil w none 0 h.c
    go_enter Try.func74, Try.ntmps74
    go_wp2_with fail
    go_ret
    exact ⟨⟨Hd.nil, rfl, HRow.nil _ _ _⟩, Below.refl _ _⟩
  | some ad =>
    have h0 := fun w => hnil w (some ad) xs.length h.c
    have hm : (maxLen : Nat) = 9223372036854775807 := by unfold maxLen; rfl
    have hb1 : Below w.heap.size w (w.alloc (.cells #[] 22)) := (Below.refl _ w).alloc (Nat.le_refl _) _
    have O := OwnR.empty 1 (flatF (fun n => [.int .u64 n])) 0 w w.heap.size 22 (Nat.le_refl _)
    have R := (flat_u64).recs 0 (H.keep (Keeps.of_below hb1))
    rw [ha] at R
    obtain ⟨i0, hi, hz0, hz1, hz2⟩ := info_parts' infoU
    have A : ∃ g cap w', AddedR Try.prog 1 (flatF (fun n => [.int .u64 n])) 0 (w.alloc (.cells #[] 22)) w.heap.size 24 22 (some ⟨w.heap.size, 0, none⟩) 0 [] (.slice (some ad) xs.length h.c) xs.length xs g cap w' := by
      by_cases hx : 0 < xs.length
      · exact addRecs (c' := h.c) w.heap.size 24 22 i0 _ 8 Try.underlying24 hi hz0 hz1 hz2 (by simp [Value.cells]) (by decide) (flat_u64).oneF O R hx (by simp; omega) (by simp; omega) (by simp)
      · obtain rfl : xs = [] := List.eq_nil_of_length_eq_zero (by omega)
        exact ⟨_, _, _, addRecs_zero w.heap.size w.heap.size 24 22 i0 Try.underlying24 hi O (some ad) h.c⟩
    obtain ⟨g, cap, wa, A⟩ := A
    have hrun := fun ty => A.run ty
    simp only [List.length_nil, Nat.zero_add] at hrun
    replace hrun := Lib.hid hrun
    go_enter Try.func74, Try.ntmps74
    go_wp2_with (at_builtin; refine wpList_append_run hrun.out rfl (by rfl) (by rfl) (by rfl) ?_)
    go_ret
    have hb2 : Below w.heap.size w wa := A.keeps (fun k e => (O.lt k e).1) w w.heap.size (Nat.le_refl _) hb1 (by simp)
    have hcap : xs.length ≤ cap ∧ cap ≤ maxLen := by
      rcases A.own.own.2 with ⟨q, _⟩ | ⟨g', cap', cur, q, _, _, h1, h2, _⟩
      · cases q
      · injection q with _ _ q3
        subst q3
        exact ⟨h1, h2⟩
    refine ⟨⟨⟨some ⟨g, 0, none⟩, cap⟩, rfl, (flat_u64).back A.own.read H.all (fun b off e => ?_) hcap.1 hcap.2⟩, hb2⟩
    injection e with e
    injection e with e1
    subst e1
    have := A.ge
    simp
    omega
set_option maxRecDepth 100000 in
set_option maxHeartbeats 1600000 in
theorem clStep_any (S : List Nat) (h : Hd) (xs : List (StepV)) (w : World) (H : HRow stepT w S h xs) (hl : xs.length ≤ 1000) :
    Calls Try.prog 73 #[.slice h.a xs.length h.c] w (fun e w' => Copied stepT w w' e xs) := by
  have hnil : ∀ (w : World) (a : Option Addr) (n c : Nat), (binOp .eql 31 (.slice a n c) (.slice none 0 0)).run Try.prog w = .ok (.bool a.isNone) w := fun w a n c => Lib.run_eql_slice_nil w _ _ a n c 0 0 Try.underlying31
  cases ha : h.a with
  | none =>
    have hx : xs = [] := by
      cases xs with
      | nil => rfl
      | cons x l =>
        obtain ⟨b, off, e, _⟩ := H.row (by simp)
        rw [ha] at e; cases e
    subst hx
    have h0 := hnil w none 0 h.c
    go_enter Try.func73, Try.ntmps73
    go_wp2_with fail
    go_ret
    exact ⟨⟨Hd.nil, rfl, HRow.nil _ _ _⟩, Below.refl _ _⟩
  | some ad =>
    have h0 := fun w => hnil w (some ad) xs.length h.c
    have hm : (maxLen : Nat) = 9223372036854775807 := by unfold maxLen; rfl
    have hb1 : Below w.heap.size w (w.alloc (.cells #[] 94)) := (Below.refl _ w).alloc (Nat.le_refl _) _
    have O := OwnR.empty 5 (flatF stepL) ⟨0, 0, 0, 0, false⟩ w w.heap.size 94 (Nat.le_refl _)
    have R := (flat_step).recs ⟨0, 0, 0, 0, false⟩ (H.keep (Keeps.of_below hb1))
    rw [ha] at R
    obtain ⟨i0, hi, hz0, hz1, hz2⟩ := info_parts' infoStep
    have A : ∃ g cap w', AddedR Try.prog 5 (flatF stepL) ⟨0, 0, 0, 0, false⟩ (w.alloc (.cells #[] 94)) w.heap.size 31 94 (some ⟨w.heap.size, 0, none⟩) 0 [] (.slice (some ad) xs.length h.c) xs.length xs g cap w' := by
      by_cases hx : 0 < xs.length
      · exact addRecs (c' := h.c) w.heap.size 31 94 i0 _ 40 Try.underlying31 hi hz0 hz1 hz2 (by simp [Value.cells]) (by decide) (flat_step).oneF O R hx (by simp; omega) (by simp; omega) (by simp)
      · obtain rfl : xs = [] := List.eq_nil_of_length_eq_zero (by omega)
        exact ⟨_, _, _, addRecs_zero w.heap.size w.heap.size 31 94 i0 Try.underlying31 hi O (some ad) h.c⟩
    obtain ⟨g, cap, wa, A⟩ := A
    have hrun := fun ty => A.run ty
    simp only [List.length_nil, Nat.zero_add] at hrun
    replace hrun := Lib.hid hrun
    go_enter Try.func73, Try.ntmps73
    go_wp2_with (at_builtin; refine wpList_append_run hrun.out rfl (by rfl) (by rfl) (by rfl) ?_)
    go_ret
    have hb2 : Below w.heap.size w wa := A.keeps (fun k e => (O.lt k e).1) w w.heap.size (Nat.le_refl _) hb1 (by simp)
    have hcap : xs.length ≤ cap ∧ cap ≤ maxLen := by
      rcases A.own.own.2 with ⟨q, _⟩ | ⟨g', cap', cur, q, _, _, h1, h2, _⟩
      · cases q
      · injection q with _ _ q3
        subst q3
        exact ⟨h1, h2⟩
    refine ⟨⟨⟨some ⟨g, 0, none⟩, cap⟩, rfl, (flat_step).back A.own.read H.all (fun b off e => ?_) hcap.1 hcap.2⟩, hb2⟩
    injection e with e
    injection e with e1
    subst e1
    have := A.ge
    simp
    omega
end Go.Proofs.Ytpempcefgfmniaa.Dp

/-
  The program's Sames of nodes, plans and blocks: contracts.
-/
namespace Go.Proofs.Ytpempcefgfmniaa.Dp
open Go.RowKit RefP Go.Sort
set_option linter.unusedVariables false
set_option linter.unusedSimpArgs false
abbrev shapeA (x : NodeV) : Array Value := #[.int .i64 x.level, .int .i64 x.next, .string x.low, .string x.high, .bool x.last]
theorem shaped_any (h : NodeH) (x : NodeV) (w : World) : Calls Try.prog 82 #[.agg (nodeA h x)] w fun e w' => e = .returned (.agg (shapeA x)) ∧ Below w.heap.size w w' := by
  go_enter Try.func82, Try.ntmps82
  go_wp2_with fail
  have BR : Blk ((w.alloc (.cells (nodeA h x) 27)).alloc (.cells (shapeA x) 136)) (w.heap.size + 1) (shapeA x) 136 := by
    have := Blk.new (w.alloc (.cells (nodeA h x) 27)) (shapeA x) 136
    simpa using this
  refine bodyPost_ret (results_cell_row rfl _ _ (w.heap.size + 1) 136 (shapeA x) (0, 0) _ rfl BR.h Try.underlying136 rfl (by kernel_rfl)) rfl ⟨rfl, by (repeat (first | exact Below.refl _ _ | assumption | refine below_alloc2 ?_ (by first | exact Nat.le_refl _ | omega) _ | refine Below.drew ?_ | refine below_drewN ?_ _ | refine below_push2 ?_ ‹_› (by first | exact Nat.le_refl _ | omega) | refine Below.setCell ?_ (by first | (simp; done) | (simp; omega) | omega) _))⟩
theorem below_at {N : Nat} {w w' : World} (h : Below w.heap.size w w') (hN : N ≤ w.heap.size) : Below N w w' := ⟨h.os, h.tape, h.output, h.size, fun k hk => h.block k (Nat.lt_of_lt_of_le hk hN)⟩
def shB (x y : NodeV) : Bool := decide (x.level = y.level ∧ x.next = y.next ∧ x.low = y.low ∧ x.high = y.high ∧ x.last = y.last)
theorem eqlShape (w : World) (x y : NodeV) : (binOp .eql 136 (.agg (shapeA x)) (.agg (shapeA y))).run Try.prog w = .ok (.bool (shB x y)) w := by
  rw [run_eql_struct]
  obtain ⟨a1, a3, a4, a5, a2, ak, av, ad⟩ := x
  obtain ⟨b1, b3, b4, b5, b2, bk, bv, bd⟩ := y
  by_cases h1 : a1 = b1
  · by_cases h2 : a2 = b2
    · by_cases h3 : a3 = b3
      · by_cases h4 : a4 = b4
        · by_cases h5 : a5 = b5
          · subst h1; subst h2; subst h3; subst h4; subst h5
            go_simp
            all_goals simp [shB]
          · have : (a5 == b5) = false := by simpa using h5
            subst h1; subst h2; subst h3; subst h4
            go_simp
            all_goals simp [shB, h5]
        · have : (a4.toList == b4.toList) = false := (Lib.bytes_beq_false_iff _ _).2 h4
          subst h1; subst h2; subst h3
          go_simp
          all_goals simp [shB, h4]
      · have : (a3.toList == b3.toList) = false := (Lib.bytes_beq_false_iff _ _).2 h3
        subst h1; subst h2
        go_simp
        all_goals simp [shB, h3]
    · have : (a2 == b2) = false := by simpa using h2
      subst h1
      go_simp
      all_goals simp [shB, h2]
  · have : (a1 == b1) = false := by simpa using h1
    go_simp
    all_goals simp [shB, h1]
set_option maxRecDepth 100000 in
set_option maxHeartbeats 3200000 in
theorem nsame_any (S S' : List Nat) (h h' : NodeH) (x y : NodeV) (w : World) (H : NodeOk w S h x) (H' : NodeOk w S' h' y) :
    Calls Try.prog 56 #[.agg (nodeA h x), .agg (nodeA h' y)] w fun e w' => e = .returned (.bool (decide (x = y))) ∧ Below w.heap.size w w' := by
  have hB : Below w.heap.size w ((w.alloc (.cells (nodeA h x) 27)).alloc (.cells (nodeA h' y) 27)) := by (repeat (first | exact Below.refl _ _ | assumption | refine below_alloc2 ?_ (by first | exact Nat.le_refl _ | omega) _ | refine Below.drew ?_ | refine below_drewN ?_ _ | refine below_push2 ?_ ‹_› (by first | exact Nat.le_refl _ | omega) | refine Below.setCell ?_ (by first | (simp; done) | (simp; omega) | omega) _))
  have BX := (Blk.new w (nodeA h x) 27).alloc (.cells (nodeA h' y) 27)
  have BY : Blk ((w.alloc (.cells (nodeA h x) 27)).alloc (.cells (nodeA h' y) 27)) (w.heap.size + 1) (nodeA h' y) 27 := by
    have := Blk.new (w.alloc (.cells (nodeA h x) 27)) (nodeA h' y) 27
    simpa using this
  generalize hW : (w.alloc (.cells (nodeA h x) 27)).alloc (.cells (nodeA h' y) 27) = w1 at hB BX BY
  replace hW := Lib.hid hW
  have x0 := fun d os => cell_regrown (BX.at 0 rfl) d os
  have x1 := fun d os => cell_regrown (BX.at 1 rfl) d os
  have x2 := fun d os => cell_regrown (BX.at 2 rfl) d os
  have x3 := fun d os => cell_regrown (BX.at 3 rfl) d os
  have x4 := fun d os => cell_regrown (BX.at 4 rfl) d os
  have x5 := fun d os => cell_regrown (BX.at 5 rfl) d os
  have x6 := fun d os => cell_regrown (BX.at 6 rfl) d os
  have x7 := fun d os => cell_regrown (BX.at 7 rfl) d os
  have y0 := fun d os => cell_regrown (BY.at 0 rfl) d os
  have y1 := fun d os => cell_regrown (BY.at 1 rfl) d os
  have y2 := fun d os => cell_regrown (BY.at 2 rfl) d os
  have y3 := fun d os => cell_regrown (BY.at 3 rfl) d os
  have y4 := fun d os => cell_regrown (BY.at 4 rfl) d os
  have y5 := fun d os => cell_regrown (BY.at 5 rfl) d os
  have y6 := fun d os => cell_regrown (BY.at 6 rfl) d os
  have y7 := fun d os => cell_regrown (BY.at 7 rfl) d os
  have hq := fun w => eqlShape w x y
  have k1 := fun d os => Calls.regrown_of (shaped_any h x (grow (redrawn w1 d) os))
  have k2 := fun d os => Calls.regrown_of (shaped_any h' y (grow (redrawn w1 d) os))
  have k3 := fun d os => Calls.regrown_of (eqStr_any S S' h.keys h'.keys x.keys y.keys (grow (redrawn w1 d) os) (H.keys.keep (Keeps.of_below (hB.trans (below_at (below_regrown w1 d os) hB.size)))) (H'.keys.keep (Keeps.of_below (hB.trans (below_at (below_regrown w1 d os) hB.size)))))
  have k4 := fun d os => Calls.regrown_of (eqU64_any S S' h.vals h'.vals x.vals y.vals (grow (redrawn w1 d) os) (H.vals.keep (Keeps.of_below (hB.trans (below_at (below_regrown w1 d os) hB.size)))) (H'.vals.keep (Keeps.of_below (hB.trans (below_at (below_regrown w1 d os) hB.size)))))
  have k5 := fun d os => Calls.regrown_of (eqI64_any S S' h.kids h'.kids x.kids y.kids (grow (redrawn w1 d) os) (H.kids.keep (Keeps.of_below (hB.trans (below_at (below_regrown w1 d os) hB.size)))) (H'.kids.keep (Keeps.of_below (hB.trans (below_at (below_regrown w1 d os) hB.size)))))
  have hE : Hid (decide (x = y) = (shB x y && (decide (x.keys = y.keys) && (decide (x.vals = y.vals) && decide (x.kids = y.kids))))) := Lib.hid (by
    obtain ⟨a1, a3, a4, a5, a2, ak, av, ad⟩ := x
    obtain ⟨b1, b3, b4, b5, b2, bk, bv, bd⟩ := y
    simp only [shB, NodeV.mk.injEq, ← Bool.decide_and]
    exact decide_eq_decide.2 (by constructor <;> (rintro h; simp_all)))
  generalize shB x y = t1 at hq hE
  generalize decide (x.keys = y.keys) = t2 at k3 hE
  generalize decide (x.vals = y.vals) = t3 at k4 hE
  generalize decide (x.kids = y.kids) = t4 at k5 hE
  clear H H' BX BY
  go_enter Try.func56, Try.ntmps56
  go_upto_region 1 with (fail)
  rw [hW.out]
  clear hW
  cases t1
  · refine wp_region_quiet_below (by kernel_rfl) (by kernel_rfl) ?_
    repeat (go_big_quiet_step (first | with_reducible exact k1 _ _ | with_reducible exact k2 _ _ | with_reducible exact k3 _ _ | with_reducible exact k4 _ _ | with_reducible exact k5 _ _))
    refine wpQuiet_nil ?_
    intro w2 hw'
    have hb2 := RefP.below_of_regrown hw'
    clear hw'
    go_wp2_with fail
    go_ret
    refine ⟨?_, below_push2 hB hb2 (Nat.le_refl _)⟩
    rw [hE.out]
    simp
  cases t2
  · refine wp_region_quiet_below (by kernel_rfl) (by kernel_rfl) ?_
    repeat (go_big_quiet_step (first | with_reducible exact k1 _ _ | with_reducible exact k2 _ _ | with_reducible exact k3 _ _ | with_reducible exact k4 _ _ | with_reducible exact k5 _ _))
    refine wpQuiet_nil ?_
    intro w2 hw'
    have hb2 := RefP.below_of_regrown hw'
    clear hw'
    go_wp2_with fail
    go_ret
    refine ⟨?_, below_push2 hB hb2 (Nat.le_refl _)⟩
    rw [hE.out]
    simp
  cases t3
  · refine wp_region_quiet_below (by kernel_rfl) (by kernel_rfl) ?_
    repeat (go_big_quiet_step (first | with_reducible exact k1 _ _ | with_reducible exact k2 _ _ | with_reducible exact k3 _ _ | with_reducible exact k4 _ _ | with_reducible exact k5 _ _))
    refine wpQuiet_nil ?_
    intro w2 hw'
    have hb2 := RefP.below_of_regrown hw'
    clear hw'
    go_wp2_with fail
    go_ret
    refine ⟨?_, below_push2 hB hb2 (Nat.le_refl _)⟩
    rw [hE.out]
    simp
  refine wp_region_quiet_below (by kernel_rfl) (by kernel_rfl) ?_
  repeat (go_big_quiet_step (first | with_reducible exact k1 _ _ | with_reducible exact k2 _ _ | with_reducible exact k3 _ _ | with_reducible exact k4 _ _ | with_reducible exact k5 _ _))
  refine wpQuiet_nil ?_
  intro w2 hw'
  have hb2 := RefP.below_of_regrown hw'
  clear hw'
  go_wp2_with fail
  go_ret
  refine ⟨?_, below_push2 hB hb2 (Nat.le_refl _)⟩
  rw [hE.out]
  simp
end Go.Proofs.Ytpempcefgfmniaa.Dp

/-
  The program's Sames of plans and blocks: contracts.
-/
namespace Go.Proofs.Ytpempcefgfmniaa.Dp
open Go.RowKit RefP Go.Sort
set_option linter.unusedVariables false
set_option linter.unusedSimpArgs false
abbrev planA (h : PlanH) (x : PlanV) : Array Value := #[.int .i64 x.thread, .int .i64 x.ans.code, .string x.ans.key, .int .u64 x.ans.val, .slice h.pairs.a x.ans.pairs.length h.pairs.c, .slice h.steps.a x.steps.length h.steps.c, .slice h.extra.a x.extra.length h.extra.c]
set_option maxRecDepth 100000 in
set_option maxHeartbeats 3200000 in
theorem splan_any (S S' : List Nat) (h h' : PlanH) (x y : PlanV) (w : World) (H : PlanOk w S h x) (H' : PlanOk w S' h' y) :
    Calls Try.prog 57 #[.agg (planA h x), .agg (planA h' y)] w fun e w' => e = .returned (.bool (decide (x = y))) ∧ Below w.heap.size w w' := by
  have hB : Below w.heap.size w ((w.alloc (.cells (planA h x) 33)).alloc (.cells (planA h' y) 33)) := by (repeat (first | exact Below.refl _ _ | assumption | refine below_alloc2 ?_ (by first | exact Nat.le_refl _ | omega) _ | refine Below.drew ?_ | refine below_drewN ?_ _ | refine below_push2 ?_ ‹_› (by first | exact Nat.le_refl _ | omega) | refine Below.setCell ?_ (by first | (simp; done) | (simp; omega) | omega) _))
  have BX := (Blk.new w (planA h x) 33).alloc (.cells (planA h' y) 33)
  have BY : Blk ((w.alloc (.cells (planA h x) 33)).alloc (.cells (planA h' y) 33)) (w.heap.size + 1) (planA h' y) 33 := by
    have := Blk.new (w.alloc (.cells (planA h x) 33)) (planA h' y) 33
    simpa using this
  generalize hW : (w.alloc (.cells (planA h x) 33)).alloc (.cells (planA h' y) 33) = w1 at hB BX BY
  replace hW := Lib.hid hW
  have x0 := BX.at 0 rfl
  have x1 := BX.at 1 rfl
  have x2 := BX.at 2 rfl
  have x3 := BX.at 3 rfl
  have x4 := BX.at 4 rfl
  have x5 := BX.at 5 rfl
  have x6 := BX.at 6 rfl
  have y0 := BY.at 0 rfl
  have y1 := BY.at 1 rfl
  have y2 := BY.at 2 rfl
  have y3 := BY.at 3 rfl
  have y4 := BY.at 4 rfl
  have y5 := BY.at 5 rfl
  have y6 := BY.at 6 rfl
  go_enter Try.func57, Try.ntmps57
  go_upto_region 1 with (fail)
  rw [hW.out]
  have hs := hB.size
  have hl1 := BX.lt
  have hl2 := BY.lt
  have two : ∀ A B : Obj, Below w.heap.size w ((w1.alloc A).alloc B).drew ∧ Blk ((w1.alloc A).alloc B).drew w.heap.size (planA h x) 33 ∧ Blk ((w1.alloc A).alloc B).drew (w.heap.size + 1) (planA h' y) 33 := fun A B =>
    ⟨((hB.alloc (by omega) A).alloc (by simp; omega) B).drew, ((BX.alloc A).alloc B).drew, ((BY.alloc A).alloc B).drew⟩
  have fst : ∀ (c : Array Value) (B : Obj), Blk ((w1.alloc (.cells c 30)).alloc B).drew w1.heap.size c 30 := fun c B => ((Blk.new w1 c _).alloc B).drew
  have snd : ∀ (A : Obj) (c : Array Value), Blk ((w1.alloc A).alloc (.cells c 30)).drew (w1.heap.size + 1) c 30 := fun A c => by
    have := (Blk.new (w1.alloc A) c 30).drew
    rwa [World.size_alloc] at this
  replace hW := Lib.hid hW
  go_cut [5, 6] (fun u5 u6 wx => ∃ b1 b2, u5 = .pointer (some ⟨b1, 0, none⟩) ∧ u6 = .pointer (some ⟨b2, 0, none⟩) ∧ (Below w.heap.size w wx ∧ Blk wx w.heap.size (planA h x) 33 ∧ Blk wx (w.heap.size + 1) (planA h' y) 33) ∧ Blk wx b1 (ansA h.pairs x.ans) 30 ∧ Blk wx b2 (ansA h'.pairs y.ans) 30)
  case first =>
    go_region_with (fail)
    all_goals
      go_wp2_with fail
      go_meet
      first
        | exact ⟨_, _, rfl, rfl, two _ _, fst _ _, snd _ _⟩
        | exact ⟨_, _, rfl, rfl, two _ _, snd _ _, fst _ _⟩
  case rest =>
    obtain ⟨b1, b2, rfl, rfl, ⟨hB, BX, BY⟩, B1, B2⟩ := hcut
    clear x0 x1 x2 x3 x4 x5 x6 y0 y1 y2 y3 y4 y5 y6
    have x0 := BX.at 0 rfl
    have x5 := BX.at 5 rfl
    have x6 := BX.at 6 rfl
    have y0 := BY.at 0 rfl
    have y5 := BY.at 5 rfl
    have y6 := BY.at 6 rfl
    have a0 := B1.at 0 rfl
    have a1 := B1.at 1 rfl
    have a2 := B1.at 2 rfl
    have a3 := B1.at 3 rfl
    have c0 := B2.at 0 rfl
    have c1 := B2.at 1 rfl
    have c2 := B2.at 2 rfl
    have c3 := B2.at 3 rfl
    have hE : Hid (decide (x = y) = (decide (x.thread = y.thread) && (decide (x.ans.code = y.ans.code) && (decide (x.ans.key = y.ans.key) && (decide (x.ans.val = y.ans.val) && (decide (x.ans.pairs = y.ans.pairs) && (decide (x.steps = y.steps) && decide (x.extra = y.extra)))))))) := Lib.hid (by
      obtain ⟨a1, ⟨a2, a3, a4, a5⟩, a6, a7⟩ := x
      obtain ⟨b1, ⟨b2, b3, b4, b5⟩, b6, b7⟩ := y
      simp only [PlanV.mk.injEq, AnsV.mk.injEq, ← Bool.decide_and]
      exact decide_eq_decide.2 (by constructor <;> (rintro h; simp_all)))
    have q0 : (x.thread == y.thread) = decide (x.thread = y.thread) := rfl
    have q1 : (x.ans.code == y.ans.code) = decide (x.ans.code = y.ans.code) := rfl
    have q2 : (x.ans.key.toList == y.ans.key.toList) = decide (x.ans.key = y.ans.key) := by
      rw [Bool.eq_iff_iff, Lib.bytes_beq_iff, decide_eq_true_iff]
    have q3 : (x.ans.val == y.ans.val) = decide (x.ans.val = y.ans.val) := rfl
    generalize decide (x.thread = y.thread) = t0 at q0 hE
    generalize decide (x.ans.code = y.ans.code) = t1 at q1 hE
    generalize decide (x.ans.key = y.ans.key) = t2 at q2 hE
    generalize decide (x.ans.val = y.ans.val) = t3 at q3 hE
    clear two fst snd B1 B2
    cases t0
    · go_wp2_with fail
      go_ret
      refine ⟨?_, hB⟩
      rw [hE.out]
      simp
    cases t1
    · go_wp2_with fail
      go_ret
      refine ⟨?_, hB⟩
      rw [hE.out]
      simp
    cases t2
    · go_wp2_with fail
      go_ret
      refine ⟨?_, hB⟩
      rw [hE.out]
      simp
    cases t3
    · go_wp2_with fail
      go_ret
      refine ⟨?_, hB⟩
      rw [hE.out]
      simp
    go_wp2_with fail
    refine (eqPair_any S S' h.pairs h'.pairs x.ans.pairs y.ans.pairs wc (H.ans.pairs.keep (Keeps.of_below hB)) (H'.ans.pairs.keep (Keeps.of_below hB))).mono ?_
    rintro e w2 ⟨rfl, hb2⟩
    generalize decide (x.ans.pairs = y.ans.pairs) = t4 at hE
    replace hB := below_push2 hB hb2 (Nat.le_refl _)
    replace BX := BX.below hb2
    replace BY := BY.below hb2
    clear x0 x5 x6 y0 y5 y6 a0 a1 a2 a3 c0 c1 c2 c3 hb2
    have x5 := BX.at 5 rfl
    have x6 := BX.at 6 rfl
    have y5 := BY.at 5 rfl
    have y6 := BY.at 6 rfl
    cases t4
    · go_wp2_with fail
      go_ret
      refine ⟨?_, hB⟩
      rw [hE.out]
      simp
    go_wp2_with fail
    refine (eqStep_any S S' h.steps h'.steps x.steps y.steps w2 (H.steps.keep (Keeps.of_below hB)) (H'.steps.keep (Keeps.of_below hB))).mono ?_
    rintro e w3 ⟨rfl, hb2⟩
    generalize decide (x.steps = y.steps) = t5 at hE
    replace hB := below_push2 hB hb2 (Nat.le_refl _)
    replace BX := BX.below hb2
    replace BY := BY.below hb2
    clear x5 x6 y5 y6 hb2
    have x6 := BX.at 6 rfl
    have y6 := BY.at 6 rfl
    cases t5
    · go_wp2_with fail
      go_ret
      refine ⟨?_, hB⟩
      rw [hE.out]
      simp
    go_wp2_with fail
    refine (eqU64_any S S' h.extra h'.extra x.extra y.extra w3 (H.extra.keep (Keeps.of_below hB)) (H'.extra.keep (Keeps.of_below hB))).mono ?_
    rintro e w4 ⟨rfl, hb2⟩
    generalize decide (x.extra = y.extra) = t6 at hE
    replace hB := below_push2 hB hb2 (Nat.le_refl _)
    go_wp2_with fail
    go_ret
    refine ⟨?_, hB⟩
    rw [hE.out]
    simp
end Go.Proofs.Ytpempcefgfmniaa.Dp

/-
  memory.Same: contract.
-/
namespace Go.Proofs.Ytpempcefgfmniaa.Dp
open Go.RowKit RefP Go.Sort
set_option linter.unusedVariables false
set_option linter.unusedSimpArgs false
theorem NodeOk.more {w : World} {S S' : List Nat} {h : NodeH} {x : NodeV} (H : NodeOk w S h x) (k : ∀ b ∈ S', b ∈ S ∨ w.heap.size ≤ b) : NodeOk w S' h x := ⟨H.level, H.low, H.high, H.next, H.keys.more k, H.vals.more k, H.kids.more k⟩
theorem PlanOk.more {w : World} {S S' : List Nat} {h : PlanH} {x : PlanV} (H : PlanOk w S h x) (k : ∀ b ∈ S', b ∈ S ∨ w.heap.size ≤ b) : PlanOk w S' h x := ⟨H.thread, ⟨H.ans.code, H.ans.key, H.ans.val, H.ans.pairs.more k⟩, H.steps.more k, H.extra.more k⟩
theorem BlockOk.more {w : World} {S S' : List Nat} {h : BlockH} {x : BlockV} (H : BlockOk w S h x) (k : ∀ b ∈ S', b ∈ S ∨ w.heap.size ≤ b) : BlockOk w S' h x := ⟨H.kind, H.node.more k, H.plan.more k, H.pairs.more k⟩
set_option maxRecDepth 100000 in
set_option maxHeartbeats 3200000 in
theorem msame_any (S S' : List Nat) (h h' : BlockH) (x y : BlockV) (w : World) (H : BlockOk w S h x) (H' : BlockOk w S' h' y) :
    Calls Try.prog 27 #[.agg (blockA h x), .agg (blockA h' y)] w fun e w' => e = .returned (.bool (decide (x = y))) ∧ Below w.heap.size w w' := by
  have hB : Below w.heap.size w ((w.alloc (.cells (blockA h x) 35)).alloc (.cells (blockA h' y) 35)) := by (repeat (first | exact Below.refl _ _ | assumption | refine below_alloc2 ?_ (by first | exact Nat.le_refl _ | omega) _ | refine Below.drew ?_ | refine below_drewN ?_ _ | refine below_push2 ?_ ‹_› (by first | exact Nat.le_refl _ | omega) | refine Below.setCell ?_ (by first | (simp; done) | (simp; omega) | omega) _))
  have BX := (Blk.new w (blockA h x) 35).alloc (.cells (blockA h' y) 35)
  have BY : Blk ((w.alloc (.cells (blockA h x) 35)).alloc (.cells (blockA h' y) 35)) (w.heap.size + 1) (blockA h' y) 35 := by
    have := Blk.new (w.alloc (.cells (blockA h x) 35)) (blockA h' y) 35
    simpa using this
  generalize hW : (w.alloc (.cells (blockA h x) 35)).alloc (.cells (blockA h' y) 35) = w1 at hB BX BY
  replace hW := Lib.hid hW
  have x0 := BX.at 0 rfl
  have y0 := BY.at 0 rfl
  have x1 := BX.at 1 rfl
  have x2 := BX.at 2 rfl
  have x3 := BX.at 3 rfl
  have x4 := BX.at 4 rfl
  have x5 := BX.at 5 rfl
  have x6 := BX.at 6 rfl
  have x7 := BX.at 7 rfl
  have x8 := BX.at 8 rfl
  have x9 := BX.at 9 rfl
  have x10 := BX.at 10 rfl
  have x11 := BX.at 11 rfl
  have x12 := BX.at 12 rfl
  have x13 := BX.at 13 rfl
  have x14 := BX.at 14 rfl
  have x15 := BX.at 15 rfl
  have x16 := BX.at 16 rfl
  have y1 := BY.at 1 rfl
  have y2 := BY.at 2 rfl
  have y3 := BY.at 3 rfl
  have y4 := BY.at 4 rfl
  have y5 := BY.at 5 rfl
  have y6 := BY.at 6 rfl
  have y7 := BY.at 7 rfl
  have y8 := BY.at 8 rfl
  have y9 := BY.at 9 rfl
  have y10 := BY.at 10 rfl
  have y11 := BY.at 11 rfl
  have y12 := BY.at 12 rfl
  have y13 := BY.at 13 rfl
  have y14 := BY.at 14 rfl
  have y15 := BY.at 15 rfl
  have y16 := BY.at 16 rfl
  have hE : Hid (decide (x = y) = (decide (x.kind = y.kind) && (decide (x.node = y.node) && (decide (x.plan = y.plan) && decide (x.pairs = y.pairs))))) := Lib.hid (by
    obtain ⟨a1, a2, a3, a4⟩ := x
    obtain ⟨b1, b2, b3, b4⟩ := y
    simp only [BlockV.mk.injEq, ← Bool.decide_and]
    )
  have q0 : (x.kind == y.kind) = decide (x.kind = y.kind) := rfl
  generalize decide (x.kind = y.kind) = t0 at q0 hE
  go_enter Try.func27, Try.ntmps27
  go_upto_region 1 with (fail)
  rw [hW.out]
  clear hW
  cases t0
  · go_wp2_with fail
    go_ret
    refine ⟨?_, hB⟩
    rw [hE.out]
    simp
  go_wp2_with fail
  refine (nsame_any S S' h.node h'.node x.node y.node w1 (H.node.keep (Keeps.of_below hB)) (H'.node.keep (Keeps.of_below hB))).mono ?_
  rintro e w2 ⟨rfl, hb2⟩
  generalize decide (x.node = y.node) = t1 at hE
  replace hB := below_push2 hB hb2 (Nat.le_refl _)
  replace BX := BX.below hb2
  replace BY := BY.below hb2
  clear x1 x2 x3 x4 x5 x6 x7 x8 x9 x10 x11 x12 x13 x14 x15 x16 y1 y2 y3 y4 y5 y6 y7 y8 y9 y10 y11 y12 y13 y14 y15 y16
  clear hb2 x0 y0 q0
  have x1 := BX.at 1 rfl
  have x2 := BX.at 2 rfl
  have x3 := BX.at 3 rfl
  have x4 := BX.at 4 rfl
  have x5 := BX.at 5 rfl
  have x6 := BX.at 6 rfl
  have x7 := BX.at 7 rfl
  have x8 := BX.at 8 rfl
  have x9 := BX.at 9 rfl
  have x10 := BX.at 10 rfl
  have x11 := BX.at 11 rfl
  have x12 := BX.at 12 rfl
  have x13 := BX.at 13 rfl
  have x14 := BX.at 14 rfl
  have x15 := BX.at 15 rfl
  have x16 := BX.at 16 rfl
  have y1 := BY.at 1 rfl
  have y2 := BY.at 2 rfl
  have y3 := BY.at 3 rfl
  have y4 := BY.at 4 rfl
  have y5 := BY.at 5 rfl
  have y6 := BY.at 6 rfl
  have y7 := BY.at 7 rfl
  have y8 := BY.at 8 rfl
  have y9 := BY.at 9 rfl
  have y10 := BY.at 10 rfl
  have y11 := BY.at 11 rfl
  have y12 := BY.at 12 rfl
  have y13 := BY.at 13 rfl
  have y14 := BY.at 14 rfl
  have y15 := BY.at 15 rfl
  have y16 := BY.at 16 rfl
  cases t1
  · go_wp2_with fail
    go_ret
    refine ⟨?_, hB⟩
    rw [hE.out]
    simp
  go_wp2_with fail
  refine (splan_any S S' h.plan h'.plan x.plan y.plan w2 (H.plan.keep (Keeps.of_below hB)) (H'.plan.keep (Keeps.of_below hB))).mono ?_
  rintro e w3 ⟨rfl, hb2⟩
  generalize decide (x.plan = y.plan) = t2 at hE
  replace hB := below_push2 hB hb2 (Nat.le_refl _)
  replace BX := BX.below hb2
  replace BY := BY.below hb2
  clear x1 x2 x3 x4 x5 x6 x7 x8 x9 x10 x11 x12 x13 x14 x15 x16 y1 y2 y3 y4 y5 y6 y7 y8 y9 y10 y11 y12 y13 y14 y15 y16
  clear hb2
  have x16 := BX.at 16 rfl
  have y16 := BY.at 16 rfl
  cases t2
  · go_wp2_with fail
    go_ret
    refine ⟨?_, hB⟩
    rw [hE.out]
    simp
  go_wp2_with fail
  refine (eqPair_any S S' h.pairs h'.pairs x.pairs y.pairs w3 (H.pairs.keep (Keeps.of_below hB)) (H'.pairs.keep (Keeps.of_below hB))).mono ?_
  rintro e w4 ⟨rfl, hb2⟩
  generalize decide (x.pairs = y.pairs) = t3 at hE
  replace hB := below_push2 hB hb2 (Nat.le_refl _)
  go_wp2_with fail
  go_ret
  refine ⟨?_, hB⟩
  rw [hE.out]
  simp
end Go.Proofs.Ytpempcefgfmniaa.Dp

/-
  memory's copied: contract.
-/
namespace Go.Proofs.Ytpempcefgfmniaa.Dp
open Go.RowKit RefP MemP
set_option linter.unusedVariables false
set_option linter.unusedSimpArgs false
/-- cells of a block behind a store of some -/
def sets' (cs : Array Value) : Nat → List Value → Array Value
  | _, [] => cs
  | o, v :: r => sets' (cs.setIfInBounds o v) (o + 1) r
theorem blk_sets' {b : Nat} {T : TypeId} : ∀ (vs : List Value) (o : Nat) (w : World) (cs : Array Value), Blk w b cs T → Blk (w.setCells b o vs) b (sets' cs o vs) T
  | [], _, _, _, h => h
  | v :: r, o, w, cs, h => blk_sets' r (o + 1) _ _ (h.set o v)
theorem fr_sets' {S : List Nat} {b : Nat} (hb : b ∈ S) : ∀ (vs : List Value) (o : Nat) (w : World), Fr S w (w.setCells b o vs)
  | [], _, _ => Fr.refl _ _
  | v :: r, o, w => ((Fr.refl _ _).set _ _ (.inl hb)).trans (fr_sets' hb r (o + 1) _)
theorem below_sets' {B b : Nat} {w0 : World} (hb : B ≤ b) : ∀ (vs : List Value) (o : Nat) (w : World), Below B w0 w → Below B w0 (w.setCells b o vs)
  | [], _, _, h => h
  | v :: r, o, w, h => below_sets' hb r (o + 1) _ (h.setCell (p := ⟨b, o, none⟩) hb v)
theorem there_blk' {w : World} {b o n : Nat} {cs : Array Value} {T : TypeId} (h : Blk w b cs T) (hn : o + n ≤ cs.size) : w.there b o n := fun j hj => by
  refine ⟨?_, h.free _⟩
  rw [h.at (o + j) (Array.getElem?_eq_getElem (show o + j < cs.size by omega))]; rfl
theorem range_sub {m n : Nat} {w : World} (h : m ≤ n) : ∀ b ∈ List.range m, b ∈ List.range n ∨ w.heap.size ≤ b := fun b hb => .inl (by simp at *; omega)
abbrev bkZ : Array Value := #[.int .i64 0, .int .i64 0, .string ⟨#[]⟩, .string ⟨#[]⟩, .bool false, .int .i64 0, .slice none 0 0, .slice none 0 0, .slice none 0 0, .int .i64 0, .int .i64 0, .string ⟨#[]⟩, .int .u64 0, .slice none 0 0, .slice none 0 0, .slice none 0 0, .slice none 0 0]
theorem sets_node (h : BlockH) (n : NodeH) (x : BlockV) : sets' (blockA h x) 1 (nodeA n x.node).toList = blockA ⟨n, h.plan, h.pairs⟩ x := by
  simp [sets', blockA, nodeA]
/-- few elements -/
structure Few (x : BlockV) : Prop where
  keys : x.node.keys.length ≤ 1000
  vals : x.node.vals.length ≤ 1000
  kids : x.node.kids.length ≤ 1000
  steps : x.plan.steps.length ≤ 1000
  extra : x.plan.extra.length ≤ 1000
  apairs : x.plan.ans.pairs.length ≤ 1000
  pairs : x.pairs.length ≤ 1000
set_option maxRecDepth 100000 in
set_option maxHeartbeats 3200000 in
theorem copied_any (S : List Nat) (h : BlockH) (x : BlockV) (w : World) (H : BlockOk w S h x) (hf : Few x) :
    Calls Try.prog 49 #[.agg (blockA h x)] w fun e w' => (∃ h', e = .returned (.agg (blockA h' x)) ∧ BlockOk w' (List.range w.heap.size) h' x) ∧ Below w.heap.size w w' := by
  have hb0 : Below w.heap.size w ((w.alloc (.cells (blockA h x) 35)).alloc (.cells bkZ 35)) := by (repeat (first | exact Below.refl _ _ | assumption | refine below_alloc2 ?_ (by first | exact Nat.le_refl _ | omega) _ | refine Below.drew ?_ | refine below_drewN ?_ _ | refine below_push2 ?_ ‹_› (by first | exact Nat.le_refl _ | omega) | refine Below.setCell ?_ (by first | (simp; done) | (simp; omega) | omega) _))
  have BB := (Blk.new w (blockA h x) 35).alloc (.cells bkZ 35)
  have BR : Blk ((w.alloc (.cells (blockA h x) 35)).alloc (.cells bkZ 35)) (w.heap.size + 1) bkZ 35 := by
    have := Blk.new (w.alloc (.cells (blockA h x) 35)) bkZ 35
    simpa using this
  go_enter Try.func49, Try.ntmps49
  go_wp2_with fail
  generalize ((w.alloc (.cells (blockA h x) 35)).alloc (.cells bkZ 35)) = w1 at hb0 BB BR ⊢
  have hl1 : w.heap.size + 2 ≤ w1.heap.size := BR.lt
  refine (show Calls _ _ _ _ _ from nclone_any S h.node x.node w1 (H.node.keep (Keeps.of_below hb0)) hf.keys hf.vals hf.kids).mono ?_
  rintro e w2 ⟨⟨n2, rfl, N2⟩, hb2⟩
  replace N2 := N2.more (S' := List.range (w.heap.size + 2)) (range_sub hl1)
  have BB2 := BB.below hb2
  have BR2 := BR.below hb2
  have hB2 := below_push2 hb0 hb2 (Nat.le_refl _)
  have hth := there_blk' (o := 1) (n := 8) BB2 (by simp)
  have hl2 := hb2.size
  clear hb0 BB BR hb2
  go_upto_region 2 with (refine wpList_store_mid rfl 27 _ _ rfl w.heap.size 1 (nodeA n2 x.node) rfl rfl hth (by kernel_rfl) (by kernel_rfl) ?_)
  have BB3 := blk_sets' (nodeA n2 x.node).toList 1 _ _ BB2
  rw [sets_node] at BB3
  have F3 := fr_sets' (S := [w.heap.size]) (b := w.heap.size) (by simp) (nodeA n2 x.node).toList 1 w2
  have BR3 := F3.blk BR2 (by simp)
  have hB3 := below_sets' (b := w.heap.size) (Nat.le_refl _) (nodeA n2 x.node).toList 1 _ hB2
  have N3 := N2.keep (F3.keeps.more (S' := List.range (w.heap.size + 2)) (by simp))
  clear F3 hth BB2 BR2 hB2 N2 hl2
  generalize w2.setCells w.heap.size 1 (nodeA n2 x.node).toList = w3 at BB3 BR3 hB3 N3 ⊢
  have c3 := BB3.at 14 rfl
  go_wp2_with fail
  have hl3 : w.heap.size + 2 ≤ w3.heap.size := BR3.lt
  refine (show Calls _ _ _ _ _ from clStep_any S h.plan.steps x.plan.steps w3 (H.plan.steps.keep (Keeps.of_below hB3)) hf.steps).mono ?_
  rintro e w4 ⟨⟨q4, rfl, R4⟩, hb4⟩
  have BB4 := BB3.below hb4
  have c4 := BB4.at 14 rfl
  have f4 := BB4.free 14
  have BB5 := BB4.set 14 (.slice q4.a x.plan.steps.length q4.c)
  rw [show (blockA _ x).setIfInBounds 14 (.slice q4.a x.plan.steps.length q4.c) = blockA ⟨n2, ⟨h.plan.pairs, q4, h.plan.extra⟩, h.pairs⟩ x from by simp [blockA]] at BB5
  have K4 := (Keeps.of_below (S := List.range (w.heap.size + 2)) hb4).trans (Keeps.set (S := List.range (w.heap.size + 2)) (w := w4) ⟨w.heap.size, 14, none⟩ (.slice q4.a x.plan.steps.length q4.c) (by simp))
  have Rq4 := R4.more (S' := List.range (w.heap.size + 2)) (range_sub hl3)
  replace Rq4 := Rq4.keep (Keeps.set (S := List.range (w.heap.size + 2)) (w := w4) ⟨w.heap.size, 14, none⟩ (.slice q4.a x.plan.steps.length q4.c) (by simp))
  have BR5 := (BR3.below hb4).far ⟨w.heap.size, 14, none⟩ (.slice q4.a x.plan.steps.length q4.c) (by simp)
  have hB5 := (below_push2 hB3 hb4 (Nat.le_refl _)).setCell (p := ⟨w.heap.size, 14, none⟩) (Nat.le_refl _) (.slice q4.a x.plan.steps.length q4.c)
  go_upto_region 3 with (fail)
  obtain ⟨w5, hw5⟩ : ∃ wz, wz = w4.setCell ⟨w.heap.size, 14, none⟩ (.slice q4.a x.plan.steps.length q4.c) := ⟨_, rfl⟩
  rw [← hw5] at BB5 K4 Rq4 BR5 hB5 ⊢
  clear c3 c4 f4 BB3 BB4 BR3 hB3 hb4 R4 hl3 hw5
  have N5 := N3.keep K4
  clear N3 K4
  have c5 := BB5.at 15 rfl
  go_wp2_with fail
  have hl5 : w.heap.size + 2 ≤ w5.heap.size := BR5.lt
  refine (show Calls _ _ _ _ _ from clU64_any S h.plan.extra x.plan.extra w5 (H.plan.extra.keep (Keeps.of_below hB5)) hf.extra).mono ?_
  rintro e w6 ⟨⟨q6, rfl, R6⟩, hb6⟩
  have BB6 := BB5.below hb6
  have c6 := BB6.at 15 rfl
  have f6 := BB6.free 15
  have BB7 := BB6.set 15 (.slice q6.a x.plan.extra.length q6.c)
  rw [show (blockA _ x).setIfInBounds 15 (.slice q6.a x.plan.extra.length q6.c) = blockA ⟨n2, ⟨h.plan.pairs, q4, q6⟩, h.pairs⟩ x from by simp [blockA]] at BB7
  have K6 := (Keeps.of_below (S := List.range (w.heap.size + 2)) hb6).trans (Keeps.set (S := List.range (w.heap.size + 2)) (w := w6) ⟨w.heap.size, 15, none⟩ (.slice q6.a x.plan.extra.length q6.c) (by simp))
  have Rq6 := R6.more (S' := List.range (w.heap.size + 2)) (range_sub hl5)
  replace Rq6 := Rq6.keep (Keeps.set (S := List.range (w.heap.size + 2)) (w := w6) ⟨w.heap.size, 15, none⟩ (.slice q6.a x.plan.extra.length q6.c) (by simp))
  have BR7 := (BR5.below hb6).far ⟨w.heap.size, 15, none⟩ (.slice q6.a x.plan.extra.length q6.c) (by simp)
  have hB7 := (below_push2 hB5 hb6 (Nat.le_refl _)).setCell (p := ⟨w.heap.size, 15, none⟩) (Nat.le_refl _) (.slice q6.a x.plan.extra.length q6.c)
  go_upto_region 4 with (fail)
  obtain ⟨w7, hw7⟩ : ∃ wz, wz = w6.setCell ⟨w.heap.size, 15, none⟩ (.slice q6.a x.plan.extra.length q6.c) := ⟨_, rfl⟩
  rw [← hw7] at BB7 K6 Rq6 BR7 hB7 ⊢
  clear c5 c6 f6 BB5 BB6 BR5 hB5 hb6 R6 hl5 hw7
  have N7 := N5.keep K6
  have Rq47 := Rq4.keep K6
  clear N5 Rq4 K6
  have c7 := BB7.at 13 rfl
  go_wp2_with fail
  have hl7 : w.heap.size + 2 ≤ w7.heap.size := BR7.lt
  refine (show Calls _ _ _ _ _ from clPair_any S h.plan.pairs x.plan.ans.pairs w7 (H.plan.ans.pairs.keep (Keeps.of_below hB7)) hf.apairs).mono ?_
  rintro e w8 ⟨⟨q8, rfl, R8⟩, hb8⟩
  have BB8 := BB7.below hb8
  have c8 := BB8.at 13 rfl
  have f8 := BB8.free 13
  have BB9 := BB8.set 13 (.slice q8.a x.plan.ans.pairs.length q8.c)
  rw [show (blockA _ x).setIfInBounds 13 (.slice q8.a x.plan.ans.pairs.length q8.c) = blockA ⟨n2, ⟨q8, q4, q6⟩, h.pairs⟩ x from by simp [blockA]] at BB9
  have K8 := (Keeps.of_below (S := List.range (w.heap.size + 2)) hb8).trans (Keeps.set (S := List.range (w.heap.size + 2)) (w := w8) ⟨w.heap.size, 13, none⟩ (.slice q8.a x.plan.ans.pairs.length q8.c) (by simp))
  have Rq8 := R8.more (S' := List.range (w.heap.size + 2)) (range_sub hl7)
  replace Rq8 := Rq8.keep (Keeps.set (S := List.range (w.heap.size + 2)) (w := w8) ⟨w.heap.size, 13, none⟩ (.slice q8.a x.plan.ans.pairs.length q8.c) (by simp))
  have BR9 := (BR7.below hb8).far ⟨w.heap.size, 13, none⟩ (.slice q8.a x.plan.ans.pairs.length q8.c) (by simp)
  have hB9 := (below_push2 hB7 hb8 (Nat.le_refl _)).setCell (p := ⟨w.heap.size, 13, none⟩) (Nat.le_refl _) (.slice q8.a x.plan.ans.pairs.length q8.c)
  go_upto_region 5 with (fail)
  obtain ⟨w9, hw9⟩ : ∃ wz, wz = w8.setCell ⟨w.heap.size, 13, none⟩ (.slice q8.a x.plan.ans.pairs.length q8.c) := ⟨_, rfl⟩
  rw [← hw9] at BB9 K8 Rq8 BR9 hB9 ⊢
  clear c7 c8 f8 BB7 BB8 BR7 hB7 hb8 R8 hl7 hw9
  have N9 := N7.keep K8
  have Rq49 := Rq47.keep K8
  have Rq69 := Rq6.keep K8
  clear N7 Rq47 Rq6 K8
  have c9 := BB9.at 16 rfl
  go_wp2_with fail
  have hl9 : w.heap.size + 2 ≤ w9.heap.size := BR9.lt
  refine (show Calls _ _ _ _ _ from clPair_any S h.pairs x.pairs w9 (H.pairs.keep (Keeps.of_below hB9)) hf.pairs).mono ?_
  rintro e w10 ⟨⟨q10, rfl, R10⟩, hb10⟩
  have BB10 := BB9.below hb10
  have c10 := BB10.at 16 rfl
  have f10 := BB10.free 16
  have BB11 := BB10.set 16 (.slice q10.a x.pairs.length q10.c)
  rw [show (blockA _ x).setIfInBounds 16 (.slice q10.a x.pairs.length q10.c) = blockA ⟨n2, ⟨q8, q4, q6⟩, q10⟩ x from by simp [blockA]] at BB11
  have K10 := (Keeps.of_below (S := List.range (w.heap.size + 2)) hb10).trans (Keeps.set (S := List.range (w.heap.size + 2)) (w := w10) ⟨w.heap.size, 16, none⟩ (.slice q10.a x.pairs.length q10.c) (by simp))
  have Rq10 := R10.more (S' := List.range (w.heap.size + 2)) (range_sub hl9)
  replace Rq10 := Rq10.keep (Keeps.set (S := List.range (w.heap.size + 2)) (w := w10) ⟨w.heap.size, 16, none⟩ (.slice q10.a x.pairs.length q10.c) (by simp))
  have BR11 := (BR9.below hb10).far ⟨w.heap.size, 16, none⟩ (.slice q10.a x.pairs.length q10.c) (by simp)
  have hB11 := (below_push2 hB9 hb10 (Nat.le_refl _)).setCell (p := ⟨w.heap.size, 16, none⟩) (Nat.le_refl _) (.slice q10.a x.pairs.length q10.c)
  go_upto_region 6 with (fail)
  obtain ⟨w11, hw11⟩ : ∃ wz, wz = w10.setCell ⟨w.heap.size, 16, none⟩ (.slice q10.a x.pairs.length q10.c) := ⟨_, rfl⟩
  rw [← hw11] at BB11 K10 Rq10 BR11 hB11 ⊢
  clear c9 c10 f10 BB9 BB10 BR9 hB9 hb10 R10 hl9 hw11
  have N11 := N9.keep K10
  have Rq411 := Rq49.keep K10
  have Rq611 := Rq69.keep K10
  have Rq811 := Rq8.keep K10
  clear N9 Rq49 Rq69 Rq8 K10
  go_wp2_with (first
    | (refine wpList_load_row rfl 35 _ rfl w.heap.size rfl 35 _ (0, 0) _ BB11.h Try.underlying35 rfl (by kernel_rfl) ?_)
    | (refine wpList_store_row rfl 35 _ _ rfl (w.heap.size + 1) _ rfl rfl 35 _ BR11.h (by kernel_rfl) (by rfl) (by kernel_rfl) ?_))
  generalize hh : (⟨n2, ⟨q8, q4, q6⟩, q10⟩ : BlockH) = h' at BB11
  have FR := Fr.row (S := [w.heap.size + 1]) (w := w11) (w.heap.size + 1) (blockA h' x) (by simp)
  have KR := FR.keeps.more (S' := List.range (w.heap.size + 2)) (by simp)
  refine bodyPost_ret (results_cell_row rfl _ _ (w.heap.size + 1) 35 (blockA h' x) (0, 0) _ rfl (Blk.row BR11 (blockA h' x)).h Try.underlying35 rfl (by kernel_rfl)) rfl ⟨⟨h', rfl, ?_⟩, below_setRow hB11 (by omega) _⟩
  refine BlockOk.more (S := List.range (w.heap.size + 2)) ?_ (range_sub (by omega))
  subst hh
  exact ⟨H.kind, N11.keep KR, ⟨H.plan.thread, ⟨H.plan.ans.code, H.plan.ans.key, H.plan.ans.val, Rq811.keep KR⟩, Rq411.keep KR, Rq611.keep KR⟩, Rq10.keep KR⟩
end Go.Proofs.Ytpempcefgfmniaa.Dp

/-
  ref.Open, ref.State and the document's: contracts, each for every word.
-/
namespace Go.Proofs.Ytpempcefgfmniaa.RefP
open Go.RowKit
set_option linter.unusedVariables false

set_option maxHeartbeats 800000 in
theorem open_any (x : Int) (w : World) (h2 : 0 ≤ x) (h3 : x ≤ 18446744073709551615) :
    Calls Try.prog 70 #[.int .u64 x] w fun e w' => e = .returned (.tuple #[.int .i64 (openP x), .int .u64 (openG x), .bool (opensB x)]) ∧ Below w.heap.size w w' := by
  by_cases c0 : x = 0
  · subst c0
    go_enter Try.func70, Try.ntmps70
    go_wp2_with fail
    refine (of_low14 0 _ (by omega) (by omega)).mono ?_
    rintro e w1 ⟨rfl, hb1⟩
    go_wp2_with fail
    refine (of_high14 0 _ (by omega) (by omega)).mono ?_
    rintro e w2 ⟨rfl, hb2⟩
    go_wp2_with fail
    go_ret3
    exact ⟨rfl, below_two hb1 hb2⟩
  have hz : (x == 0) = false := by simpa using c0
  cases ho : opensB x
  · have hn := pack_not_open x h2 c0 ho
    have hv : Hid (Ending.returned (.tuple #[.int .i64 (openP x), .int .u64 (openG x), .bool false]) = .returned (.tuple #[.int .i64 0, .int .u64 0, .bool false])) := ret_3 (openP_no ho) (openG_no ho) rfl
    clear ho c0
    have hq : (packI (x % 16384 - 1) (x / 16384) != x) = true := by simpa using hn
    go_enter Try.func70, Try.ntmps70
    go_wp2_with fail
    refine (of_low14 x _ (by omega) (by omega)).mono ?_
    rintro e w1 ⟨rfl, hb1⟩
    go_wp2_with fail
    refine (of_high14 x _ (by omega) (by omega)).mono ?_
    rintro e w2 ⟨rfl, hb2⟩
    go_wp2_with fail
    refine (pack_any _ _ _ (by omega) (by omega) (by omega) (by omega)).mono ?_
    rintro e w3 ⟨rfl, rfl⟩
    go_wp2_with fail
    go_ret3
    exact ⟨hv.out.symm, below_two hb1 hb2⟩
  · have hn := pack_of_open x ho
    have hv : Hid (Ending.returned (.tuple #[.int .i64 (openP x), .int .u64 (openG x), .bool true]) = .returned (.tuple #[.int .i64 (x % 16384 - 1), .int .u64 (x / 16384), .bool true])) := ret_3 (openP_yes ho) (openG_yes ho) rfl
    clear ho c0
    have hq : (packI (x % 16384 - 1) (x / 16384) != x) = false := by simp [hn]
    have hn' := Lib.hid hn
    clear hn
    go_enter Try.func70, Try.ntmps70
    go_wp2_with fail
    refine (of_low14 x _ (by omega) (by omega)).mono ?_
    rintro e w1 ⟨rfl, hb1⟩
    go_wp2_with fail
    refine (of_high14 x _ (by omega) (by omega)).mono ?_
    rintro e w2 ⟨rfl, hb2⟩
    go_wp2_with fail
    refine (pack_any _ _ _ (by omega) (by omega) (by omega) (by omega)).mono ?_
    rintro e w3 ⟨rfl, rfl⟩
    go_wp2_with fail
    go_ret3
    exact ⟨hv.out.symm, below_two hb1 hb2⟩
end Go.Proofs.Ytpempcefgfmniaa.RefP

/-
  Blocks of a memory, in depth: named, Block, Do of what gets and puts a block.
-/
namespace Go.Proofs.Ytpempcefgfmniaa.MemP
open Go.RowKit RefP CellP Dp
set_option linter.unusedVariables false
set_option linter.unusedSimpArgs false
theorem res_ct {P : Program} {fn : Func} {p q : Tmp} {ty : TypeId} (h : fn.results = #[.cell p ty, .tmp q]) (tmps : Array Value) (w : World) (g : Nat) (t : TypeId) (cs : Array Value) (fr : Nat × Nat) (d : TypeDesc)
    (v : Value) (hv : tmps.getD q undef = v) (hp : tmps.getD p undef = .pointer (some ⟨g, 0, none⟩)) (hg : w.heap[g]? = some (.cells cs t fr))
    (hu : P.underlying ty = some d) (hd : (match d with | .struct _ | .array _ _ => true | _ => false) = true) (hi : (P.info? ty).map (·.size) = some cs.size) :
    (results fn tmps).run P w = .ok (.tuple #[.agg cs, v]) w := by
  subst hv
  have hp' : tmps[p]?.getD undef = .pointer (some ⟨g, 0, none⟩) := by simpa using hp
  simp [results, h, hp', asAddr, run_loadVar_row w g t ty cs fr d hg hu hd hi]
/-- does a reference name a place, and which -/
def nameB (A T : Nat) (L : List (Int × Int)) (x : Int) : Bool := opensB x && (decide (openP x < A) && (loadW L (atI A T 1 (openP x)) == useI 1 (openG x)))
def nameP (A : Nat) (x : Int) : Int := if opensB x = true ∧ openP x < A then openP x else 0
theorem openP_ge (x : Int) : 0 ≤ openP x := by
  unfold openP
  split
  · rename_i h; have := opensB_yes h; omega
  · omega
theorem openP_le (x : Int) : openP x ≤ 8191 := by
  unfold openP
  split
  · rename_i h; have := opensB_yes h; omega
  · omega
theorem openG_rng {x : Int} (h : opensB x = true) : 1 ≤ openG x ∧ openG x ≤ 4294967295 := by
  unfold openG
  rw [if_pos h]
  have := opensB_yes h; omega
set_option maxHeartbeats 1600000 in
theorem named_any {o oc g gb gr A T : Nat} {L : List (Int × Int)} {bs rs : List (List Value)} (x : Int) (w : World) (h : MemAt w o oc g gb gr A T L bs rs) (x0 : 0 ≤ x) (x1 : x ≤ 18446744073709551615) :
    Calls Try.prog 48 #[.pointer (some ⟨o, 0, none⟩), .int .u64 x] w fun e w' => e = .returned (.tuple #[.int .i64 (nameP A x), .bool (nameB A T L x)]) ∧ Below w.heap.size w w' := by
  have hA := h.a1
  cases hb : opensB x
  · have hP := Lib.hid (show nameP A x = 0 by simp [nameP, hb])
    have hN := Lib.hid (show nameB A T L x = false by simp [nameB, hb])
    go_enter Try.func48, Try.ntmps48
    go_wp2_with fail
    refine (open_any x _ x0 x1).mono ?_
    rw [hb]
    rintro e w1 ⟨rfl, hb1⟩
    go_wp2_with fail
    go_ret2
    exact ⟨by rw [hP.out, hN.out]; rfl, hb1⟩
  · have hg := openG_rng hb
    have p0 := openP_ge x
    by_cases hl : openP x < A
    · have q1 : decide ((A : Int) ≤ openP x) = false := by simpa using hl
      have hP := Lib.hid (show nameP A x = openP x by simp [nameP, hb, hl])
      have hN := Lib.hid (show nameB A T L x = (loadW L (atI A T 1 (openP x)) == useI 1 (openG x)) by simp [nameB, hb, hl])
      go_enter Try.func48, Try.ntmps48
      go_wp2_with fail
      refine (open_any x _ x0 x1).mono ?_
      rw [hb]
      rintro e w1 ⟨rfl, hb1⟩
      replace h := h.below hb1
      go_wp2_with fail
      refine (arena_any _ h).mono ?_
      rintro e w2 ⟨rfl, rfl⟩
      go_wp2_with fail
      refine (muse_any (openP x) _ h (by omega) (by omega)).mono ?_
      rintro e w2 ⟨rfl, hb2⟩
      replace h := h.below hb2
      have hB2 := below_push2 hb1 hb2 (Nat.le_refl _)
      go_wp2_with fail
      refine (mload_any _ _ h).mono ?_
      rintro e w3 ⟨rfl, hb3⟩
      have hB3 := below_push2 hB2 hb3 (Nat.le_refl _)
      go_wp2_with fail
      refine (use_any 1 (openG x) _ (by omega) (by omega) (by omega) (by omega)).mono ?_
      rintro e w4 ⟨rfl, rfl⟩
      go_wp2_with fail
      go_ret2
      exact ⟨by rw [hP.out, hN.out]; rfl, hB3⟩
    · have q1 : decide ((A : Int) ≤ openP x) = true := by simp; omega
      have hP := Lib.hid (show nameP A x = 0 by simp [nameP, hl])
      have hN := Lib.hid (show nameB A T L x = false by simp [nameB, hl])
      go_enter Try.func48, Try.ntmps48
      go_wp2_with fail
      refine (open_any x _ x0 x1).mono ?_
      rw [hb]
      rintro e w1 ⟨rfl, hb1⟩
      replace h := h.below hb1
      go_wp2_with fail
      refine (arena_any _ h).mono ?_
      rintro e w2 ⟨rfl, rfl⟩
      go_wp2_with fail
      go_ret2
      exact ⟨by rw [hP.out, hN.out]; rfl, hb1⟩
theorem named_lt {A T : Nat} {L : List (Int × Int)} {x : Int} (h : nameB A T L x = true) : ∃ i : Nat, i < A ∧ nameP A x = (i : Int) ∧ openP x = (i : Int) := by
  simp only [nameB, Bool.and_eq_true, decide_eq_true_eq] at h
  obtain ⟨h1, h2, _⟩ := h
  have p0 := openP_ge x
  refine ⟨(openP x).toNat, by omega, ?_, by omega⟩
  rw [nameP, if_pos ⟨h1, h2⟩]; omega
set_option maxRecDepth 100000 in
set_option maxHeartbeats 3200000 in
theorem block_yes {o oc g gb gr A T : Nat} {L : List (Int × Int)} {bs rs : List (List Value)} (x : Int) (i : Nat) (S : List Nat) (q : BlockH) (b : BlockV) (w : World) (h : MemAt w o oc g gb gr A T L bs rs) (x0 : 0 ≤ x) (x1 : x ≤ 18446744073709551615) (hN : nameB A T L x = true) (hi : i < A) (hp : nameP A x = (i : Int)) (hb : bs.getD i [] = (blockA q b).toList) (H : BlockOk w S q b) (hf : Few b) :
    Calls Try.prog 13 #[.pointer (some ⟨o, 0, none⟩), .int .u64 x] w fun e w' => (∃ q', e = .returned (.tuple #[.agg (blockA q' b), .bool true]) ∧ BlockOk w' (List.range w.heap.size) q' b) ∧ Below w.heap.size w w' := by
  have hb0 : Below w.heap.size w (w.alloc (.cells bkZ 35)) := by (repeat (first | exact Below.refl _ _ | assumption | refine below_alloc2 ?_ (by first | exact Nat.le_refl _ | omega) _ | refine Below.drew ?_ | refine below_drewN ?_ _ | refine below_push2 ?_ ‹_› (by first | exact Nat.le_refl _ | omega) | refine Below.setCell ?_ (by first | (simp; done) | (simp; omega) | omega) _))
  have hi' : (i : Int) < (A : Int) := by omega
  go_enter Try.func13, Try.ntmps13
  go_wp2_with fail
  refine (named_any x _ (h.below hb0) x0 x1).mono ?_
  rw [hN, hp]
  rintro e w1 ⟨rfl, hb1⟩
  have hB1 := below_push2 hb0 hb1 (Nat.le_refl _)
  have BR := (Blk.new w bkZ 35).below hb1
  have h1 := (h.below hb0).below hb1
  have d9 : w1.cell? ⟨o, 9, none⟩ = some (.slice (some ⟨gb, 0, none⟩) A A) := h1.head.at 9 rfl
  have hr : w1.rangeAt gb (i * 17) (blockA q b).toList := by
    intro j v hj
    have hj17 : j < 17 := by
      by_cases e : j < 17
      · exact e
      · rw [List.getElem?_eq_none (by simp; omega)] at hj; cases hj
    rw [h1.blocks.at (i * 17 + j) (raw_at bs i j (by rw [h1.lb]; omega) hj17)]
    show some ((bs.getD i []).getD j undef) = some v
    rw [hb]
    simp only [List.getD, hj, Option.getD_some]
  clear hb0 hb1 h1
  go_wp2_with (refine wpList_load_mid rfl 35 _ rfl gb (i * 17) rfl (blockA q b).toList _ hr Try.underlying35 rfl (by kernel_rfl) ?_)
  refine (show Calls _ _ _ _ _ from copied_any S q b w1 (H.keep (Keeps.of_below hB1)) hf).mono ?_
  rintro e w2 ⟨⟨q', rfl, H2⟩, hb2⟩
  have hB2 := below_push2 hB1 hb2 (Nat.le_refl _)
  have hlr := BR.lt
  replace BR := BR.below hb2
  go_wp2_with (refine wpList_store_row rfl 35 _ _ rfl w.heap.size _ rfl rfl 35 _ BR.h (by kernel_rfl) (by rfl) (by kernel_rfl) ?_)
  refine bodyPost_ret (v := .tuple #[.agg (blockA q' b), .bool true]) (res_ct rfl _ _ w.heap.size 35 (blockA q' b) (0, 0) _ (.bool true) rfl rfl (Blk.row BR (blockA q' b)).h Try.underlying35 rfl (by kernel_rfl)) rfl ⟨⟨q', rfl, ?_⟩, below_setRow hB2 (by omega) _⟩
  exact (H2.keep (Fr.row (S := List.range w1.heap.size) w.heap.size _ (by simpa using hlr)).keeps).more (range_sub (by omega))
set_option maxRecDepth 100000 in
set_option maxHeartbeats 3200000 in
theorem block_no {o oc g gb gr A T : Nat} {L : List (Int × Int)} {bs rs : List (List Value)} (x : Int) (w : World) (h : MemAt w o oc g gb gr A T L bs rs) (x0 : 0 ≤ x) (x1 : x ≤ 18446744073709551615) (hN : nameB A T L x = false) :
    Calls Try.prog 13 #[.pointer (some ⟨o, 0, none⟩), .int .u64 x] w fun e w' => e = .returned (.tuple #[.agg bkZ, .bool false]) ∧ Below w.heap.size w w' := by
  have hb0 : Below w.heap.size w (w.alloc (.cells bkZ 35)) := by (repeat (first | exact Below.refl _ _ | assumption | refine below_alloc2 ?_ (by first | exact Nat.le_refl _ | omega) _ | refine Below.drew ?_ | refine below_drewN ?_ _ | refine below_push2 ?_ ‹_› (by first | exact Nat.le_refl _ | omega) | refine Below.setCell ?_ (by first | (simp; done) | (simp; omega) | omega) _))
  go_enter Try.func13, Try.ntmps13
  go_wp2_with fail
  refine (named_any x _ (h.below hb0) x0 x1).mono ?_
  rw [hN]
  rintro e w1 ⟨rfl, hb1⟩
  have hB1 := below_push2 hb0 hb1 (Nat.le_refl _)
  have BR := (Blk.new w bkZ 35).below hb1
  go_wp2_with (refine wpList_store_row rfl 35 _ _ rfl w.heap.size _ rfl rfl 35 _ BR.h (by kernel_rfl) (by rfl) (by kernel_rfl) ?_)
  refine bodyPost_ret (v := .tuple #[.agg bkZ, .bool false]) (res_ct rfl _ _ w.heap.size 35 bkZ (0, 0) _ (.bool false) rfl rfl (Blk.row BR bkZ).h Try.underlying35 rfl (by kernel_rfl)) rfl ⟨rfl, below_setRow hB1 (by omega) _⟩
end Go.Proofs.Ytpempcefgfmniaa.MemP

/-
  Do of what gets a block: contracts.
-/
namespace Go.Proofs.Ytpempcefgfmniaa.MemP
open Go.RowKit RefP CellP Dp
set_option linter.unusedVariables false
set_option linter.unusedSimpArgs false
/-- a reply's cells, with a block -/
abbrev replyA (ok : Bool) (word ver : Int) (h : BlockH) (x : BlockV) : Array Value := #[.bool ok, .int .u64 word, .int .u64 ver, .int .i64 x.kind, .int .i64 x.node.level, .string x.node.low, .string x.node.high, .bool x.node.last, .int .i64 x.node.next, .slice h.node.keys.a x.node.keys.length h.node.keys.c, .slice h.node.vals.a x.node.vals.length h.node.vals.c, .slice h.node.kids.a x.node.kids.length h.node.kids.c, .int .i64 x.plan.thread, .int .i64 x.plan.ans.code, .string x.plan.ans.key, .int .u64 x.plan.ans.val, .slice h.plan.pairs.a x.plan.ans.pairs.length h.plan.pairs.c, .slice h.plan.steps.a x.plan.steps.length h.plan.steps.c, .slice h.plan.extra.a x.plan.extra.length h.plan.extra.c, .slice h.pairs.a x.pairs.length h.pairs.c, .int .i64 0, .string ⟨#[]⟩, .string ⟨#[]⟩, .int .u64 0, .int .i64 0]
theorem sets_reply (ok : Bool) (h : BlockH) (x : BlockV) : sets' #[.bool ok, .int .u64 0, .int .u64 0, .int .i64 0, .int .i64 0, .string ⟨#[]⟩, .string ⟨#[]⟩, .bool false, .int .i64 0, .slice none 0 0, .slice none 0 0, .slice none 0 0, .int .i64 0, .int .i64 0, .string ⟨#[]⟩, .int .u64 0, .slice none 0 0, .slice none 0 0, .slice none 0 0, .slice none 0 0, .int .i64 0, .string ⟨#[]⟩, .string ⟨#[]⟩, .int .u64 0, .int .i64 0] 3 (blockA h x).toList = replyA ok 0 0 h x := by
  simp [sets', blockA, replyA]
theorem sets_replyZ (ok : Bool) : sets' #[.bool ok, .int .u64 0, .int .u64 0, .int .i64 0, .int .i64 0, .string ⟨#[]⟩, .string ⟨#[]⟩, .bool false, .int .i64 0, .slice none 0 0, .slice none 0 0, .slice none 0 0, .int .i64 0, .int .i64 0, .string ⟨#[]⟩, .int .u64 0, .slice none 0 0, .slice none 0 0, .slice none 0 0, .slice none 0 0, .int .i64 0, .string ⟨#[]⟩, .string ⟨#[]⟩, .int .u64 0, .int .i64 0] 3 bkZ.toList = #[.bool ok, .int .u64 0, .int .u64 0, .int .i64 0, .int .i64 0, .string ⟨#[]⟩, .string ⟨#[]⟩, .bool false, .int .i64 0, .slice none 0 0, .slice none 0 0, .slice none 0 0, .int .i64 0, .int .i64 0, .string ⟨#[]⟩, .int .u64 0, .slice none 0 0, .slice none 0 0, .slice none 0 0, .slice none 0 0, .int .i64 0, .string ⟨#[]⟩, .string ⟨#[]⟩, .int .u64 0, .int .i64 0] := by
  simp [sets']
set_option maxRecDepth 100000 in
set_option maxHeartbeats 3200000 in
theorem do_get_yes {o oc g gb gr A T : Nat} {L : List (Int × Int)} {bs rs : List (List Value)} (i ver word : Int) (c4 c5 c6 c7 c8 c9 c10 c11 c12 c13 c14 c15 c16 c17 c18 c19 c20 c21 c22 c23 c24 c25 : Value) (k : Nat) (S : List Nat) (q : BlockH) (b : BlockV) (w : World) (h : MemAt w o oc g gb gr A T L bs rs) (x0 : 0 ≤ word) (x1 : word ≤ 18446744073709551615) (hN : nameB A T L word = true) (hi : k < A) (hp : nameP A word = (k : Int)) (hb : bs.getD k [] = (blockA q b).toList) (H : BlockOk w S q b) (hf : Few b) :
    Calls Try.prog 12 #[.pointer (some ⟨o, 0, none⟩), .agg #[.int .i64 4, .int .i64 i, .int .u64 ver, .int .u64 word, c4, c5, c6, c7, c8, c9, c10, c11, c12, c13, c14, c15, c16, c17, c18, c19, c20, c21, c22, c23, c24, c25]] w fun e w' => (∃ q', e = .returned (.agg (replyA true 0 0 q' b)) ∧ BlockOk w' (List.range w.heap.size) q' b) ∧ Below w.heap.size w w' := by
  have hb2 : Below w.heap.size w ((w.alloc (.cells #[.int .i64 4, .int .i64 i, .int .u64 ver, .int .u64 word, c4, c5, c6, c7, c8, c9, c10, c11, c12, c13, c14, c15, c16, c17, c18, c19, c20, c21, c22, c23, c24, c25] 39)).alloc (.cells #[.bool false, .int .u64 0, .int .u64 0, .int .i64 0, .int .i64 0, .string ⟨#[]⟩, .string ⟨#[]⟩, .bool false, .int .i64 0, .slice none 0 0, .slice none 0 0, .slice none 0 0, .int .i64 0, .int .i64 0, .string ⟨#[]⟩, .int .u64 0, .slice none 0 0, .slice none 0 0, .slice none 0 0, .slice none 0 0, .int .i64 0, .string ⟨#[]⟩, .string ⟨#[]⟩, .int .u64 0, .int .i64 0] 50)) := by (repeat (first | exact Below.refl _ _ | assumption | refine below_alloc2 ?_ (by first | exact Nat.le_refl _ | omega) _ | refine Below.drew ?_ | refine below_drewN ?_ _ | refine below_push2 ?_ ‹_› (by first | exact Nat.le_refl _ | omega) | refine Below.setCell ?_ (by first | (simp; done) | (simp; omega) | omega) _))
  have BX := (Blk.new w #[.int .i64 4, .int .i64 i, .int .u64 ver, .int .u64 word, c4, c5, c6, c7, c8, c9, c10, c11, c12, c13, c14, c15, c16, c17, c18, c19, c20, c21, c22, c23, c24, c25] 39).alloc (.cells #[.bool false, .int .u64 0, .int .u64 0, .int .i64 0, .int .i64 0, .string ⟨#[]⟩, .string ⟨#[]⟩, .bool false, .int .i64 0, .slice none 0 0, .slice none 0 0, .slice none 0 0, .int .i64 0, .int .i64 0, .string ⟨#[]⟩, .int .u64 0, .slice none 0 0, .slice none 0 0, .slice none 0 0, .slice none 0 0, .int .i64 0, .string ⟨#[]⟩, .string ⟨#[]⟩, .int .u64 0, .int .i64 0] 50)
  have BR : Blk ((w.alloc (.cells #[.int .i64 4, .int .i64 i, .int .u64 ver, .int .u64 word, c4, c5, c6, c7, c8, c9, c10, c11, c12, c13, c14, c15, c16, c17, c18, c19, c20, c21, c22, c23, c24, c25] 39)).alloc (.cells #[.bool false, .int .u64 0, .int .u64 0, .int .i64 0, .int .i64 0, .string ⟨#[]⟩, .string ⟨#[]⟩, .bool false, .int .i64 0, .slice none 0 0, .slice none 0 0, .slice none 0 0, .int .i64 0, .int .i64 0, .string ⟨#[]⟩, .int .u64 0, .slice none 0 0, .slice none 0 0, .slice none 0 0, .slice none 0 0, .int .i64 0, .string ⟨#[]⟩, .string ⟨#[]⟩, .int .u64 0, .int .i64 0] 50)) (w.heap.size + 1) #[.bool false, .int .u64 0, .int .u64 0, .int .i64 0, .int .i64 0, .string ⟨#[]⟩, .string ⟨#[]⟩, .bool false, .int .i64 0, .slice none 0 0, .slice none 0 0, .slice none 0 0, .int .i64 0, .int .i64 0, .string ⟨#[]⟩, .int .u64 0, .slice none 0 0, .slice none 0 0, .slice none 0 0, .slice none 0 0, .int .i64 0, .string ⟨#[]⟩, .string ⟨#[]⟩, .int .u64 0, .int .i64 0] 50 := by
    have := Blk.new (w.alloc (.cells #[.int .i64 4, .int .i64 i, .int .u64 ver, .int .u64 word, c4, c5, c6, c7, c8, c9, c10, c11, c12, c13, c14, c15, c16, c17, c18, c19, c20, c21, c22, c23, c24, c25] 39)) #[.bool false, .int .u64 0, .int .u64 0, .int .i64 0, .int .i64 0, .string ⟨#[]⟩, .string ⟨#[]⟩, .bool false, .int .i64 0, .slice none 0 0, .slice none 0 0, .slice none 0 0, .int .i64 0, .int .i64 0, .string ⟨#[]⟩, .int .u64 0, .slice none 0 0, .slice none 0 0, .slice none 0 0, .slice none 0 0, .int .i64 0, .string ⟨#[]⟩, .string ⟨#[]⟩, .int .u64 0, .int .i64 0] 50
    simpa using this
  have h2 := h.below hb2
  go_enter Try.func12, Try.ntmps12
  go_wp2_with fail
  generalize ((w.alloc (.cells #[.int .i64 4, .int .i64 i, .int .u64 ver, .int .u64 word, c4, c5, c6, c7, c8, c9, c10, c11, c12, c13, c14, c15, c16, c17, c18, c19, c20, c21, c22, c23, c24, c25] 39)).alloc (.cells #[.bool false, .int .u64 0, .int .u64 0, .int .i64 0, .int .i64 0, .string ⟨#[]⟩, .string ⟨#[]⟩, .bool false, .int .i64 0, .slice none 0 0, .slice none 0 0, .slice none 0 0, .int .i64 0, .int .i64 0, .string ⟨#[]⟩, .int .u64 0, .slice none 0 0, .slice none 0 0, .slice none 0 0, .slice none 0 0, .int .i64 0, .string ⟨#[]⟩, .string ⟨#[]⟩, .int .u64 0, .int .i64 0] 50)) = wq at hb2 h2 BX BR ⊢
  have hl2 : w.heap.size + 2 ≤ wq.heap.size := BR.lt
  refine (none_any _ h2).mono ?_
  rintro e w1 ⟨rfl, rfl⟩
  have b0 := BX.at 0 rfl
  have b3 := BX.at 3 rfl
  go_wp2_with fail
  refine (block_yes word k S q b _ h2 x0 x1 hN hi hp hb (H.keep (Keeps.of_below hb2)) hf).mono ?_
  rintro e w3 ⟨⟨q', rfl, H3⟩, hb3⟩
  have hB3 := below_push2 hb2 hb3 (Nat.le_refl _)
  have BR3 := BR.below hb3
  have hl3 := hb3.size
  replace H3 := H3.more (S' := List.range (w.heap.size + 2)) (range_sub hl2)
  clear h2 BX BR b0 b3 hb2 hb3
  have hth := there_blk' (o := 3) (n := 17) BR3 (by decide)
  have BF := blk_sets' (blockA q' b).toList 3 _ _ BR3
  rw [sets_reply] at BF
  have HF := H3.keep ((fr_sets' (S := [w.heap.size + 1]) (b := w.heap.size + 1) (by simp) (blockA q' b).toList 3 w3).keeps.more (S' := List.range (w.heap.size + 2)) (by simp))
  have hBF := below_sets' (b := w.heap.size + 1) (by omega) (blockA q' b).toList 3 _ hB3
  generalize hX : w3.setCells (w.heap.size + 1) 3 (blockA q' b).toList = wx at BF hBF HF
  replace hX := Lib.hid hX
  have f0 := BF.free 0
  have c0 := BF.at 0 rfl
  have BG := BF.set 0 (.bool true)
  simp only [List.setIfInBounds_toArray, List.set_cons_zero] at BG
  have HG := HF.keep (Keeps.set (S := List.range (w.heap.size + 2)) (w := wx) ⟨w.heap.size + 1, 0, none⟩ (.bool true) (by simp))
  go_wp2_with (first
    | (refine wpList_store_mid rfl 35 _ _ rfl (w.heap.size + 1) 3 (blockA q' b) rfl rfl hth (by kernel_rfl) (by kernel_rfl) ?_; rw [hX.out])
    | (refine wpList_load_row rfl 50 _ rfl (w.heap.size + 1) rfl 50 _ (0, 0) _ BG.h Try.underlying50 rfl (by kernel_rfl) ?_)
    | (refine wpList_store_row rfl 50 _ _ rfl (w.heap.size + 1) _ rfl rfl 50 _ BG.h (by kernel_rfl) (by rfl) (by kernel_rfl) ?_))
  refine bodyPost_ret (results_cell_row rfl _ _ (w.heap.size + 1) 50 (replyA true 0 0 q' b) (0, 0) _ rfl (Blk.row BG (replyA true 0 0 q' b)).h Try.underlying50 rfl (by kernel_rfl)) rfl ⟨⟨q', rfl, ?_⟩, below_setRow (hBF.setCell (by show w.heap.size ≤ w.heap.size + 1; omega) _) (by omega) _⟩
  exact (HG.keep (Fr.row (S := List.range (w.heap.size + 2)) (w.heap.size + 1) _ (by simp)).keeps).more (range_sub (by omega))
set_option maxRecDepth 100000 in
set_option maxHeartbeats 3200000 in
theorem do_get_no {o oc g gb gr A T : Nat} {L : List (Int × Int)} {bs rs : List (List Value)} (i ver word : Int) (c4 c5 c6 c7 c8 c9 c10 c11 c12 c13 c14 c15 c16 c17 c18 c19 c20 c21 c22 c23 c24 c25 : Value) (w : World) (h : MemAt w o oc g gb gr A T L bs rs) (x0 : 0 ≤ word) (x1 : word ≤ 18446744073709551615) (hN : nameB A T L word = false) :
    Calls Try.prog 12 #[.pointer (some ⟨o, 0, none⟩), .agg #[.int .i64 4, .int .i64 i, .int .u64 ver, .int .u64 word, c4, c5, c6, c7, c8, c9, c10, c11, c12, c13, c14, c15, c16, c17, c18, c19, c20, c21, c22, c23, c24, c25]] w fun e w' => e = .returned (.agg #[.bool false, .int .u64 0, .int .u64 0, .int .i64 0, .int .i64 0, .string ⟨#[]⟩, .string ⟨#[]⟩, .bool false, .int .i64 0, .slice none 0 0, .slice none 0 0, .slice none 0 0, .int .i64 0, .int .i64 0, .string ⟨#[]⟩, .int .u64 0, .slice none 0 0, .slice none 0 0, .slice none 0 0, .slice none 0 0, .int .i64 0, .string ⟨#[]⟩, .string ⟨#[]⟩, .int .u64 0, .int .i64 0]) ∧ Below w.heap.size w w' := by
  have hb2 : Below w.heap.size w ((w.alloc (.cells #[.int .i64 4, .int .i64 i, .int .u64 ver, .int .u64 word, c4, c5, c6, c7, c8, c9, c10, c11, c12, c13, c14, c15, c16, c17, c18, c19, c20, c21, c22, c23, c24, c25] 39)).alloc (.cells #[.bool false, .int .u64 0, .int .u64 0, .int .i64 0, .int .i64 0, .string ⟨#[]⟩, .string ⟨#[]⟩, .bool false, .int .i64 0, .slice none 0 0, .slice none 0 0, .slice none 0 0, .int .i64 0, .int .i64 0, .string ⟨#[]⟩, .int .u64 0, .slice none 0 0, .slice none 0 0, .slice none 0 0, .slice none 0 0, .int .i64 0, .string ⟨#[]⟩, .string ⟨#[]⟩, .int .u64 0, .int .i64 0] 50)) := by (repeat (first | exact Below.refl _ _ | assumption | refine below_alloc2 ?_ (by first | exact Nat.le_refl _ | omega) _ | refine Below.drew ?_ | refine below_drewN ?_ _ | refine below_push2 ?_ ‹_› (by first | exact Nat.le_refl _ | omega) | refine Below.setCell ?_ (by first | (simp; done) | (simp; omega) | omega) _))
  have BX := (Blk.new w #[.int .i64 4, .int .i64 i, .int .u64 ver, .int .u64 word, c4, c5, c6, c7, c8, c9, c10, c11, c12, c13, c14, c15, c16, c17, c18, c19, c20, c21, c22, c23, c24, c25] 39).alloc (.cells #[.bool false, .int .u64 0, .int .u64 0, .int .i64 0, .int .i64 0, .string ⟨#[]⟩, .string ⟨#[]⟩, .bool false, .int .i64 0, .slice none 0 0, .slice none 0 0, .slice none 0 0, .int .i64 0, .int .i64 0, .string ⟨#[]⟩, .int .u64 0, .slice none 0 0, .slice none 0 0, .slice none 0 0, .slice none 0 0, .int .i64 0, .string ⟨#[]⟩, .string ⟨#[]⟩, .int .u64 0, .int .i64 0] 50)
  have BR : Blk ((w.alloc (.cells #[.int .i64 4, .int .i64 i, .int .u64 ver, .int .u64 word, c4, c5, c6, c7, c8, c9, c10, c11, c12, c13, c14, c15, c16, c17, c18, c19, c20, c21, c22, c23, c24, c25] 39)).alloc (.cells #[.bool false, .int .u64 0, .int .u64 0, .int .i64 0, .int .i64 0, .string ⟨#[]⟩, .string ⟨#[]⟩, .bool false, .int .i64 0, .slice none 0 0, .slice none 0 0, .slice none 0 0, .int .i64 0, .int .i64 0, .string ⟨#[]⟩, .int .u64 0, .slice none 0 0, .slice none 0 0, .slice none 0 0, .slice none 0 0, .int .i64 0, .string ⟨#[]⟩, .string ⟨#[]⟩, .int .u64 0, .int .i64 0] 50)) (w.heap.size + 1) #[.bool false, .int .u64 0, .int .u64 0, .int .i64 0, .int .i64 0, .string ⟨#[]⟩, .string ⟨#[]⟩, .bool false, .int .i64 0, .slice none 0 0, .slice none 0 0, .slice none 0 0, .int .i64 0, .int .i64 0, .string ⟨#[]⟩, .int .u64 0, .slice none 0 0, .slice none 0 0, .slice none 0 0, .slice none 0 0, .int .i64 0, .string ⟨#[]⟩, .string ⟨#[]⟩, .int .u64 0, .int .i64 0] 50 := by
    have := Blk.new (w.alloc (.cells #[.int .i64 4, .int .i64 i, .int .u64 ver, .int .u64 word, c4, c5, c6, c7, c8, c9, c10, c11, c12, c13, c14, c15, c16, c17, c18, c19, c20, c21, c22, c23, c24, c25] 39)) #[.bool false, .int .u64 0, .int .u64 0, .int .i64 0, .int .i64 0, .string ⟨#[]⟩, .string ⟨#[]⟩, .bool false, .int .i64 0, .slice none 0 0, .slice none 0 0, .slice none 0 0, .int .i64 0, .int .i64 0, .string ⟨#[]⟩, .int .u64 0, .slice none 0 0, .slice none 0 0, .slice none 0 0, .slice none 0 0, .int .i64 0, .string ⟨#[]⟩, .string ⟨#[]⟩, .int .u64 0, .int .i64 0] 50
    simpa using this
  have h2 := h.below hb2
  go_enter Try.func12, Try.ntmps12
  go_wp2_with fail
  generalize ((w.alloc (.cells #[.int .i64 4, .int .i64 i, .int .u64 ver, .int .u64 word, c4, c5, c6, c7, c8, c9, c10, c11, c12, c13, c14, c15, c16, c17, c18, c19, c20, c21, c22, c23, c24, c25] 39)).alloc (.cells #[.bool false, .int .u64 0, .int .u64 0, .int .i64 0, .int .i64 0, .string ⟨#[]⟩, .string ⟨#[]⟩, .bool false, .int .i64 0, .slice none 0 0, .slice none 0 0, .slice none 0 0, .int .i64 0, .int .i64 0, .string ⟨#[]⟩, .int .u64 0, .slice none 0 0, .slice none 0 0, .slice none 0 0, .slice none 0 0, .int .i64 0, .string ⟨#[]⟩, .string ⟨#[]⟩, .int .u64 0, .int .i64 0] 50)) = wq at hb2 h2 BX BR ⊢
  have hl2 : w.heap.size + 2 ≤ wq.heap.size := BR.lt
  refine (none_any _ h2).mono ?_
  rintro e w1 ⟨rfl, rfl⟩
  have b0 := BX.at 0 rfl
  have b3 := BX.at 3 rfl
  go_wp2_with fail
  refine (block_no word _ h2 x0 x1 hN).mono ?_
  rintro e w3 ⟨rfl, hb3⟩
  have hB3 := below_push2 hb2 hb3 (Nat.le_refl _)
  have BR3 := BR.below hb3
  clear h2 BX BR b0 b3 hb2 hb3
  have hth := there_blk' (o := 3) (n := 17) BR3 (by decide)
  have BF := blk_sets' bkZ.toList 3 _ _ BR3
  rw [sets_replyZ] at BF
  have hBF := below_sets' (b := w.heap.size + 1) (by omega) bkZ.toList 3 _ hB3
  generalize hX : w3.setCells (w.heap.size + 1) 3 bkZ.toList = wx at BF hBF
  replace hX := Lib.hid hX
  have f0 := BF.free 0
  have c0 := BF.at 0 rfl
  have BG := BF.set 0 (.bool false)
  simp only [List.setIfInBounds_toArray, List.set_cons_zero] at BG
  go_wp2_with (first
    | (refine wpList_store_mid rfl 35 _ _ rfl (w.heap.size + 1) 3 bkZ rfl rfl hth (by kernel_rfl) (by kernel_rfl) ?_; rw [hX.out])
    | (refine wpList_load_row rfl 50 _ rfl (w.heap.size + 1) rfl 50 _ (0, 0) _ BG.h Try.underlying50 rfl (by kernel_rfl) ?_)
    | (refine wpList_store_row rfl 50 _ _ rfl (w.heap.size + 1) _ rfl rfl 50 _ BG.h (by kernel_rfl) (by rfl) (by kernel_rfl) ?_))
  refine bodyPost_ret (results_cell_row rfl _ _ (w.heap.size + 1) 50 #[.bool false, .int .u64 0, .int .u64 0, .int .i64 0, .int .i64 0, .string ⟨#[]⟩, .string ⟨#[]⟩, .bool false, .int .i64 0, .slice none 0 0, .slice none 0 0, .slice none 0 0, .int .i64 0, .int .i64 0, .string ⟨#[]⟩, .int .u64 0, .slice none 0 0, .slice none 0 0, .slice none 0 0, .slice none 0 0, .int .i64 0, .string ⟨#[]⟩, .string ⟨#[]⟩, .int .u64 0, .int .i64 0] (0, 0) _ rfl (Blk.row BG #[.bool false, .int .u64 0, .int .u64 0, .int .i64 0, .int .i64 0, .string ⟨#[]⟩, .string ⟨#[]⟩, .bool false, .int .i64 0, .slice none 0 0, .slice none 0 0, .slice none 0 0, .int .i64 0, .int .i64 0, .string ⟨#[]⟩, .int .u64 0, .slice none 0 0, .slice none 0 0, .slice none 0 0, .slice none 0 0, .int .i64 0, .string ⟨#[]⟩, .string ⟨#[]⟩, .int .u64 0, .int .i64 0]).h Try.underlying50 rfl (by kernel_rfl)) rfl ⟨rfl, below_setRow (hBF.setCell (by show w.heap.size ≤ w.heap.size + 1; omega) _) (by omega) _⟩
theorem sets_size (vs : List Value) : ∀ (o : Nat) (cs : Array Value), (sets' cs o vs).size = cs.size := by
  induction vs with
  | nil => intro o cs; rfl
  | cons v r ih => intro o cs; simp [sets', ih]
theorem sets_off (vs : List Value) : ∀ (o : Nat) (cs : Array Value) (m : Nat), (m < o ∨ o + vs.length ≤ m) → (sets' cs o vs)[m]? = cs[m]? := by
  induction vs with
  | nil => intro o cs m h; rfl
  | cons v r ih =>
    intro o cs m h
    simp only [List.length_cons] at h
    rw [sets', ih (o + 1) _ m (by omega), Array.getElem?_setIfInBounds_ne (by omega)]
theorem sets_at (vs : List Value) : ∀ (o : Nat) (cs : Array Value) (j : Nat), j < vs.length → o + vs.length ≤ cs.size → (sets' cs o vs)[o + j]? = vs[j]? := by
  induction vs with
  | nil => intro o cs j h; simp at h
  | cons v r ih =>
    intro o cs j h hs
    simp only [List.length_cons] at h hs
    cases j with
    | zero =>
      rw [sets', sets_off r (o + 1) _ (o + 0) (.inl (by omega)), Nat.add_zero, Array.getElem?_setIfInBounds_self_of_lt (by omega)]
      rfl
    | succ j =>
      have := ih (o + 1) (cs.setIfInBounds o v) j (by omega) (by simp; omega)
      rw [sets', show o + (j + 1) = o + 1 + j by omega, this]
      simp
/-- a block of a row of blocks was written -/
theorem sets_raw (bs : List (List Value)) (k : Nat) (vs : List Value) (hk : k < bs.length) (hv : vs.length = 17) : sets' (rawA 17 bs) (k * 17) vs = rawA 17 (bs.set k vs) := by
  have hs : (rawA 17 bs).size = bs.length * 17 := recA_size _ _ _ _
  have hle : k * 17 + 17 ≤ bs.length * 17 := by omega
  refine recA_set k vs hk (by rw [sets_size, hs]) (fun j hj => ?_) (fun i' j hne hi' hj => ?_)
  · rw [sets_at vs _ _ j (by omega) (by rw [hs, hv]; exact hle)]
    have : j < vs.length := by omega
    simp [rawF, List.getD, this]
  · exact sets_off vs _ _ _ (by rw [hv]; omega)
theorem MemAt.putAt {w : World} {o oc g gb gr A T : Nat} {L : List (Int × Int)} {bs rs : List (List Value)} (h : MemAt w o oc g gb gr A T L bs rs) (k : Nat) (hk : k < A) (vs : List Value) (hv : vs.length = 17) :
    MemAt (w.setCells gb (k * 17) vs) o oc g gb gr A T L (bs.set k vs) rs := by
  have F := fr_sets' (S := [gb]) (b := gb) (by simp) vs (k * 17) w
  have hB := blk_sets' vs (k * 17) _ _ h.blocks
  rw [sets_raw bs k vs (by rw [h.lb]; exact hk) hv] at hB
  have n := h.ne
  exact ⟨F.blk h.head (by simp; omega), ⟨F.blk h.cells.head (by simp; omega), F.blk h.cells.rows (by simp; omega), h.cells.ne, h.cells.rng, h.cells.len⟩, hB, F.blk h.records (by simp; omega), h.len, by simpa using h.lb, h.lr, h.a1, h.t1, h.ne⟩
end Go.Proofs.Ytpempcefgfmniaa.MemP

/-
  Do of what puts a block: contracts.
-/
namespace Go.Proofs.Ytpempcefgfmniaa.MemP
open Go.RowKit RefP CellP Dp
set_option linter.unusedVariables false
set_option linter.unusedSimpArgs false
/-- an access' cells, with a block -/
abbrev putA (i ver word : Int) (h : BlockH) (x : BlockV) (c21 c22 c23 c24 c25 : Value) : Array Value := #[.int .i64 5, .int .i64 i, .int .u64 ver, .int .u64 word, .int .i64 x.kind, .int .i64 x.node.level, .string x.node.low, .string x.node.high, .bool x.node.last, .int .i64 x.node.next, .slice h.node.keys.a x.node.keys.length h.node.keys.c, .slice h.node.vals.a x.node.vals.length h.node.vals.c, .slice h.node.kids.a x.node.kids.length h.node.kids.c, .int .i64 x.plan.thread, .int .i64 x.plan.ans.code, .string x.plan.ans.key, .int .u64 x.plan.ans.val, .slice h.plan.pairs.a x.plan.ans.pairs.length h.plan.pairs.c, .slice h.plan.steps.a x.plan.steps.length h.plan.steps.c, .slice h.plan.extra.a x.plan.extra.length h.plan.extra.c, .slice h.pairs.a x.pairs.length h.pairs.c, c21, c22, c23, c24, c25]
set_option maxRecDepth 100000 in
set_option maxHeartbeats 3200000 in
theorem do_put_yes {o oc g gb gr A T : Nat} {L : List (Int × Int)} {bs rs : List (List Value)} (i ver word : Int) (c21 c22 c23 c24 c25 : Value) (k : Nat) (S : List Nat) (q : BlockH) (b : BlockV) (w : World) (h : MemAt w o oc g gb gr A T L bs rs) (x0 : 0 ≤ word) (x1 : word ≤ 18446744073709551615) (hN : nameB A T L word = true) (hi : k < A) (hp : nameP A word = (k : Int)) (H : BlockOk w S q b) (hf : Few b) :
    Calls Try.prog 12 #[.pointer (some ⟨o, 0, none⟩), .agg (putA i ver word q b c21 c22 c23 c24 c25)] w fun e w' => e = .returned (.agg #[.bool true, .int .u64 0, .int .u64 0, .int .i64 0, .int .i64 0, .string ⟨#[]⟩, .string ⟨#[]⟩, .bool false, .int .i64 0, .slice none 0 0, .slice none 0 0, .slice none 0 0, .int .i64 0, .int .i64 0, .string ⟨#[]⟩, .int .u64 0, .slice none 0 0, .slice none 0 0, .slice none 0 0, .slice none 0 0, .int .i64 0, .string ⟨#[]⟩, .string ⟨#[]⟩, .int .u64 0, .int .i64 0]) ∧ (∃ q', MemAt w' o oc g gb gr A T L (bs.set k (blockA q' b).toList) rs ∧ BlockOk w' (List.range w.heap.size) q' b) ∧ Fr [gb] w w' := by
  have hb2 : Below w.heap.size w ((w.alloc (.cells (putA i ver word q b c21 c22 c23 c24 c25) 39)).alloc (.cells #[.bool false, .int .u64 0, .int .u64 0, .int .i64 0, .int .i64 0, .string ⟨#[]⟩, .string ⟨#[]⟩, .bool false, .int .i64 0, .slice none 0 0, .slice none 0 0, .slice none 0 0, .int .i64 0, .int .i64 0, .string ⟨#[]⟩, .int .u64 0, .slice none 0 0, .slice none 0 0, .slice none 0 0, .slice none 0 0, .int .i64 0, .string ⟨#[]⟩, .string ⟨#[]⟩, .int .u64 0, .int .i64 0] 50)) := by (repeat (first | exact Below.refl _ _ | assumption | refine below_alloc2 ?_ (by first | exact Nat.le_refl _ | omega) _ | refine Below.drew ?_ | refine below_drewN ?_ _ | refine below_push2 ?_ ‹_› (by first | exact Nat.le_refl _ | omega) | refine Below.setCell ?_ (by first | (simp; done) | (simp; omega) | omega) _))
  have BX := (Blk.new w (putA i ver word q b c21 c22 c23 c24 c25) 39).alloc (.cells #[.bool false, .int .u64 0, .int .u64 0, .int .i64 0, .int .i64 0, .string ⟨#[]⟩, .string ⟨#[]⟩, .bool false, .int .i64 0, .slice none 0 0, .slice none 0 0, .slice none 0 0, .int .i64 0, .int .i64 0, .string ⟨#[]⟩, .int .u64 0, .slice none 0 0, .slice none 0 0, .slice none 0 0, .slice none 0 0, .int .i64 0, .string ⟨#[]⟩, .string ⟨#[]⟩, .int .u64 0, .int .i64 0] 50)
  have BR : Blk ((w.alloc (.cells (putA i ver word q b c21 c22 c23 c24 c25) 39)).alloc (.cells #[.bool false, .int .u64 0, .int .u64 0, .int .i64 0, .int .i64 0, .string ⟨#[]⟩, .string ⟨#[]⟩, .bool false, .int .i64 0, .slice none 0 0, .slice none 0 0, .slice none 0 0, .int .i64 0, .int .i64 0, .string ⟨#[]⟩, .int .u64 0, .slice none 0 0, .slice none 0 0, .slice none 0 0, .slice none 0 0, .int .i64 0, .string ⟨#[]⟩, .string ⟨#[]⟩, .int .u64 0, .int .i64 0] 50)) (w.heap.size + 1) #[.bool false, .int .u64 0, .int .u64 0, .int .i64 0, .int .i64 0, .string ⟨#[]⟩, .string ⟨#[]⟩, .bool false, .int .i64 0, .slice none 0 0, .slice none 0 0, .slice none 0 0, .int .i64 0, .int .i64 0, .string ⟨#[]⟩, .int .u64 0, .slice none 0 0, .slice none 0 0, .slice none 0 0, .slice none 0 0, .int .i64 0, .string ⟨#[]⟩, .string ⟨#[]⟩, .int .u64 0, .int .i64 0] 50 := by
    have := Blk.new (w.alloc (.cells (putA i ver word q b c21 c22 c23 c24 c25) 39)) #[.bool false, .int .u64 0, .int .u64 0, .int .i64 0, .int .i64 0, .string ⟨#[]⟩, .string ⟨#[]⟩, .bool false, .int .i64 0, .slice none 0 0, .slice none 0 0, .slice none 0 0, .int .i64 0, .int .i64 0, .string ⟨#[]⟩, .int .u64 0, .slice none 0 0, .slice none 0 0, .slice none 0 0, .slice none 0 0, .int .i64 0, .string ⟨#[]⟩, .string ⟨#[]⟩, .int .u64 0, .int .i64 0] 50
    simpa using this
  have h2 := h.below hb2
  go_enter Try.func12, Try.ntmps12
  go_wp2_with fail
  generalize ((w.alloc (.cells (putA i ver word q b c21 c22 c23 c24 c25) 39)).alloc (.cells #[.bool false, .int .u64 0, .int .u64 0, .int .i64 0, .int .i64 0, .string ⟨#[]⟩, .string ⟨#[]⟩, .bool false, .int .i64 0, .slice none 0 0, .slice none 0 0, .slice none 0 0, .int .i64 0, .int .i64 0, .string ⟨#[]⟩, .int .u64 0, .slice none 0 0, .slice none 0 0, .slice none 0 0, .slice none 0 0, .int .i64 0, .string ⟨#[]⟩, .string ⟨#[]⟩, .int .u64 0, .int .i64 0] 50)) = wq at hb2 h2 BX BR ⊢
  have hl2 : w.heap.size + 2 ≤ wq.heap.size := BR.lt
  refine (none_any _ h2).mono ?_
  rintro e w1 ⟨rfl, rfl⟩
  have b0 := BX.at 0 rfl
  have b3 := BX.at 3 rfl
  go_wp2_with fail
  refine (named_any word _ h2 x0 x1).mono ?_
  rw [hN, hp]
  rintro e w3 ⟨rfl, hb3⟩
  have hB3 := below_push2 hb2 hb3 (Nat.le_refl _)
  have BR3 := BR.below hb3
  have BX3 := BX.below hb3
  have h3 := h2.below hb3
  have hl3 := hb3.size
  have hi' : (k : Int) < (A : Int) := by omega
  clear h2 BX BR b0 b3 hb2 hb3
  have d9 : w3.cell? ⟨o, 9, none⟩ = some (.slice (some ⟨gb, 0, none⟩) A A) := h3.head.at 9 rfl
  go_upto_region 14 with (fail)
  refine wp_region_held_drew (S := fun w' => w'.cell? ⟨o, 9, none⟩ = some (.slice (some ⟨gb, 0, none⟩) A A) ∧ w'.cell? ⟨w.heap.size, 4, none⟩ = some (.int .i64 b.kind) ∧ w'.cell? ⟨w.heap.size, 5, none⟩ = some (.int .i64 b.node.level) ∧ w'.cell? ⟨w.heap.size, 6, none⟩ = some (.string b.node.low) ∧ w'.cell? ⟨w.heap.size, 7, none⟩ = some (.string b.node.high) ∧ w'.cell? ⟨w.heap.size, 8, none⟩ = some (.bool b.node.last) ∧ w'.cell? ⟨w.heap.size, 9, none⟩ = some (.int .i64 b.node.next) ∧ w'.cell? ⟨w.heap.size, 10, none⟩ = some (.slice q.node.keys.a b.node.keys.length q.node.keys.c) ∧ w'.cell? ⟨w.heap.size, 11, none⟩ = some (.slice q.node.vals.a b.node.vals.length q.node.vals.c) ∧ w'.cell? ⟨w.heap.size, 12, none⟩ = some (.slice q.node.kids.a b.node.kids.length q.node.kids.c) ∧ w'.cell? ⟨w.heap.size, 13, none⟩ = some (.int .i64 b.plan.thread) ∧ w'.cell? ⟨w.heap.size, 14, none⟩ = some (.int .i64 b.plan.ans.code) ∧ w'.cell? ⟨w.heap.size, 15, none⟩ = some (.string b.plan.ans.key) ∧ w'.cell? ⟨w.heap.size, 16, none⟩ = some (.int .u64 b.plan.ans.val) ∧ w'.cell? ⟨w.heap.size, 17, none⟩ = some (.slice q.plan.pairs.a b.plan.ans.pairs.length q.plan.pairs.c) ∧ w'.cell? ⟨w.heap.size, 18, none⟩ = some (.slice q.plan.steps.a b.plan.steps.length q.plan.steps.c) ∧ w'.cell? ⟨w.heap.size, 19, none⟩ = some (.slice q.plan.extra.a b.plan.extra.length q.plan.extra.c) ∧ w'.cell? ⟨w.heap.size, 20, none⟩ = some (.slice q.pairs.a b.pairs.length q.pairs.c)) (by kernel_rfl) ?_ (fun hHeld => ?_)
  · exact ⟨h3.head.drew.at 9 rfl, BX3.drew.at 4 rfl, BX3.drew.at 5 rfl, BX3.drew.at 6 rfl, BX3.drew.at 7 rfl, BX3.drew.at 8 rfl, BX3.drew.at 9 rfl, BX3.drew.at 10 rfl, BX3.drew.at 11 rfl, BX3.drew.at 12 rfl, BX3.drew.at 13 rfl, BX3.drew.at 14 rfl, BX3.drew.at 15 rfl, BX3.drew.at 16 rfl, BX3.drew.at 17 rfl, BX3.drew.at 18 rfl, BX3.drew.at 19 rfl, BX3.drew.at 20 rfl⟩
  refine wpAnyH_take (i := 0) (oi := ⟨_, _, _, _, _, _⟩) (v := ?_) rfl (by kernel_rfl) (by kernel_rfl) (by kernel_rfl) (fun _ _ _ h => h) (Or.inl ⟨by rfl, ?_⟩) (by assumption) ?_
  rotate_left
  · intro wS hSw
    try dsimp only at hSw
    go_simp
    try with_reducible rfl
  try simp only [Act.put, List.setIfInBounds_toArray, List.set_cons_zero, List.set_cons_succ]
  refine wpAnyH_take (i := 1) (oi := ⟨_, _, _, _, _, _⟩) (v := ?_) rfl (by kernel_rfl) (by kernel_rfl) (by kernel_rfl) (fun _ _ _ h => h) (Or.inl ⟨by rfl, ?_⟩) (by assumption) ?_
  rotate_left
  · intro wS hSw
    try dsimp only at hSw
    go_simp
    try with_reducible rfl
  try simp only [Act.put, List.setIfInBounds_toArray, List.set_cons_zero, List.set_cons_succ]
  refine wpAnyH_take (i := 2) (oi := ⟨_, _, _, _, _, _⟩) (v := ?_) rfl (by kernel_rfl) (by kernel_rfl) (by kernel_rfl) (fun _ _ _ h => h) (Or.inl ⟨by rfl, ?_⟩) (by assumption) ?_
  rotate_left
  · intro wS hSw
    try dsimp only at hSw
    go_simp
    try with_reducible rfl
  try simp only [Act.put, List.setIfInBounds_toArray, List.set_cons_zero, List.set_cons_succ]
  refine wpAnyH_take (i := 3) (oi := ⟨_, _, _, _, _, _⟩) (v := ?_) rfl (by kernel_rfl) (by kernel_rfl) (by kernel_rfl) (fun _ _ _ h => h) (Or.inl ⟨by rfl, ?_⟩) (by assumption) ?_
  rotate_left
  · intro wS hSw
    try dsimp only at hSw
    go_simp
    try with_reducible rfl
  try simp only [Act.put, List.setIfInBounds_toArray, List.set_cons_zero, List.set_cons_succ]
  refine wpAnyH_take (i := 4) (oi := ⟨_, _, _, _, _, _⟩) (v := ?_) rfl (by kernel_rfl) (by kernel_rfl) (by kernel_rfl) (fun _ _ _ h => h) (Or.inl ⟨by rfl, ?_⟩) (by assumption) ?_
  rotate_left
  · intro wS hSw
    try dsimp only at hSw
    go_simp
    try with_reducible rfl
  try simp only [Act.put, List.setIfInBounds_toArray, List.set_cons_zero, List.set_cons_succ]
  refine wpAnyH_take (i := 5) (oi := ⟨_, _, _, _, _, _⟩) (v := ?_) rfl (by kernel_rfl) (by kernel_rfl) (by kernel_rfl) (fun _ _ _ h => h) (Or.inl ⟨by rfl, ?_⟩) (by assumption) ?_
  rotate_left
  · intro wS hSw
    try dsimp only at hSw
    go_simp
    try with_reducible rfl
  try simp only [Act.put, List.setIfInBounds_toArray, List.set_cons_zero, List.set_cons_succ]
  refine wpAnyH_take (i := 6) (oi := ⟨_, _, _, _, _, _⟩) (v := ?_) rfl (by kernel_rfl) (by kernel_rfl) (by kernel_rfl) (fun _ _ _ h => h) (Or.inl ⟨by rfl, ?_⟩) (by assumption) ?_
  rotate_left
  · intro wS hSw
    try dsimp only at hSw
    go_simp
    try with_reducible rfl
  try simp only [Act.put, List.setIfInBounds_toArray, List.set_cons_zero, List.set_cons_succ]
  refine wpAnyH_ready (rs := [7]) (by kernel_rfl) (by simp) ?_
  refine AllReadyH.cons rfl (fun K hK => ?_) AllReadyH.nil
  go_simp
  have hn := h.ne
  have hgbl := h.blocks.lt
  have hdB := hB3.drew
  have hd3 : w.heap.size + 2 ≤ w3.drew.heap.size := Nat.le_trans hl2 hl3
  refine (show Calls _ _ _ _ _ from copied_any S q b w3.drew (H.keep (Keeps.of_below hdB)) hf).mono ?_
  rintro e w4 ⟨⟨q', rfl, H4⟩, hb4⟩
  replace H4 := H4.more (S' := List.range (w.heap.size + 2)) (range_sub hd3)
  have hB4 := below_push2 hdB hb4 (Nat.le_refl _)
  have h4 := (h3.below (Below.refl _ _).drew).below hb4
  have BX4 := BX3.drew.below hb4
  have BR4 := BR3.drew.below hb4
  refine hK.out _ _ ?_ (fun hHeld => ?_)
  · exact ⟨h4.head.at 9 rfl, BX4.at 4 rfl, BX4.at 5 rfl, BX4.at 6 rfl, BX4.at 7 rfl, BX4.at 8 rfl, BX4.at 9 rfl, BX4.at 10 rfl, BX4.at 11 rfl, BX4.at 12 rfl, BX4.at 13 rfl, BX4.at 14 rfl, BX4.at 15 rfl, BX4.at 16 rfl, BX4.at 17 rfl, BX4.at 18 rfl, BX4.at 19 rfl, BX4.at 20 rfl⟩
  clear hK K hb4 hdB hd3 h3 BX3 BR3 d9
  refine wpAnyH_take (i := 8) (oi := ⟨_, _, _, _, _, _⟩) (v := ?_) rfl (by kernel_rfl) (by kernel_rfl) (by kernel_rfl) (fun _ _ _ h => h) (Or.inl ⟨by rfl, ?_⟩) (by assumption) ?_
  rotate_left
  · intro wS hSw
    try dsimp only at hSw
    go_simp
    try with_reducible rfl
  try simp only [Act.put, List.setIfInBounds_toArray, List.set_cons_zero, List.set_cons_succ]
  have hth := there_blk' (o := k * 17) (n := 17) h4.blocks (by rw [recA_size, h4.lb]; omega)
  have h5 := h4.putAt k hi (blockA q' b).toList rfl
  have F5 := fr_sets' (S := [gb]) (b := gb) (by simp) (blockA q' b).toList (k * 17) w4
  have BX5 := F5.blk BX4 (by simp; omega)
  have BR5 := F5.blk BR4 (by simp; omega)
  have H5 := H4.keep (F5.keeps.more (S' := List.range (w.heap.size + 2)) (by simp; omega))
  have F5' : Fr [gb] w (w4.setCells gb (k * 17) (blockA q' b).toList) := (Fr.of_below hB4).trans F5
  refine wpAnyH_ready (rs := [9]) (by kernel_rfl) (by simp) ?_
  refine AllReadyH.cons rfl (fun K hK => ?_) AllReadyH.nil
  rw [if_pos (by rfl)]
  refine wp_store_mid 35 _ _ rfl gb (k * 17) (blockA q' b) rfl rfl hth (by kernel_rfl) (by kernel_rfl) ?_
  refine hK.out _ _ ?_ (fun hHeld => ?_)
  · exact ⟨h5.head.at 9 rfl, BX5.at 4 rfl, BX5.at 5 rfl, BX5.at 6 rfl, BX5.at 7 rfl, BX5.at 8 rfl, BX5.at 9 rfl, BX5.at 10 rfl, BX5.at 11 rfl, BX5.at 12 rfl, BX5.at 13 rfl, BX5.at 14 rfl, BX5.at 15 rfl, BX5.at 16 rfl, BX5.at 17 rfl, BX5.at 18 rfl, BX5.at 19 rfl, BX5.at 20 rfl⟩
  clear hK K hth
  generalize w4.setCells gb (k * 17) (blockA q' b).toList = w5 at h5 F5 BX5 BR5 H5 F5' ⊢ hHeld
  refine wpAnyH_take (i := 10) (oi := ⟨_, _, _, _, _, _⟩) (v := ?_) rfl (by kernel_rfl) (by kernel_rfl) (by kernel_rfl) (fun _ _ _ h => h) (Or.inl ⟨by rfl, ?_⟩) (by assumption) ?_
  rotate_left
  · intro wS hSw
    try dsimp only at hSw
    go_simp
    try with_reducible rfl
  try simp only [Act.put, List.setIfInBounds_toArray, List.set_cons_zero, List.set_cons_succ]
  have c0 := BR5.at 0 rfl
  have f0 := BR5.free 0
  refine wpAnyH_ready (rs := [11]) (by kernel_rfl) (by simp) ?_
  refine AllReadyH.cons rfl (fun K hK => ?_) AllReadyH.nil
  go_simp
  have BX6 := BX5.far ⟨w.heap.size + 1, 0, none⟩ (.bool true) (by simp)
  have BR6 := BR5.set 0 (.bool true)
  simp only [List.setIfInBounds_toArray, List.set_cons_zero] at BR6
  have F6 : Fr [gb, w.heap.size + 1] w (w5.setCell ⟨w.heap.size + 1, 0, none⟩ (.bool true)) := (F5'.more (by simp)).set _ _ (.inl (by simp))
  have h6 := h5.off (Fr.set (S := [w.heap.size + 1]) (Fr.refl _ w5) ⟨w.heap.size + 1, 0, none⟩ (.bool true) (.inl (by simp))) (by have := h.head.lt; have := h.cells.head.lt; have := h.cells.rows.lt; have := h.records.lt; simp; omega)
  have H6 := H5.keep (Keeps.set (S := List.range (w.heap.size + 2)) (w := w5) ⟨w.heap.size + 1, 0, none⟩ (.bool true) (by simp))
  refine hK.out _ _ ?_ (fun hHeld => ?_)
  · exact ⟨h6.head.at 9 rfl, BX6.at 4 rfl, BX6.at 5 rfl, BX6.at 6 rfl, BX6.at 7 rfl, BX6.at 8 rfl, BX6.at 9 rfl, BX6.at 10 rfl, BX6.at 11 rfl, BX6.at 12 rfl, BX6.at 13 rfl, BX6.at 14 rfl, BX6.at 15 rfl, BX6.at 16 rfl, BX6.at 17 rfl, BX6.at 18 rfl, BX6.at 19 rfl, BX6.at 20 rfl⟩
  clear hK K
  refine wpAnyH_done (by kernel_rfl) ?_ _
  go_wp2_with (first
    | (refine wpList_load_row rfl 50 _ rfl (w.heap.size + 1) rfl 50 _ (0, 0) _ BR6.h Try.underlying50 rfl (by kernel_rfl) ?_)
    | (refine wpList_store_row rfl 50 _ _ rfl (w.heap.size + 1) _ rfl rfl 50 _ BR6.h (by kernel_rfl) (by rfl) (by kernel_rfl) ?_))
  refine bodyPost_ret (results_cell_row rfl _ _ (w.heap.size + 1) 50 #[.bool true, .int .u64 0, .int .u64 0, .int .i64 0, .int .i64 0, .string ⟨#[]⟩, .string ⟨#[]⟩, .bool false, .int .i64 0, .slice none 0 0, .slice none 0 0, .slice none 0 0, .int .i64 0, .int .i64 0, .string ⟨#[]⟩, .int .u64 0, .slice none 0 0, .slice none 0 0, .slice none 0 0, .slice none 0 0, .int .i64 0, .string ⟨#[]⟩, .string ⟨#[]⟩, .int .u64 0, .int .i64 0] (0, 0) _ rfl (Blk.row BR6 #[.bool true, .int .u64 0, .int .u64 0, .int .i64 0, .int .i64 0, .string ⟨#[]⟩, .string ⟨#[]⟩, .bool false, .int .i64 0, .slice none 0 0, .slice none 0 0, .slice none 0 0, .int .i64 0, .int .i64 0, .string ⟨#[]⟩, .int .u64 0, .slice none 0 0, .slice none 0 0, .slice none 0 0, .slice none 0 0, .int .i64 0, .string ⟨#[]⟩, .string ⟨#[]⟩, .int .u64 0, .int .i64 0]).h Try.underlying50 rfl (by kernel_rfl)) rfl ⟨rfl, ⟨q', ?_, ?_⟩, ?_⟩
  · exact h6.off (Fr.row (S := [w.heap.size + 1]) _ _ (by simp)) (by have := h.head.lt; have := h.cells.head.lt; have := h.cells.rows.lt; have := h.records.lt; simp; omega)
  · exact (H6.keep (Fr.row (S := List.range (w.heap.size + 2)) (w.heap.size + 1) _ (by simp)).keeps).more (range_sub (by omega))
  · have F7 := F6.trans (Fr.row (S := [gb, w.heap.size + 1]) (w.heap.size + 1) #[.bool true, .int .u64 0, .int .u64 0, .int .i64 0, .int .i64 0, .string ⟨#[]⟩, .string ⟨#[]⟩, .bool false, .int .i64 0, .slice none 0 0, .slice none 0 0, .slice none 0 0, .int .i64 0, .int .i64 0, .string ⟨#[]⟩, .int .u64 0, .slice none 0 0, .slice none 0 0, .slice none 0 0, .slice none 0 0, .int .i64 0, .string ⟨#[]⟩, .string ⟨#[]⟩, .int .u64 0, .int .i64 0] (by simp))
    exact ⟨F7.os, F7.tape, F7.output, F7.size, fun c hc hn' => F7.block c hc (by simp at hn' ⊢; omega)⟩
set_option maxRecDepth 100000 in
set_option maxHeartbeats 3200000 in
theorem do_put_no {o oc g gb gr A T : Nat} {L : List (Int × Int)} {bs rs : List (List Value)} (i ver word : Int) (c21 c22 c23 c24 c25 : Value) (q : BlockH) (b : BlockV) (w : World) (h : MemAt w o oc g gb gr A T L bs rs) (x0 : 0 ≤ word) (x1 : word ≤ 18446744073709551615) (hN : nameB A T L word = false) :
    Calls Try.prog 12 #[.pointer (some ⟨o, 0, none⟩), .agg (putA i ver word q b c21 c22 c23 c24 c25)] w fun e w' => e = .returned (.agg #[.bool false, .int .u64 0, .int .u64 0, .int .i64 0, .int .i64 0, .string ⟨#[]⟩, .string ⟨#[]⟩, .bool false, .int .i64 0, .slice none 0 0, .slice none 0 0, .slice none 0 0, .int .i64 0, .int .i64 0, .string ⟨#[]⟩, .int .u64 0, .slice none 0 0, .slice none 0 0, .slice none 0 0, .slice none 0 0, .int .i64 0, .string ⟨#[]⟩, .string ⟨#[]⟩, .int .u64 0, .int .i64 0]) ∧ Below w.heap.size w w' := by
  have hb2 : Below w.heap.size w ((w.alloc (.cells (putA i ver word q b c21 c22 c23 c24 c25) 39)).alloc (.cells #[.bool false, .int .u64 0, .int .u64 0, .int .i64 0, .int .i64 0, .string ⟨#[]⟩, .string ⟨#[]⟩, .bool false, .int .i64 0, .slice none 0 0, .slice none 0 0, .slice none 0 0, .int .i64 0, .int .i64 0, .string ⟨#[]⟩, .int .u64 0, .slice none 0 0, .slice none 0 0, .slice none 0 0, .slice none 0 0, .int .i64 0, .string ⟨#[]⟩, .string ⟨#[]⟩, .int .u64 0, .int .i64 0] 50)) := by (repeat (first | exact Below.refl _ _ | assumption | refine below_alloc2 ?_ (by first | exact Nat.le_refl _ | omega) _ | refine Below.drew ?_ | refine below_drewN ?_ _ | refine below_push2 ?_ ‹_› (by first | exact Nat.le_refl _ | omega) | refine Below.setCell ?_ (by first | (simp; done) | (simp; omega) | omega) _))
  have BX := (Blk.new w (putA i ver word q b c21 c22 c23 c24 c25) 39).alloc (.cells #[.bool false, .int .u64 0, .int .u64 0, .int .i64 0, .int .i64 0, .string ⟨#[]⟩, .string ⟨#[]⟩, .bool false, .int .i64 0, .slice none 0 0, .slice none 0 0, .slice none 0 0, .int .i64 0, .int .i64 0, .string ⟨#[]⟩, .int .u64 0, .slice none 0 0, .slice none 0 0, .slice none 0 0, .slice none 0 0, .int .i64 0, .string ⟨#[]⟩, .string ⟨#[]⟩, .int .u64 0, .int .i64 0] 50)
  have BR : Blk ((w.alloc (.cells (putA i ver word q b c21 c22 c23 c24 c25) 39)).alloc (.cells #[.bool false, .int .u64 0, .int .u64 0, .int .i64 0, .int .i64 0, .string ⟨#[]⟩, .string ⟨#[]⟩, .bool false, .int .i64 0, .slice none 0 0, .slice none 0 0, .slice none 0 0, .int .i64 0, .int .i64 0, .string ⟨#[]⟩, .int .u64 0, .slice none 0 0, .slice none 0 0, .slice none 0 0, .slice none 0 0, .int .i64 0, .string ⟨#[]⟩, .string ⟨#[]⟩, .int .u64 0, .int .i64 0] 50)) (w.heap.size + 1) #[.bool false, .int .u64 0, .int .u64 0, .int .i64 0, .int .i64 0, .string ⟨#[]⟩, .string ⟨#[]⟩, .bool false, .int .i64 0, .slice none 0 0, .slice none 0 0, .slice none 0 0, .int .i64 0, .int .i64 0, .string ⟨#[]⟩, .int .u64 0, .slice none 0 0, .slice none 0 0, .slice none 0 0, .slice none 0 0, .int .i64 0, .string ⟨#[]⟩, .string ⟨#[]⟩, .int .u64 0, .int .i64 0] 50 := by
    have := Blk.new (w.alloc (.cells (putA i ver word q b c21 c22 c23 c24 c25) 39)) #[.bool false, .int .u64 0, .int .u64 0, .int .i64 0, .int .i64 0, .string ⟨#[]⟩, .string ⟨#[]⟩, .bool false, .int .i64 0, .slice none 0 0, .slice none 0 0, .slice none 0 0, .int .i64 0, .int .i64 0, .string ⟨#[]⟩, .int .u64 0, .slice none 0 0, .slice none 0 0, .slice none 0 0, .slice none 0 0, .int .i64 0, .string ⟨#[]⟩, .string ⟨#[]⟩, .int .u64 0, .int .i64 0] 50
    simpa using this
  have h2 := h.below hb2
  go_enter Try.func12, Try.ntmps12
  go_wp2_with fail
  generalize ((w.alloc (.cells (putA i ver word q b c21 c22 c23 c24 c25) 39)).alloc (.cells #[.bool false, .int .u64 0, .int .u64 0, .int .i64 0, .int .i64 0, .string ⟨#[]⟩, .string ⟨#[]⟩, .bool false, .int .i64 0, .slice none 0 0, .slice none 0 0, .slice none 0 0, .int .i64 0, .int .i64 0, .string ⟨#[]⟩, .int .u64 0, .slice none 0 0, .slice none 0 0, .slice none 0 0, .slice none 0 0, .int .i64 0, .string ⟨#[]⟩, .string ⟨#[]⟩, .int .u64 0, .int .i64 0] 50)) = wq at hb2 h2 BX BR ⊢
  have hl2 : w.heap.size + 2 ≤ wq.heap.size := BR.lt
  refine (none_any _ h2).mono ?_
  rintro e w1 ⟨rfl, rfl⟩
  have b0 := BX.at 0 rfl
  have b3 := BX.at 3 rfl
  go_wp2_with fail
  refine (named_any word _ h2 x0 x1).mono ?_
  rw [hN]
  rintro e w3 ⟨rfl, hb3⟩
  have hB3 := below_push2 hb2 hb3 (Nat.le_refl _)
  have BR3 := BR.below hb3
  go_wp2_with (first
    | (refine wpList_load_row rfl 50 _ rfl (w.heap.size + 1) rfl 50 _ (0, 0) _ BR3.h Try.underlying50 rfl (by kernel_rfl) ?_)
    | (refine wpList_store_row rfl 50 _ _ rfl (w.heap.size + 1) _ rfl rfl 50 _ BR3.h (by kernel_rfl) (by rfl) (by kernel_rfl) ?_))
  refine bodyPost_ret (results_cell_row rfl _ _ (w.heap.size + 1) 50 #[.bool false, .int .u64 0, .int .u64 0, .int .i64 0, .int .i64 0, .string ⟨#[]⟩, .string ⟨#[]⟩, .bool false, .int .i64 0, .slice none 0 0, .slice none 0 0, .slice none 0 0, .int .i64 0, .int .i64 0, .string ⟨#[]⟩, .int .u64 0, .slice none 0 0, .slice none 0 0, .slice none 0 0, .slice none 0 0, .int .i64 0, .string ⟨#[]⟩, .string ⟨#[]⟩, .int .u64 0, .int .i64 0] (0, 0) _ rfl (Blk.row BR3 #[.bool false, .int .u64 0, .int .u64 0, .int .i64 0, .int .i64 0, .string ⟨#[]⟩, .string ⟨#[]⟩, .bool false, .int .i64 0, .slice none 0 0, .slice none 0 0, .slice none 0 0, .int .i64 0, .int .i64 0, .string ⟨#[]⟩, .int .u64 0, .slice none 0 0, .slice none 0 0, .slice none 0 0, .slice none 0 0, .int .i64 0, .string ⟨#[]⟩, .string ⟨#[]⟩, .int .u64 0, .int .i64 0]).h Try.underlying50 rfl (by kernel_rfl)) rfl ⟨rfl, below_setRow hB3 (by omega) _⟩
end Go.Proofs.Ytpempcefgfmniaa.MemP

/-
  A struct of many cells, loaded in a region that draws its order and whose calls make memory: one step, whatever its number of cells.
-/
namespace Go.Proofs.Ytpempcefgfmniaa.QuietRow
open Go.Sort Go.RowKit
theorem quiet_load_mid {P : Program} {C : World → Prop} {K : Act → Prop} {op : Oper} {a : Act} (ty : TypeId) (x : Operand) (ho : op.op = .load ty x)
    (b o : Nat) (hx : a.eval x = .pointer (some ⟨b, o, none⟩)) (cs : List Value) (d : TypeDesc) (hc : ∀ w, C w → w.rangeAt b o cs)
    (hu : P.underlying ty = some d) (hd : d.isRow = true) (hi : (P.info? ty).map (·.size) = some cs.length)
    (h : K (a.put op.dst (.agg cs.toArray))) : op.quiet P a C K :=
  ⟨_, fun w hw => by
    unfold Oper.quietAt execOp
    simp only [ho, hx, Instr.loadAt, Instr.sureAddr, Sem.run_bind, Sem.run_pure, Result.andThen_ok, run_loadVar_mid w b o ty cs d (hc w hw) hu hd hi]
    exact ⟨rfl, rfl⟩, h⟩
theorem quiet_load_arr {P : Program} {C : World → Prop} {K : Act → Prop} {op : Oper} {a : Act} (ty : TypeId) (x : Operand) (ho : op.op = .load ty x)
    (b o : Nat) (hx : a.eval x = .pointer (some ⟨b, o, none⟩)) (cs : Array Value) (d : TypeDesc) (hc : ∀ w, C w → w.rangeAt b o cs.toList)
    (hu : P.underlying ty = some d) (hd : d.isRow = true) (hi : (P.info? ty).map (·.size) = some cs.size)
    (h : K (a.put op.dst (.agg cs))) : op.quiet P a C K :=
  quiet_load_mid ty x ho b o hx cs.toList d hc hu hd (by simpa using hi) (by simpa using h)
theorem range_regrown {w : World} {b o : Nat} {cs : List Value} (h : w.rangeAt b o cs) : ∀ w', (∃ p : Regrown, w' = grow (redrawn w p.d) p.os) → w'.rangeAt b o cs := by
  rintro w' ⟨p, rfl⟩ j v hj
  exact cell_regrown (h j v hj) p.d p.os
/-- one world alone -/
theorem still_of_quiet {P : Program} {ops : Array Oper} {w : World} {Q : Act → Prop} : ∀ (l : List Oper) (a : Act), wpQuiet P ops (fun w' => w' = w) Q l a → wpStill P ops w Q l a
  | [], a, h => h
  | o :: rest, a, h => by
    unfold wpQuiet at h
    unfold wpStill
    by_cases hw : Region.wanted o (yielded ops a.tmps) = true
    · rw [if_pos hw] at h ⊢
      obtain ⟨v, h1, h2⟩ := h
      have h3 := h1 w rfl
      have h4 := still_of_quiet rest _ h2
      unfold Oper.quietAt at h3
      unfold Oper.still
      generalize (execOp a.eval o).run P w = r at h3 ⊢
      cases r with
      | ok n w' =>
        cases n with
        | value u =>
          obtain ⟨rfl, rfl⟩ := h3
          exact ⟨rfl, h4⟩
        | skip =>
          obtain ⟨rfl, rfl⟩ := h3
          exact ⟨rfl, h4⟩
        | enter f args =>
          obtain ⟨rfl, h5⟩ := h3
          exact ⟨rfl, v, h5, h4⟩
        | _ => exact h3.elim
      | _ => exact h3.elim
    · rw [if_neg hw] at h ⊢
      exact still_of_quiet rest _ h
theorem tail_quiet {P : Program} {id : Nat} {Q : Exit → Act → World → Prop} {a : Act} {w : World} {l : List Oper} (n : Nat) (hm : P.follows .mixedOrders = true) (hB : Region.lexTailB .any l.toArray n = true)
    (h : wpQuiet P l.toArray (fun w' => w' = w.drew) (fun a' => wpList P l.toArray Q (l.drop n) a' w.drew) (l.take n) a) : (Code.region id l.toArray true).wp P Q a w :=
  wp_region_still_tail n hm hB (still_of_quiet _ _ h)
end Go.Proofs.Ytpempcefgfmniaa.QuietRow
