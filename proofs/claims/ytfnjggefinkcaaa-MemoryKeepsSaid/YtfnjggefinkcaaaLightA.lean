/-
  Light of a row of accesses (chapter 26's law): contract.
-/
import Derived.Test.YtfnjggefinkcaaaLightW
namespace Go.Proofs.Ytfnjggefinkcaaa.Dp
open Go.RowKit RefP
set_option linter.unusedVariables false
set_option linter.unusedSimpArgs false
/-- an access's cells, written out -/
abbrev acc26 (q : BlockH) (x : AccV) : List Value := [.int .i64 x.kind, .int .i64 x.at_, .int .u64 x.ver, .int .u64 x.word, .int .i64 x.block.kind, .int .i64 x.block.node.level, .string x.block.node.low, .string x.block.node.high, .bool x.block.node.last, .int .i64 x.block.node.next, .slice q.node.keys.a x.block.node.keys.length q.node.keys.c, .slice q.node.vals.a x.block.node.vals.length q.node.vals.c, .slice q.node.kids.a x.block.node.kids.length q.node.kids.c, .int .i64 x.block.plan.thread, .int .i64 x.block.plan.ans.code, .string x.block.plan.ans.key, .int .u64 x.block.plan.ans.val, .slice q.plan.pairs.a x.block.plan.ans.pairs.length q.plan.pairs.c, .slice q.plan.steps.a x.block.plan.steps.length q.plan.steps.c, .slice q.plan.extra.a x.block.plan.extra.length q.plan.extra.c, .slice q.pairs.a x.block.pairs.length q.pairs.c, .int .i64 x.op.kind, .string x.op.key, .string x.op.to, .int .u64 x.op.val, .int .i64 x.op.limit]
theorem accL_eq (q : BlockH) (x : AccV) : accL q x = acc26 q x := rfl
/-- how many pairs, as the machine's number -/
def sumW (x : AccV) : Int := IntKind.i64.wrap ((x.block.pairs.length : Int) + (x.block.plan.ans.pairs.length : Int))
def lightA (x : AccV) : Bool := lightN x.block.node && (decide (x.block.plan.steps.length ≤ 60) && (decide (x.block.plan.extra.length ≤ 60) && decide (sumW x ≤ 60)))
def lightL (xs : List AccV) : Bool := xs.all lightA && decide (xs.length ≤ 60)
theorem lightL_no {xs : List AccV} {k : Nat} (hk : k < xs.length) (h : lightA xs[k] = false) : lightL xs = false := by
  have : xs.all lightA = false := by
    rw [Bool.eq_false_iff]
    intro e
    rw [List.all_eq_true] at e
    have := e _ (List.getElem_mem hk)
    rw [h] at this; cases this
  simp [lightL, this]
/-- an access of a row -/
theorem acc_cell {w : World} {S : List Nat} {a : Option Addr} {xs : List AccV} (H : RowRep accT w S a xs) (k : Nat) (hk : k < xs.length) : ∃ b off q, a = some ⟨b, off, none⟩ ∧ b < w.heap.size ∧ w.rangeAt b (off + k * 26) (acc26 q xs[k]) ∧ AccOk w S q xs[k] := by
  obtain ⟨b, off, e, hb, _, hc⟩ := H (by omega)
  obtain ⟨cs, hr, hv⟩ := hc k xs[k] (List.getElem?_eq_getElem hk)
  obtain ⟨q, rfl, hok⟩ := accT_of hr
  exact ⟨b, off, q, e, hb, hv, hok⟩
theorem range_blk {w : World} {b : Nat} {cs : Array Value} {T : TypeId} (B : Blk w b cs T) (o : Nat) (l : List Value) (h : ∀ j v, l[j]? = some v → cs[o + j]? = some v) : w.rangeAt b o l := fun j v hv => B.at _ (h j v hv)
theorem lt8 {r : Nat} (h : r < 8) : r = 0 ∨ r = 1 ∨ r = 2 ∨ r = 3 ∨ r = 4 ∨ r = 5 ∨ r = 6 ∨ r = 7 := by omega
theorem acc_node {w : World} {b : Nat} {q : BlockH} {x : AccV} {T : TypeId} (B : Blk w b (acc26 q x).toArray T) : w.rangeAt b 5 (nodeL q.node x.block.node) :=
  range_blk B 5 _ (fun j v hv => by
    have hj : j < 8 := (List.getElem?_eq_some_iff.1 hv).1
    rcases lt8 hj with e | e | e | e | e | e | e | e <;> subst e <;> exact hv)
set_option maxRecDepth 100000 in
set_option maxHeartbeats 3200000 in
theorem light_any (S : List Nat) (a : Option Addr) (c : Nat) (xs : List AccV) (w : World) (H : RowRep accT w S a xs) (hm : xs.length ≤ 9223372036854775807) : Calls Try.prog 7 #[.slice a xs.length c] w fun e w' => e = .returned (.bool (lightL xs)) ∧ Below w.heap.size w w' := by
  have hmx : (maxLen : Nat) = 9223372036854775807 := by unfold maxLen; rfl
  go_enter Try.func7, Try.ntmps7
  go_wp2_with fail
  go_loopw [7] (fun i wr => ∃ k : Nat, k ≤ xs.length ∧ i = .int .i64 k ∧ Below w.heap.size w wr ∧ (xs.take k).all lightA = true) (fun i _ => xs.length - (intOf i).toNat)
  case atStart => exact ⟨0, Nat.zero_le _, rfl, Below.refl _ _, by simp⟩
  case round =>
    obtain ⟨k, hk, rfl, hb, hall⟩ := hrel
    by_cases hlt : k < xs.length
    · have hlt' : (k : Int) < (xs.length : Int) := by omega
      obtain ⟨b, off, q, rfl, hbl, hcs, hok⟩ := acc_cell (H.keep (Keeps.of_below hb)) k hlt
      have hall2 : lightA xs[k] = true → (xs.take (k + 1)).all lightA = true := fun e => by
        rw [List.take_succ_eq_append_getElem hlt, List.all_append, hall]; simp [e]
      have hno : lightA xs[k] = false → lightL xs = false := lightL_no hlt
      generalize xs[k] = x at hcs hok hall2 hno
      have hB1 := below_alloc2 hb (Nat.le_refl _) (.cells (acc26 q x).toArray 39)
      have BX := Blk.new wr (acc26 q x).toArray 39
      have hN := acc_node BX
      have hNode := (hok.block.node)
      go_wp2_with (first
        | (refine wpList_load_mid rfl 39 _ rfl b (off + k * 26) rfl (acc26 q x) _ hcs Try.underlying39 rfl (by kernel_rfl) ?_)
        | (refine wpList_store_row rfl 39 _ _ rfl _ _ rfl rfl 39 _ (Blk.new wr _ _).h (by kernel_rfl) (by rfl) (by kernel_rfl) ?_; rw [World.setRow_alloc_new])
        | (refine wpList_load_mid rfl 27 _ rfl wr.heap.size 5 rfl (nodeL q.node x.block.node) _ hN Try.underlying27 rfl (by kernel_rfl) ?_))
      refine (light10_any S q.node x.block.node _ (hNode.keep (Keeps.of_below ((Below.refl _ wr).alloc (Nat.le_refl _) _)))).mono ?_
      rintro e w2 ⟨rfl, hb2⟩
      have BX2 := BX.below hb2
      have b17 : w2.cell? ⟨wr.heap.size, 17, none⟩ = some (.slice q.plan.pairs.a x.block.plan.ans.pairs.length q.plan.pairs.c) := BX2.at 17 rfl
      have b18 : w2.cell? ⟨wr.heap.size, 18, none⟩ = some (.slice q.plan.steps.a x.block.plan.steps.length q.plan.steps.c) := BX2.at 18 rfl
      have b19 : w2.cell? ⟨wr.heap.size, 19, none⟩ = some (.slice q.plan.extra.a x.block.plan.extra.length q.plan.extra.c) := BX2.at 19 rfl
      have b20 : w2.cell? ⟨wr.heap.size, 20, none⟩ = some (.slice q.pairs.a x.block.pairs.length q.pairs.c) := BX2.at 20 rfl
      have hz : IntKind.i64.wrap ((x.block.pairs.length : Int) + (x.block.plan.ans.pairs.length : Int)) = sumW x := rfl
      have hA : lightA x = (lightN x.block.node && (decide (x.block.plan.steps.length ≤ 60) && (decide (x.block.plan.extra.length ≤ 60) && decide (sumW x ≤ 60)))) := rfl
      clear hcs hok hN hNode BX BX2
      by_cases g0 : lightN x.block.node = true
      · rw [g0]
        by_cases g1 : x.block.plan.steps.length ≤ 60
        · have q1 : decide (60 < (x.block.plan.steps.length : Int)) = false := by simp; omega
          by_cases g2 : x.block.plan.extra.length ≤ 60
          · have q2 : decide (60 < (x.block.plan.extra.length : Int)) = false := by simp; omega
            by_cases g3 : sumW x ≤ 60
            · have hx2 := hall2 (by rw [hA, g0]; simp [g1, g2, g3])
              generalize sumW x = z at hz g3
              have q3 : decide (60 < z) = false := by simp; omega
              clear hall2 hno hA g0 g1 g2 g3
              go_wp2_with fail
              go_roundw
              case rel => exact ⟨k + 1, by omega, by go_num, below_push2 hB1 hb2 (Nat.le_refl _), hx2⟩
              case measure => simp [intOf]; omega
            · have hE := Lib.hid (hno (by rw [hA]; simp [g3]))
              generalize sumW x = z at hz g3
              have q3 : decide (60 < z) = true := by simp; omega
              clear hall2 hno hA g0 g1 g2 g3
              go_wp2_with fail
              go_ret
              exact ⟨by rw [hE.out]; rfl, below_push2 hB1 hb2 (Nat.le_refl _)⟩
          · have q2 : decide (60 < (x.block.plan.extra.length : Int)) = true := by simp; omega
            have hE := Lib.hid (hno (by rw [hA]; simp [g2]))
            clear hall2 hno hA g0 g1 g2
            go_wp2_with fail
            go_ret
            exact ⟨by rw [hE.out]; rfl, below_push2 hB1 hb2 (Nat.le_refl _)⟩
        · have q1 : decide (60 < (x.block.plan.steps.length : Int)) = true := by simp; omega
          have hE := Lib.hid (hno (by rw [hA]; simp [g1]))
          clear hall2 hno hA g0 g1
          go_wp2_with fail
          go_ret
          exact ⟨by rw [hE.out]; rfl, below_push2 hB1 hb2 (Nat.le_refl _)⟩
      · have g0' : lightN x.block.node = false := by simpa using g0
        rw [g0']
        have hE := Lib.hid (hno (by rw [hA]; simp [g0']))
        clear hall2 hno hA g0 g0'
        go_wp2_with fail
        go_ret
        exact ⟨by rw [hE.out]; rfl, below_push2 hB1 hb2 (Nat.le_refl _)⟩
    · obtain rfl : k = xs.length := by omega
      rw [List.take_length] at hall
      have hE : Hid (lightL xs = decide (xs.length ≤ 60)) := by simp [Hid, lightL, hall]
      have q1 : decide ((xs.length : Int) ≤ 60) = decide (xs.length ≤ 60) := by simp; omega
      clear hall
      go_wp2_with fail
      go_ret
      exact ⟨by rw [hE.out]; rfl, hb⟩
end Go.Proofs.Ytfnjggefinkcaaa.Dp
