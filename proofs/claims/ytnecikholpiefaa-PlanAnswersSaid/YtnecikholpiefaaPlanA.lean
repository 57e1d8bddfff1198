/-
  law34's light; how many blocks a draft costs: contracts.
-/
import Derived.Test.YtnecikholpiefaaPlanP
import Derived.Deep.MidRow
import Derived.Deep.WholeRow
import Derived.Deep.DeepCutAuto
import Derived.Deep.RegionLaw
import Derived.Deep.RegionHeld
import Derived.Lib.QuietBelow
import Derived.BigQuiet
import Derived.WalkSpells
namespace Go.Proofs.Ytnecikholpiefaa.Dp
open Go.RowKit RefP
set_option linter.unusedVariables false
set_option linter.unusedSimpArgs false
set_option maxRecDepth 100000 in
set_option maxHeartbeats 3200000 in
theorem light34_any (S : List Nat) (q : AskH) (x : AskV) (w : World) (H : AskOk w S q x) : Calls Try.prog 5 #[.agg (askA q x)] w fun e w' => e = .returned (.bool (lightK x)) ∧ Below w.heap.size w w' := by
  have hb0 : Below w.heap.size w (w.alloc (.cells (askA q x) 29)) := by (repeat (first | exact Below.refl _ _ | assumption | refine below_alloc2 ?_ (by first | exact Nat.le_refl _ | omega) _ | refine Below.drew ?_ | refine below_drewN ?_ _ | refine below_push2 ?_ ‹_› (by first | exact Nat.le_refl _ | omega) | refine Below.setCell ?_ (by first | (simp; done) | (simp; omega) | omega) _))
  have BA := Blk.new w (askA q x) 29
  have hmx : (maxLen : Nat) = 9223372036854775807 := by unfold maxLen; rfl
  have m1 : x.c.length ≤ 9223372036854775807 := by have := H.c.le; have := H.c.cap; omega
  have m2 : x.a.pairs.length ≤ 9223372036854775807 := by have := H.a.pairs.le; have := H.a.pairs.cap; omega
  have m3 : x.words.length ≤ 9223372036854775807 := by have := H.words.le; have := H.words.cap; omega
  obtain ⟨AB, hAB⟩ : ∃ b, b = w.heap.size := ⟨_, rfl⟩
  go_enter Try.func5, Try.ntmps5
  go_upto_region 1 with (fail)
  rw [← hAB] at BA ⊢
  replace hAB := Lib.hid hAB
  generalize w.alloc (.cells (askA q x) 29) = w0 at hb0 BA ⊢
  have a4 := BA.at 4 rfl
  go_wp2_with fail
  clear a4
  go_loopw [8] (fun i wr => ∃ k : Nat, k ≤ x.c.length ∧ i = .int .i64 k ∧ Below w.heap.size w wr ∧ Blk wr AB (askA q x) 29 ∧ (x.c.take k).all (fun c => lightN c.node) = true) (fun i _ => x.c.length - (intOf i).toNat)
  case atStart => exact ⟨0, Nat.zero_le _, rfl, hb0, BA, by simp⟩
  case round =>
    clear hb0 BA
    obtain ⟨k, hk, rfl, hb, BA, hall⟩ := hrel
    by_cases hlt : k < x.c.length
    · have hlt' : (k : Int) < (x.c.length : Int) := by omega
      obtain ⟨b, off, qn, ha, hbl, hcs, hok⟩ := change_cell (H.c.keep (Keeps.of_below hb)) k hlt
      rw [ha]
      have hall2 : lightN x.c[k].node = true → (x.c.take (k + 1)).all (fun c => lightN c.node) = true := fun e => by
        rw [List.take_succ_eq_append_getElem hlt, List.all_append, hall]; simp [e]
      have hno : lightN x.c[k].node = false → lightK x = false := fun e => by
        have : x.c.all (fun c => lightN c.node) = false := by
          rw [Bool.eq_false_iff]
          intro h
          rw [List.all_eq_true] at h
          have := h _ (List.getElem_mem hlt)
          rw [e] at this; cases this
        simp [lightK, this]
      generalize x.c[k] = ch at hcs hok hall2 hno
      have hbx : Below wr.heap.size wr (wr.alloc (.cells (changeA qn ch) 60)) := (Below.refl _ wr).alloc (Nat.le_refl _) _
      have BX := Blk.new wr (changeA qn ch) 60
      have hN := change_node (blk_range BX)
      rw [Nat.zero_add] at hN
      have hNode := hok.node.keep (Keeps.of_below hbx)
      go_wp2_with (first
        | (refine wpList_load_mid rfl 60 _ rfl b (off + k * 14) rfl (changeA qn ch).toList _ hcs Try.underlying60 rfl (by kernel_rfl) ?_)
        | (refine wpList_store_row rfl 60 _ _ rfl _ _ rfl rfl 60 _ (Blk.new wr _ _).h (by kernel_rfl) (by rfl) (by kernel_rfl) ?_; rw [World.setRow_alloc_new])
        | (refine wpList_load_mid rfl 43 _ rfl wr.heap.size 6 rfl (nodeA qn ch.node).toList _ hN Try.underlying43 rfl (by kernel_rfl) ?_))
      refine (show Calls _ _ _ _ _ from light10_any S qn ch.node _ hNode).mono ?_
      rintro e w2 ⟨rfl, hb2⟩
      have hB2 := below_push2 (below_push2 hb hbx (Nat.le_refl _)) hb2 (Nat.le_refl _)
      replace BA := (BA.below hbx).below hb2
      cases hl : lightN ch.node
      · have hE := Lib.hid (hno hl)
        clear hall2 hno hcs hok hN hNode BX BA
        go_wp2_with fail
        go_ret
        exact ⟨by rw [hE.out]; rfl, hB2⟩
      · have hE := hall2 hl
        clear hall2 hno hcs hok hN hNode BX
        go_wp2_with fail
        go_roundw
        case rel => exact ⟨k + 1, by omega, by go_num, hB2, BA, hE⟩
        case measure => simp [intOf]; omega
    obtain rfl : k = x.c.length := by omega
    have hA : lightK x = (decide (x.c.length ≤ 60) && (decide (x.a.pairs.length ≤ 300) && decide (x.words.length ≤ 300))) := by
      rw [List.take_length] at hall
      simp [lightK, hall]
    clear hall
    have a3 := BA.at 3 rfl
    have a4 := BA.at 4 rfl
    have a5 := BA.at 5 rfl
    by_cases g1 : x.c.length ≤ 60
    · have q1 : decide ((x.c.length : Int) ≤ 60) = true := by simp; omega
      by_cases g2 : x.a.pairs.length ≤ 300
      · have q2 : decide ((x.a.pairs.length : Int) ≤ 300) = true := by simp; omega
        by_cases g3 : x.words.length ≤ 300
        · have q3 : decide ((x.words.length : Int) ≤ 300) = true := by simp; omega
          have hE : Hid (lightK x = true) := Lib.hid (by rw [hA]; simp [g1, g2, g3])
          clear hA g1 g2 g3
          go_wp2_with fail
          go_ret
          exact ⟨by rw [hE.out]; rfl, hb⟩
        · have q3 : decide ((x.words.length : Int) ≤ 300) = false := by simp; omega
          have hE : Hid (lightK x = false) := Lib.hid (by rw [hA]; simp [g3])
          clear hA g1 g2 g3
          go_wp2_with fail
          go_ret
          exact ⟨by rw [hE.out]; rfl, hb⟩
      · have q2 : decide ((x.a.pairs.length : Int) ≤ 300) = false := by simp; omega
        have hE : Hid (lightK x = false) := Lib.hid (by rw [hA]; simp [g2])
        clear hA g1 g2
        go_wp2_with fail
        go_ret
        exact ⟨by rw [hE.out]; rfl, hb⟩
    · have q1 : decide ((x.c.length : Int) ≤ 60) = false := by simp; omega
      have hE : Hid (lightK x = false) := Lib.hid (by rw [hA]; simp [g1])
      clear hA g1
      go_wp2_with fail
      go_ret
      exact ⟨by rw [hE.out]; rfl, hb⟩
end Go.Proofs.Ytnecikholpiefaa.Dp
