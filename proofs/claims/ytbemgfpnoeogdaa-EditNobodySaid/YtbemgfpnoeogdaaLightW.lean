/-
  Light of a node (chapter 10's law), and of a row of accesses (chapter 26's): contracts.
-/
import Derived.Test.YtbemgfpnoeogdaaApi
import Derived.Test.YtbemgfpnoeogdaaAid
import Derived.WalkLawsBesides
import Derived.WalkSpells
import Derived.Outline
import Derived.LoopTactic
import Derived.Laws.NewDeep
import Derived.Deep.MidRow
import Derived.Deep.WholeRow
namespace Go.Proofs.Ytbemgfpnoeogdaa.Dp
open Go.RowKit RefP
set_option linter.unusedVariables false
set_option linter.unusedSimpArgs false
/-- is a node small? -/
def lightN (x : NodeV) : Bool := x.keys.all (fun k => decide (k.size ≤ 100)) && (decide (x.keys.length ≤ 80) && (decide (x.vals.length ≤ 80) && (decide (x.kids.length ≤ 80) && (decide (x.low.size ≤ 100) && decide (x.high.size ≤ 100)))))
/-- a string of a row -/
theorem str_cell {w : World} {S : List Nat} {h : Hd} {xs : List ByteArray} (H : HRow strC w S h xs) (k : Nat) (hk : k < xs.length) : ∃ b off, h.a = some ⟨b, off, none⟩ ∧ b < w.heap.size ∧ w.cell? ⟨b, off + k, none⟩ = some (.string xs[k]) := by
  obtain ⟨b, off, e, hb, _, hc⟩ := H.row (by omega)
  obtain ⟨cs, ⟨rfl, _⟩, hv⟩ := hc k xs[k] (List.getElem?_eq_getElem hk)
  refine ⟨b, off, e, hb, ?_⟩
  have := hv 0 _ rfl
  rw [show strC.k = 1 from rfl, Nat.mul_one, Nat.add_zero] at this
  exact this
abbrev nodeA (h : NodeH) (x : NodeV) : Array Value := #[.int .i64 x.level, .string x.low, .string x.high, .bool x.last, .int .i64 x.next, .slice h.keys.a x.keys.length h.keys.c, .slice h.vals.a x.vals.length h.vals.c, .slice h.kids.a x.kids.length h.kids.c]
theorem light_part {x : NodeV} {k : Nat} (hk : k < x.keys.length) (h : ¬ (x.keys[k]).size ≤ 100) : lightN x = false := by
  have : x.keys.all (fun k => decide (k.size ≤ 100)) = false := by
    rw [Bool.eq_false_iff]
    intro e
    rw [List.all_eq_true] at e
    exact h (of_decide_eq_true (e _ (List.getElem_mem hk)))
  simp [lightN, this]
set_option maxRecDepth 100000 in
set_option maxHeartbeats 3200000 in
theorem light10_any (S : List Nat) (h : NodeH) (x : NodeV) (w : World) (H : NodeOk w S h x) : Calls Try.prog 7 #[.agg (nodeA h x)] w fun e w' => e = .returned (.bool (lightN x)) ∧ Below w.heap.size w w' := by
  have hb0 : Below w.heap.size w (w.alloc (.cells (nodeA h x) 26)) := by (repeat (first | exact Below.refl _ _ | assumption | refine below_alloc2 ?_ (by first | exact Nat.le_refl _ | omega) _ | refine Below.drew ?_ | refine below_drewN ?_ _ | refine below_push2 ?_ ‹_› (by first | exact Nat.le_refl _ | omega) | refine Below.setCell ?_ (by first | (simp; done) | (simp; omega) | omega) _))
  have BX := Blk.new w (nodeA h x) 26
  have hcap := H.keys.cap
  have hle := H.keys.le
  have hm : (maxLen : Nat) = 9223372036854775807 := by unfold maxLen; rfl
  go_enter Try.func7, Try.ntmps7
  go_wp2_with fail
  go_loopw [8] (fun i wr => ∃ k : Nat, k ≤ x.keys.length ∧ i = .int .i64 k ∧ wr = w.alloc (.cells (nodeA h x) 26) ∧ (x.keys.take k).all (fun k => decide (k.size ≤ 100)) = true) (fun i _ => x.keys.length - (intOf i).toNat)
  case atStart => exact ⟨0, Nat.zero_le _, rfl, rfl, by simp⟩
  case round =>
    obtain ⟨k, hk, rfl, rfl, hall⟩ := hrel
    by_cases hlt : k < x.keys.length
    · have hlt' : (k : Int) < (x.keys.length : Int) := by omega
      obtain ⟨b, off, ha, hbl, hc⟩ := str_cell (H.keys.keep (Keeps.of_below hb0)) k hlt
      rw [ha]
      have hsz : x.keys[k].size ≤ maxLen := by
        obtain ⟨b, off, e, hb, _, hc⟩ := H.keys.row (by omega)
        obtain ⟨cs, ⟨_, h2⟩, _⟩ := hc k x.keys[k] (List.getElem?_eq_getElem hlt)
        exact h2
      by_cases hs : x.keys[k].size ≤ 100
      · have q1 : decide (100 < (x.keys[k].size : Int)) = false := by simp; omega
        have hall2 : (x.keys.take (k + 1)).all (fun k => decide (k.size ≤ 100)) = true := by
          rw [List.take_succ_eq_append_getElem hlt, List.all_append, hall]; simp [hs]
        generalize x.keys[k] = s at hc q1
        clear hs hsz
        go_wp2_with fail
        go_roundw
        case rel => exact ⟨k + 1, by omega, by go_num, trivial, hall2⟩
        case measure => simp [intOf]; omega
      · have q1 : decide (100 < (x.keys[k].size : Int)) = true := by simp; omega
        have hR := Lib.hid (light_part hlt hs)
        generalize x.keys[k] = s at hc q1
        clear hs hsz
        go_wp2_with fail
        go_ret
        exact ⟨by rw [hR.out]; rfl, hb0⟩
    · obtain rfl : k = x.keys.length := by omega
      rw [List.take_length] at hall
      have l1 := H.vals.le
      have l2 := H.vals.cap
      have l3 := H.kids.le
      have l4 := H.kids.cap
      have l5 := H.low
      have l6 := H.high
      have hR : Hid (lightN x = (decide (x.keys.length ≤ 80) && (decide (x.vals.length ≤ 80) && (decide (x.kids.length ≤ 80) && (decide (x.low.size ≤ 100) && decide (x.high.size ≤ 100)))))) := by simp [Hid, lightN, hall]
      clear hall
      by_cases g1 : x.keys.length ≤ 80
      · have q1 : decide ((x.keys.length : Int) ≤ 80) = true := by simp; omega
        by_cases g2 : x.vals.length ≤ 80
        · have q2 : decide ((x.vals.length : Int) ≤ 80) = true := by simp; omega
          by_cases g3 : x.kids.length ≤ 80
          · have q3 : decide ((x.kids.length : Int) ≤ 80) = true := by simp; omega
            by_cases g4 : x.low.size ≤ 100
            · have q4 : decide ((x.low.size : Int) ≤ 100) = true := by simp; omega
              have q5 : decide ((x.high.size : Int) ≤ 100) = decide (x.high.size ≤ 100) := by simp; omega
              have hE := Lib.hid (show lightN x = decide (x.high.size ≤ 100) by rw [hR.out]; simp [g1, g2, g3, g4])
              clear g1 g2 g3 g4 hR
              go_wp2_with fail
              go_ret
              exact ⟨by rw [hE.out]; rfl, hb0⟩
            · have q4 : decide ((x.low.size : Int) ≤ 100) = false := by simp; omega
              have hE := Lib.hid (show lightN x = false by rw [hR.out]; simp [g4])
              clear g1 g2 g3 g4 hR
              go_wp2_with fail
              go_ret
              exact ⟨by rw [hE.out]; rfl, hb0⟩
          · have q3 : decide ((x.kids.length : Int) ≤ 80) = false := by simp; omega
            have hE := Lib.hid (show lightN x = false by rw [hR.out]; simp [g3])
            clear g1 g2 g3 hR
            go_wp2_with fail
            go_ret
            exact ⟨by rw [hE.out]; rfl, hb0⟩
        · have q2 : decide ((x.vals.length : Int) ≤ 80) = false := by simp; omega
          have hE := Lib.hid (show lightN x = false by rw [hR.out]; simp [g2])
          clear g1 g2 hR
          go_wp2_with fail
          go_ret
          exact ⟨by rw [hE.out]; rfl, hb0⟩
      · have q1 : decide ((x.keys.length : Int) ≤ 80) = false := by simp; omega
        have hE := Lib.hid (show lightN x = false by rw [hR.out]; simp [g1])
        clear g1 hR
        go_wp2_with fail
        go_ret
        exact ⟨by rw [hE.out]; rfl, hb0⟩
end Go.Proofs.Ytbemgfpnoeogdaa.Dp
