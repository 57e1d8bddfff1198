/-
  bowerlaw32.cands: the candidates, as the layer has them. bowerref32.Place: how many stand ahead.
-/
import Derived.Test.YtpimifnibdjhfaaGateSort
import Derived.Test.YtpimifnibdjhfaaGateLives
import Derived.Lib.QuietBelow
import Derived.BigQuiet
import Derived.Laws.StructEq
namespace Go.Proofs.Ytpimifnibdjhfaa.GateP
open Go.RowKit RefP
set_option linter.unusedVariables false
set_option linter.unusedSimpArgs false

theorem _root_.Go.Proofs.Ytpimifnibdjhfaa.RefP.Owns.below {w w' : World} {base : Nat} {e : TypeId} {size : Nat} {a : Option Addr} {n c : Nat} {f : Nat → Value} (h : Owns w base e size a n c f) (hb : Below w.heap.size w w') : Owns w' base e size a n c f :=
  World.ownsRow.kept h (row := none) ⟨hb.os, hb.tape, hb.output, hb.size, fun i hi _ => hb.block i hi⟩ (by cases (Value.slice a n c).ownBlock <;> simp)
theorem infoCandC : (Try.prog.info? 96).map (fun i => (i.zero, i.size, i.bytes)) = some (some (.agg #[.int .i64 0, .int .u64 0]), 2, 16) := by kernel_rfl
theorem candF_app (l : List (Int × Int)) (k : Nat) (hk : k < l.length) (j : Nat) (h : j < (k + 1) * 2) : (if j < k * 2 then candF (l.take k) j else candF [at2 l k] (j - k * 2)) = candF (l.take (k + 1)) j := by
  unfold candF
  by_cases hj : j < k * 2
  · have e : at2 (l.take (k + 1)) (j / 2) = at2 (l.take k) (j / 2) := by simp [at2, List.getElem?_take, show j / 2 < k by omega, show j / 2 < k + 1 by omega]
    rw [if_pos hj, e]
  · have e1 : j / 2 = k := by omega
    have e : at2 (l.take (k + 1)) (j / 2) = at2 l k := by rw [e1]; simp [at2, List.getElem?_take]
    have e2 : (j - k * 2) / 2 = 0 := by omega
    have e3 : (j - k * 2) % 2 = j % 2 := by omega
    rw [if_neg hj, e, e2, e3]
    simp [at2]
def CandsAt (w : World) (l : List (Int × Int)) (e : Ending) (w' : World) : Prop :=
  ∃ a c, e = .returned (.slice a l.length c) ∧ Cands w' a l ∧ Below w.heap.size w w'

/-! the document's place -/
set_option maxRecDepth 100000 in
set_option maxHeartbeats 1600000 in
theorem place_any (a : Option Addr) (c : Nat) (l : List (Int × Int)) (i : Nat) (w : World) (h : Cands w a l) (hi : i < l.length) :
    Calls Try.prog 29 #[.slice a l.length c, .int .i64 i] w fun e w' => e = .returned (.int .i64 (placeI l i)) ∧ Below w.heap.size w w' := by
  have hlen := h.len
  have hi' : (i : Int) < (l.length : Int) := by omega
  go_enter Try.func29, Try.ntmps29
  go_wp2_with fail
  go_loopw [5, 6] (fun u5 u6 wr => ∃ k : Nat, k ≤ l.length ∧ u6 = .int .i64 k ∧ u5 = .int .i64 (placeTo l i k) ∧ Below w.heap.size w wr) (fun _ i _ => l.length - (intOf i).toNat)
  case atStart => exact ⟨0, Nat.zero_le _, rfl, by rw [placeTo_zero]; rfl, Below.refl _ _⟩
  case round =>
    obtain ⟨k, hk, rfl, rfl, hb⟩ := hrel
    by_cases hlt : k < l.length
    · have hC := h.below hb
      obtain ⟨b, off, rfl, hbl, s0, s1⟩ := hC.cell k hlt
      obtain ⟨b', off', e', hbl', t0, t1⟩ := hC.cell i hi
      simp only [Option.some.injEq, Addr.mk.injEq, and_true] at e'
      obtain ⟨rfl, rfl⟩ := e'
      have hlt' : (k : Int) < (l.length : Int) := by omega
      have hpl := placeTo_le l i k (by omega)
      have x0 := cell_regrown s0
      have x1 := cell_regrown s1
      have x2 := cell_regrown t0
      have x3 := cell_regrown t1
      have hs := placeTo_succ l i k hlt
      clear hC s0 s1 t0 t1
      by_cases ha : ahead (at2 l k) (at2 l i) = true
      · have HS := Lib.hid (show placeTo l i (k + 1) = placeTo l i k + 1 by rw [hs, if_pos (Or.inl ha)])
        clear hs
        have hd : ∀ W, Calls Try.prog 42 #[.agg #[.int .i64 (at2 l k).1, .int .u64 (at2 l k).2], .agg #[.int .i64 (at2 l i).1, .int .u64 (at2 l i).2]] W fun e w' => e = .returned (.bool true) ∧ Below W.heap.size W w' := fun W => by
          have := dahead_any (at2 l k).1 (at2 l k).2 (at2 l i).1 (at2 l i).2 W
          rw [show aheadB (at2 l k).1 (at2 l k).2 (at2 l i).1 (at2 l i).2 = true from ha] at this
          exact this
        clear ha
        go_wp2_with fail
        refine wp_region_quiet_below (by kernel_rfl) (by kernel_rfl) ?_
        repeat (go_big_quiet_step (exact Calls.regrown_of (hd _)))
        refine wpQuiet_nil ?_
        intro w1 hw'
        have hb1 := RefP.below_of_regrown hw'
        clear hw'
        clear x0 x1 x2 x3 hd
        go_wp2_with fail
        go_roundw
        case rel => exact ⟨k + 1, by omega, by go_num, by rw [HS.out]; go_num, below_push2 hb hb1 (Nat.le_refl _)⟩
        case measure => simp [intOf]; omega
      · have ha : ahead (at2 l k) (at2 l i) = false := by simpa using ha
        by_cases hki : k < i
        · have hq : decide ((k : Int) < (i : Int)) = true := by simpa using hki
          by_cases q1 : (at2 l k).1 = (at2 l i).1
          · by_cases q2 : (at2 l k).2 = (at2 l i).2
            · have HS := Lib.hid (show placeTo l i (k + 1) = placeTo l i k + 1 by rw [hs, if_pos (Or.inr ⟨hki, Prod.ext q1 q2⟩)])
              have p1 : ((at2 l k).1 == (at2 l i).1) = true := by simpa using q1
              have p2 : ((at2 l k).2 == (at2 l i).2) = true := by simpa using q2
              clear hs q1 q2
              have hd : ∀ W, Calls Try.prog 42 #[.agg #[.int .i64 (at2 l k).1, .int .u64 (at2 l k).2], .agg #[.int .i64 (at2 l i).1, .int .u64 (at2 l i).2]] W fun e w' => e = .returned (.bool false) ∧ Below W.heap.size W w' := fun W => by
                have := dahead_any (at2 l k).1 (at2 l k).2 (at2 l i).1 (at2 l i).2 W
                rw [show aheadB (at2 l k).1 (at2 l k).2 (at2 l i).1 (at2 l i).2 = false from ha] at this
                exact this
              clear ha
              go_wp2_with fail
              refine wp_region_quiet_below (by kernel_rfl) (by kernel_rfl) ?_
              repeat (go_big_quiet_step (exact Calls.regrown_of (hd _)))
              refine wpQuiet_nil ?_
              intro w1 hw'
              have hb1 := RefP.below_of_regrown hw'
              clear hw'
              clear x0 x1 x2 x3 hd
              go_wp2_with fail
              go_roundw
              case rel => exact ⟨k + 1, by omega, by go_num, by rw [HS.out]; go_num, below_push2 hb hb1 (Nat.le_refl _)⟩
              case measure => simp [intOf]; omega
            · have HS := Lib.hid (show placeTo l i (k + 1) = placeTo l i k by rw [hs, if_neg (fun e => e.elim (fun e => by rw [ha] at e; cases e) (fun e => q2 (congrArg Prod.snd e.2)))]; rfl)
              have p1 : ((at2 l k).1 == (at2 l i).1) = true := by simpa using q1
              have p2 : ((at2 l k).2 == (at2 l i).2) = false := by simpa using q2
              clear hs q1 q2
              have hd : ∀ W, Calls Try.prog 42 #[.agg #[.int .i64 (at2 l k).1, .int .u64 (at2 l k).2], .agg #[.int .i64 (at2 l i).1, .int .u64 (at2 l i).2]] W fun e w' => e = .returned (.bool false) ∧ Below W.heap.size W w' := fun W => by
                have := dahead_any (at2 l k).1 (at2 l k).2 (at2 l i).1 (at2 l i).2 W
                rw [show aheadB (at2 l k).1 (at2 l k).2 (at2 l i).1 (at2 l i).2 = false from ha] at this
                exact this
              clear ha
              go_wp2_with fail
              refine wp_region_quiet_below (by kernel_rfl) (by kernel_rfl) ?_
              repeat (go_big_quiet_step (exact Calls.regrown_of (hd _)))
              refine wpQuiet_nil ?_
              intro w1 hw'
              have hb1 := RefP.below_of_regrown hw'
              clear hw'
              clear x0 x1 x2 x3 hd
              go_wp2_with fail
              go_roundw
              case rel => exact ⟨k + 1, by omega, by go_num, by rw [HS.out], below_push2 hb hb1 (Nat.le_refl _)⟩
              case measure => simp [intOf]; omega
          · have HS := Lib.hid (show placeTo l i (k + 1) = placeTo l i k by rw [hs, if_neg (fun e => e.elim (fun e => by rw [ha] at e; cases e) (fun e => q1 (congrArg Prod.fst e.2)))]; rfl)
            have p1 : ((at2 l k).1 == (at2 l i).1) = false := by simpa using q1
            clear hs q1
            have hd : ∀ W, Calls Try.prog 42 #[.agg #[.int .i64 (at2 l k).1, .int .u64 (at2 l k).2], .agg #[.int .i64 (at2 l i).1, .int .u64 (at2 l i).2]] W fun e w' => e = .returned (.bool false) ∧ Below W.heap.size W w' := fun W => by
              have := dahead_any (at2 l k).1 (at2 l k).2 (at2 l i).1 (at2 l i).2 W
              rw [show aheadB (at2 l k).1 (at2 l k).2 (at2 l i).1 (at2 l i).2 = false from ha] at this
              exact this
            clear ha
            go_wp2_with fail
            refine wp_region_quiet_below (by kernel_rfl) (by kernel_rfl) ?_
            repeat (go_big_quiet_step (exact Calls.regrown_of (hd _)))
            refine wpQuiet_nil ?_
            intro w1 hw'
            have hb1 := RefP.below_of_regrown hw'
            clear hw'
            clear x0 x1 x2 x3 hd
            go_wp2_with fail
            go_roundw
            case rel => exact ⟨k + 1, by omega, by go_num, by rw [HS.out], below_push2 hb hb1 (Nat.le_refl _)⟩
            case measure => simp [intOf]; omega
        · have hq : decide ((k : Int) < (i : Int)) = false := by simpa using hki
          have HS := Lib.hid (show placeTo l i (k + 1) = placeTo l i k by rw [hs, if_neg (by rw [ha]; simp [hki])]; rfl)
          clear hs
          have hd : ∀ W, Calls Try.prog 42 #[.agg #[.int .i64 (at2 l k).1, .int .u64 (at2 l k).2], .agg #[.int .i64 (at2 l i).1, .int .u64 (at2 l i).2]] W fun e w' => e = .returned (.bool false) ∧ Below W.heap.size W w' := fun W => by
            have := dahead_any (at2 l k).1 (at2 l k).2 (at2 l i).1 (at2 l i).2 W
            rw [show aheadB (at2 l k).1 (at2 l k).2 (at2 l i).1 (at2 l i).2 = false from ha] at this
            exact this
          clear ha
          go_wp2_with fail
          refine wp_region_quiet_below (by kernel_rfl) (by kernel_rfl) ?_
          repeat (go_big_quiet_step (exact Calls.regrown_of (hd _)))
          refine wpQuiet_nil ?_
          intro w1 hw'
          have hb1 := RefP.below_of_regrown hw'
          clear hw'
          clear x0 x1 x2 x3 hd
          go_wp2_with fail
          go_roundw
          case rel => exact ⟨k + 1, by omega, by go_num, by rw [HS.out], below_push2 hb hb1 (Nat.le_refl _)⟩
          case measure => simp [intOf]; omega
    · obtain rfl : k = l.length := by omega
      have e := Lib.hid (show placeI l i = placeTo l i l.length from rfl)
      go_wp2_with fail
      go_ret
      exact ⟨rfl, hb⟩
end Go.Proofs.Ytpimifnibdjhfaa.GateP
