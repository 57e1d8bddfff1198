/-
  Where a memory's cells are: contracts of none, at, Node, Use, Announce, Done, Phase, Hazard, Gate, Arena, Threads, Len, Load; for a memory, for nil, for one that no call made.
-/
import Derived.Deep.MidRow
import Derived.Deep.WholeRow
import Derived.Deep.RegionHeld
import Derived.Lib.QuietBelow
import Derived.BigQuiet
import Derived.StillTailTactics
import Derived.Deep.DeepCutAuto
import Derived.Laws.OwnMore
import Derived.WalkSpells
import Derived.Laws.MakeOwn
import Derived.Deep.RegionLaw
import Derived.Laws.IdiomCopy
import Derived.Test.YtgdeiaholkmfeaaReadGoesPack1

namespace Go.Proofs.Ytgdeiaholkmfeaa.MemP
open Go.RowKit RefP CellP
set_option linter.unusedVariables false
set_option linter.unusedSimpArgs false

/-- a memory without cells -/
structure NoMem (w : World) (o : Nat) : Prop where
  head : Blk w o (memA (.pointer none) (fun _ => 0) 0 0 0 0) 80 ∨ ∃ cs : Array Value, Blk w o cs 80 ∧ cs[0]? = some (.pointer none)
theorem NoMem.cell {w : World} {o : Nat} (h : NoMem w o) : w.cell? ⟨o, 0, none⟩ = some (.pointer none) := by
  rcases h.head with h | ⟨cs, h, e⟩
  · exact h.at 0 rfl
  · exact h.at 0 e
theorem NoMem.below {w w' : World} {o : Nat} (h : NoMem w o) (hb : Below w.heap.size w w') : NoMem w' o := by
  rcases h.head with h | ⟨cs, h, e⟩
  · exact ⟨.inl (h.below hb)⟩
  · exact ⟨.inr ⟨cs, h.below hb, e⟩⟩
theorem NoMem.mk' {w : World} {o : Nat} {cs : Array Value} (h : Blk w o cs 80) (e : cs[0]? = some (.pointer none)) : NoMem w o := ⟨.inr ⟨cs, h, e⟩⟩
theorem MemAt.ptr {w : World} {o oc g gb gr A T : Nat} {L : List (Int × Int)} {bs rs : List (List Value)} (h : MemAt w o oc g gb gr A T L bs rs) : w.cell? ⟨o, 0, none⟩ = some (.pointer (some ⟨oc, 0, none⟩)) := h.head.at 0 rfl
set_option maxHeartbeats 800000 in
theorem none_nil (w : World) : Calls Try.prog 24 #[.pointer none] w fun e w' => e = .returned (.bool true) ∧ w = w' := by
  go_enter Try.func24, Try.ntmps24
  go_wp2_with fail
  go_ret
  exact ⟨rfl, rfl⟩
set_option maxHeartbeats 800000 in
theorem none_zero (o : Nat) (w : World) (h : NoMem w o) : Calls Try.prog 24 #[.pointer (some ⟨o, 0, none⟩)] w fun e w' => e = .returned (.bool true) ∧ w = w' := by
  have c0 := h.cell
  go_enter Try.func24, Try.ntmps24
  go_wp2_with fail
  go_ret
  exact ⟨rfl, rfl⟩
set_option maxHeartbeats 800000 in
theorem none_any {o oc g gb gr A T : Nat} {L : List (Int × Int)} {bs rs : List (List Value)} (w : World) (h : MemAt w o oc g gb gr A T L bs rs) : Calls Try.prog 24 #[.pointer (some ⟨o, 0, none⟩)] w fun e w' => e = .returned (.bool false) ∧ w = w' := by
  have c0 := h.ptr
  go_enter Try.func24, Try.ntmps24
  go_wp2_with fail
  go_ret
  exact ⟨rfl, rfl⟩
theorem MemAt.drewN {w : World} {o oc g gb gr A T : Nat} {L : List (Int × Int)} {bs rs : List (List Value)} (h : MemAt w o oc g gb gr A T L bs rs) (n : Nat) : MemAt (w.drewN n) o oc g gb gr A T L bs rs := h.below (below_drewN (Below.refl _ _) n)
theorem NoMem.drewN {w : World} {o : Nat} (h : NoMem w o) (n : Nat) : NoMem (w.drewN n) o := h.below (below_drewN (Below.refl _ _) n)
set_option maxHeartbeats 1600000 in
theorem at_nil (r i : Int) (w : World) : Calls Try.prog 35 #[.pointer none, .int .i64 r, .int .i64 i] w fun e w' => e = .returned (.int .i64 (-1)) ∧ Below w.heap.size w w' := by
  go_enter Try.func35, Try.ntmps35
  go_wp2_with fail
  go_quiet (exact Calls.quiet_of_same ((none_nil _).flip))
  go_wp2_with fail
  go_ret
  exact ⟨rfl, below_drewN (Below.refl _ _) _⟩
set_option maxHeartbeats 1600000 in
theorem at_zero (o : Nat) (r i : Int) (w : World) (h : NoMem w o) : Calls Try.prog 35 #[.pointer (some ⟨o, 0, none⟩), .int .i64 r, .int .i64 i] w fun e w' => e = .returned (.int .i64 (-1)) ∧ Below w.heap.size w w' := by
  go_enter Try.func35, Try.ntmps35
  go_wp2_with fail
  go_quiet (exact Calls.quiet_of_same ((none_zero _ _ (h.drewN _)).flip))
  go_wp2_with fail
  go_ret
  exact ⟨rfl, below_drewN (Below.refl _ _) _⟩
set_option maxRecDepth 100000 in
set_option maxHeartbeats 3200000 in
theorem at_0 {o oc g gb gr A T : Nat} {L : List (Int × Int)} {bs rs : List (List Value)} (i : Int) (w : World) (h : MemAt w o oc g gb gr A T L bs rs) (i0 : -9223372036854775808 ≤ i) (i1 : i ≤ 9223372036854775807) :
    Calls Try.prog 35 #[.pointer (some ⟨o, 0, none⟩), .int .i64 0, .int .i64 i] w fun e w' => e = .returned (.int .i64 (atI A T 0 i)) ∧ Below w.heap.size w w' := by
  have c1 : w.cell? ⟨o, 1, none⟩ = some (.int .i64 (fromI A T 0)) := h.head.at 1 rfl
  have c2 : w.cell? ⟨o, 2, none⟩ = some (.int .i64 (fromI A T 1)) := h.head.at 2 rfl
  have e1 := from_succ A T 0 (by omega)
  have e2 := from_rng A T 0 h.a1.2 h.t1.2
  have e3 := size_rng A T 0 h.a1.2 h.t1.2
  simp only [Nat.reduceAdd] at e1
  have hw : IntKind.i64.wrap (fromI A T 1 - fromI A T 0) = sizeI A T 0 := by rw [IntKind.wrap_i64]; omega
  have hk : IntKind.i64.wrap 1 = 1 := by rw [IntKind.wrap_i64]; rfl
  clear e1
  by_cases hn : i < 0
  · have q1 : decide (i < 0) = true := by simpa using hn
    have hR : Hid (atI A T 0 i = -1) := atI_no (by omega)
    clear hn
    go_enter Try.func35, Try.ntmps35
    go_wp2_with fail
    go_quiet (exact Calls.quiet_of_same ((none_any _ (h.drewN _)).flip))
    go_wp2_with fail
    go_ret
    exact ⟨ret_int hR.out.symm, below_drewN (Below.refl _ _) _⟩
  · have q1 : decide (i < 0) = false := by simpa using hn
    by_cases hm : sizeI A T 0 ≤ i
    · have q2 : decide (sizeI A T 0 ≤ i) = true := by simpa using hm
      have hR : Hid (atI A T 0 i = -1) := atI_no (by omega)
      clear hn hm
      go_enter Try.func35, Try.ntmps35
      go_wp2_with fail
      go_quiet (exact Calls.quiet_of_same ((none_any _ (h.drewN _)).flip))
      go_wp2_with fail
      go_ret
      exact ⟨ret_int hR.out.symm, below_drewN (Below.refl _ _) _⟩
    · have q2 : decide (sizeI A T 0 ≤ i) = false := by simpa using hm
      have hR : Hid (atI A T 0 i = fromI A T 0 + i) := atI_yes (by omega) (by omega)
      have hw3 : IntKind.i64.wrap (fromI A T 0 + i) = fromI A T 0 + i := by rw [IntKind.wrap_i64]; omega
      clear hn hm
      go_enter Try.func35, Try.ntmps35
      go_wp2_with fail
      go_quiet (exact Calls.quiet_of_same ((none_any _ (h.drewN _)).flip))
      go_wp2_with fail
      go_ret
      exact ⟨ret_int hR.out.symm, below_drewN (Below.refl _ _) _⟩
set_option maxRecDepth 100000 in
set_option maxHeartbeats 3200000 in
theorem at_1 {o oc g gb gr A T : Nat} {L : List (Int × Int)} {bs rs : List (List Value)} (i : Int) (w : World) (h : MemAt w o oc g gb gr A T L bs rs) (i0 : -9223372036854775808 ≤ i) (i1 : i ≤ 9223372036854775807) :
    Calls Try.prog 35 #[.pointer (some ⟨o, 0, none⟩), .int .i64 1, .int .i64 i] w fun e w' => e = .returned (.int .i64 (atI A T 1 i)) ∧ Below w.heap.size w w' := by
  have c1 : w.cell? ⟨o, 2, none⟩ = some (.int .i64 (fromI A T 1)) := h.head.at 2 rfl
  have c2 : w.cell? ⟨o, 3, none⟩ = some (.int .i64 (fromI A T 2)) := h.head.at 3 rfl
  have e1 := from_succ A T 1 (by omega)
  have e2 := from_rng A T 1 h.a1.2 h.t1.2
  have e3 := size_rng A T 1 h.a1.2 h.t1.2
  simp only [Nat.reduceAdd] at e1
  have hw : IntKind.i64.wrap (fromI A T 2 - fromI A T 1) = sizeI A T 1 := by rw [IntKind.wrap_i64]; omega
  have hk : IntKind.i64.wrap 2 = 2 := by rw [IntKind.wrap_i64]; rfl
  clear e1
  by_cases hn : i < 0
  · have q1 : decide (i < 0) = true := by simpa using hn
    have hR : Hid (atI A T 1 i = -1) := atI_no (by omega)
    clear hn
    go_enter Try.func35, Try.ntmps35
    go_wp2_with fail
    go_quiet (exact Calls.quiet_of_same ((none_any _ (h.drewN _)).flip))
    go_wp2_with fail
    go_ret
    exact ⟨ret_int hR.out.symm, below_drewN (Below.refl _ _) _⟩
  · have q1 : decide (i < 0) = false := by simpa using hn
    by_cases hm : sizeI A T 1 ≤ i
    · have q2 : decide (sizeI A T 1 ≤ i) = true := by simpa using hm
      have hR : Hid (atI A T 1 i = -1) := atI_no (by omega)
      clear hn hm
      go_enter Try.func35, Try.ntmps35
      go_wp2_with fail
      go_quiet (exact Calls.quiet_of_same ((none_any _ (h.drewN _)).flip))
      go_wp2_with fail
      go_ret
      exact ⟨ret_int hR.out.symm, below_drewN (Below.refl _ _) _⟩
    · have q2 : decide (sizeI A T 1 ≤ i) = false := by simpa using hm
      have hR : Hid (atI A T 1 i = fromI A T 1 + i) := atI_yes (by omega) (by omega)
      have hw3 : IntKind.i64.wrap (fromI A T 1 + i) = fromI A T 1 + i := by rw [IntKind.wrap_i64]; omega
      clear hn hm
      go_enter Try.func35, Try.ntmps35
      go_wp2_with fail
      go_quiet (exact Calls.quiet_of_same ((none_any _ (h.drewN _)).flip))
      go_wp2_with fail
      go_ret
      exact ⟨ret_int hR.out.symm, below_drewN (Below.refl _ _) _⟩
set_option maxRecDepth 100000 in
set_option maxHeartbeats 3200000 in
theorem at_2 {o oc g gb gr A T : Nat} {L : List (Int × Int)} {bs rs : List (List Value)} (i : Int) (w : World) (h : MemAt w o oc g gb gr A T L bs rs) (i0 : -9223372036854775808 ≤ i) (i1 : i ≤ 9223372036854775807) :
    Calls Try.prog 35 #[.pointer (some ⟨o, 0, none⟩), .int .i64 2, .int .i64 i] w fun e w' => e = .returned (.int .i64 (atI A T 2 i)) ∧ Below w.heap.size w w' := by
  have c1 : w.cell? ⟨o, 3, none⟩ = some (.int .i64 (fromI A T 2)) := h.head.at 3 rfl
  have c2 : w.cell? ⟨o, 4, none⟩ = some (.int .i64 (fromI A T 3)) := h.head.at 4 rfl
  have e1 := from_succ A T 2 (by omega)
  have e2 := from_rng A T 2 h.a1.2 h.t1.2
  have e3 := size_rng A T 2 h.a1.2 h.t1.2
  simp only [Nat.reduceAdd] at e1
  have hw : IntKind.i64.wrap (fromI A T 3 - fromI A T 2) = sizeI A T 2 := by rw [IntKind.wrap_i64]; omega
  have hk : IntKind.i64.wrap 3 = 3 := by rw [IntKind.wrap_i64]; rfl
  clear e1
  by_cases hn : i < 0
  · have q1 : decide (i < 0) = true := by simpa using hn
    have hR : Hid (atI A T 2 i = -1) := atI_no (by omega)
    clear hn
    go_enter Try.func35, Try.ntmps35
    go_wp2_with fail
    go_quiet (exact Calls.quiet_of_same ((none_any _ (h.drewN _)).flip))
    go_wp2_with fail
    go_ret
    exact ⟨ret_int hR.out.symm, below_drewN (Below.refl _ _) _⟩
  · have q1 : decide (i < 0) = false := by simpa using hn
    by_cases hm : sizeI A T 2 ≤ i
    · have q2 : decide (sizeI A T 2 ≤ i) = true := by simpa using hm
      have hR : Hid (atI A T 2 i = -1) := atI_no (by omega)
      clear hn hm
      go_enter Try.func35, Try.ntmps35
      go_wp2_with fail
      go_quiet (exact Calls.quiet_of_same ((none_any _ (h.drewN _)).flip))
      go_wp2_with fail
      go_ret
      exact ⟨ret_int hR.out.symm, below_drewN (Below.refl _ _) _⟩
    · have q2 : decide (sizeI A T 2 ≤ i) = false := by simpa using hm
      have hR : Hid (atI A T 2 i = fromI A T 2 + i) := atI_yes (by omega) (by omega)
      have hw3 : IntKind.i64.wrap (fromI A T 2 + i) = fromI A T 2 + i := by rw [IntKind.wrap_i64]; omega
      clear hn hm
      go_enter Try.func35, Try.ntmps35
      go_wp2_with fail
      go_quiet (exact Calls.quiet_of_same ((none_any _ (h.drewN _)).flip))
      go_wp2_with fail
      go_ret
      exact ⟨ret_int hR.out.symm, below_drewN (Below.refl _ _) _⟩
set_option maxRecDepth 100000 in
set_option maxHeartbeats 3200000 in
theorem at_3 {o oc g gb gr A T : Nat} {L : List (Int × Int)} {bs rs : List (List Value)} (i : Int) (w : World) (h : MemAt w o oc g gb gr A T L bs rs) (i0 : -9223372036854775808 ≤ i) (i1 : i ≤ 9223372036854775807) :
    Calls Try.prog 35 #[.pointer (some ⟨o, 0, none⟩), .int .i64 3, .int .i64 i] w fun e w' => e = .returned (.int .i64 (atI A T 3 i)) ∧ Below w.heap.size w w' := by
  have c1 : w.cell? ⟨o, 4, none⟩ = some (.int .i64 (fromI A T 3)) := h.head.at 4 rfl
  have c2 : w.cell? ⟨o, 5, none⟩ = some (.int .i64 (fromI A T 4)) := h.head.at 5 rfl
  have e1 := from_succ A T 3 (by omega)
  have e2 := from_rng A T 3 h.a1.2 h.t1.2
  have e3 := size_rng A T 3 h.a1.2 h.t1.2
  simp only [Nat.reduceAdd] at e1
  have hw : IntKind.i64.wrap (fromI A T 4 - fromI A T 3) = sizeI A T 3 := by rw [IntKind.wrap_i64]; omega
  have hk : IntKind.i64.wrap 4 = 4 := by rw [IntKind.wrap_i64]; rfl
  clear e1
  by_cases hn : i < 0
  · have q1 : decide (i < 0) = true := by simpa using hn
    have hR : Hid (atI A T 3 i = -1) := atI_no (by omega)
    clear hn
    go_enter Try.func35, Try.ntmps35
    go_wp2_with fail
    go_quiet (exact Calls.quiet_of_same ((none_any _ (h.drewN _)).flip))
    go_wp2_with fail
    go_ret
    exact ⟨ret_int hR.out.symm, below_drewN (Below.refl _ _) _⟩
  · have q1 : decide (i < 0) = false := by simpa using hn
    by_cases hm : sizeI A T 3 ≤ i
    · have q2 : decide (sizeI A T 3 ≤ i) = true := by simpa using hm
      have hR : Hid (atI A T 3 i = -1) := atI_no (by omega)
      clear hn hm
      go_enter Try.func35, Try.ntmps35
      go_wp2_with fail
      go_quiet (exact Calls.quiet_of_same ((none_any _ (h.drewN _)).flip))
      go_wp2_with fail
      go_ret
      exact ⟨ret_int hR.out.symm, below_drewN (Below.refl _ _) _⟩
    · have q2 : decide (sizeI A T 3 ≤ i) = false := by simpa using hm
      have hR : Hid (atI A T 3 i = fromI A T 3 + i) := atI_yes (by omega) (by omega)
      have hw3 : IntKind.i64.wrap (fromI A T 3 + i) = fromI A T 3 + i := by rw [IntKind.wrap_i64]; omega
      clear hn hm
      go_enter Try.func35, Try.ntmps35
      go_wp2_with fail
      go_quiet (exact Calls.quiet_of_same ((none_any _ (h.drewN _)).flip))
      go_wp2_with fail
      go_ret
      exact ⟨ret_int hR.out.symm, below_drewN (Below.refl _ _) _⟩
set_option maxRecDepth 100000 in
set_option maxHeartbeats 3200000 in
theorem at_4 {o oc g gb gr A T : Nat} {L : List (Int × Int)} {bs rs : List (List Value)} (i : Int) (w : World) (h : MemAt w o oc g gb gr A T L bs rs) (i0 : -9223372036854775808 ≤ i) (i1 : i ≤ 9223372036854775807) :
    Calls Try.prog 35 #[.pointer (some ⟨o, 0, none⟩), .int .i64 4, .int .i64 i] w fun e w' => e = .returned (.int .i64 (atI A T 4 i)) ∧ Below w.heap.size w w' := by
  have c1 : w.cell? ⟨o, 5, none⟩ = some (.int .i64 (fromI A T 4)) := h.head.at 5 rfl
  have c2 : w.cell? ⟨o, 6, none⟩ = some (.int .i64 (fromI A T 5)) := h.head.at 6 rfl
  have e1 := from_succ A T 4 (by omega)
  have e2 := from_rng A T 4 h.a1.2 h.t1.2
  have e3 := size_rng A T 4 h.a1.2 h.t1.2
  simp only [Nat.reduceAdd] at e1
  have hw : IntKind.i64.wrap (fromI A T 5 - fromI A T 4) = sizeI A T 4 := by rw [IntKind.wrap_i64]; omega
  have hk : IntKind.i64.wrap 5 = 5 := by rw [IntKind.wrap_i64]; rfl
  clear e1
  by_cases hn : i < 0
  · have q1 : decide (i < 0) = true := by simpa using hn
    have hR : Hid (atI A T 4 i = -1) := atI_no (by omega)
    clear hn
    go_enter Try.func35, Try.ntmps35
    go_wp2_with fail
    go_quiet (exact Calls.quiet_of_same ((none_any _ (h.drewN _)).flip))
    go_wp2_with fail
    go_ret
    exact ⟨ret_int hR.out.symm, below_drewN (Below.refl _ _) _⟩
  · have q1 : decide (i < 0) = false := by simpa using hn
    by_cases hm : sizeI A T 4 ≤ i
    · have q2 : decide (sizeI A T 4 ≤ i) = true := by simpa using hm
      have hR : Hid (atI A T 4 i = -1) := atI_no (by omega)
      clear hn hm
      go_enter Try.func35, Try.ntmps35
      go_wp2_with fail
      go_quiet (exact Calls.quiet_of_same ((none_any _ (h.drewN _)).flip))
      go_wp2_with fail
      go_ret
      exact ⟨ret_int hR.out.symm, below_drewN (Below.refl _ _) _⟩
    · have q2 : decide (sizeI A T 4 ≤ i) = false := by simpa using hm
      have hR : Hid (atI A T 4 i = fromI A T 4 + i) := atI_yes (by omega) (by omega)
      have hw3 : IntKind.i64.wrap (fromI A T 4 + i) = fromI A T 4 + i := by rw [IntKind.wrap_i64]; omega
      clear hn hm
      go_enter Try.func35, Try.ntmps35
      go_wp2_with fail
      go_quiet (exact Calls.quiet_of_same ((none_any _ (h.drewN _)).flip))
      go_wp2_with fail
      go_ret
      exact ⟨ret_int hR.out.symm, below_drewN (Below.refl _ _) _⟩
set_option maxRecDepth 100000 in
set_option maxHeartbeats 3200000 in
theorem at_5 {o oc g gb gr A T : Nat} {L : List (Int × Int)} {bs rs : List (List Value)} (i : Int) (w : World) (h : MemAt w o oc g gb gr A T L bs rs) (i0 : -9223372036854775808 ≤ i) (i1 : i ≤ 9223372036854775807) :
    Calls Try.prog 35 #[.pointer (some ⟨o, 0, none⟩), .int .i64 5, .int .i64 i] w fun e w' => e = .returned (.int .i64 (atI A T 5 i)) ∧ Below w.heap.size w w' := by
  have c1 : w.cell? ⟨o, 6, none⟩ = some (.int .i64 (fromI A T 5)) := h.head.at 6 rfl
  have c2 : w.cell? ⟨o, 7, none⟩ = some (.int .i64 (fromI A T 6)) := h.head.at 7 rfl
  have e1 := from_succ A T 5 (by omega)
  have e2 := from_rng A T 5 h.a1.2 h.t1.2
  have e3 := size_rng A T 5 h.a1.2 h.t1.2
  simp only [Nat.reduceAdd] at e1
  have hw : IntKind.i64.wrap (fromI A T 6 - fromI A T 5) = sizeI A T 5 := by rw [IntKind.wrap_i64]; omega
  have hk : IntKind.i64.wrap 6 = 6 := by rw [IntKind.wrap_i64]; rfl
  clear e1
  by_cases hn : i < 0
  · have q1 : decide (i < 0) = true := by simpa using hn
    have hR : Hid (atI A T 5 i = -1) := atI_no (by omega)
    clear hn
    go_enter Try.func35, Try.ntmps35
    go_wp2_with fail
    go_quiet (exact Calls.quiet_of_same ((none_any _ (h.drewN _)).flip))
    go_wp2_with fail
    go_ret
    exact ⟨ret_int hR.out.symm, below_drewN (Below.refl _ _) _⟩
  · have q1 : decide (i < 0) = false := by simpa using hn
    by_cases hm : sizeI A T 5 ≤ i
    · have q2 : decide (sizeI A T 5 ≤ i) = true := by simpa using hm
      have hR : Hid (atI A T 5 i = -1) := atI_no (by omega)
      clear hn hm
      go_enter Try.func35, Try.ntmps35
      go_wp2_with fail
      go_quiet (exact Calls.quiet_of_same ((none_any _ (h.drewN _)).flip))
      go_wp2_with fail
      go_ret
      exact ⟨ret_int hR.out.symm, below_drewN (Below.refl _ _) _⟩
    · have q2 : decide (sizeI A T 5 ≤ i) = false := by simpa using hm
      have hR : Hid (atI A T 5 i = fromI A T 5 + i) := atI_yes (by omega) (by omega)
      have hw3 : IntKind.i64.wrap (fromI A T 5 + i) = fromI A T 5 + i := by rw [IntKind.wrap_i64]; omega
      clear hn hm
      go_enter Try.func35, Try.ntmps35
      go_wp2_with fail
      go_quiet (exact Calls.quiet_of_same ((none_any _ (h.drewN _)).flip))
      go_wp2_with fail
      go_ret
      exact ⟨ret_int hR.out.symm, below_drewN (Below.refl _ _) _⟩
set_option maxRecDepth 100000 in
set_option maxHeartbeats 3200000 in
theorem at_6 {o oc g gb gr A T : Nat} {L : List (Int × Int)} {bs rs : List (List Value)} (i : Int) (w : World) (h : MemAt w o oc g gb gr A T L bs rs) (i0 : -9223372036854775808 ≤ i) (i1 : i ≤ 9223372036854775807) :
    Calls Try.prog 35 #[.pointer (some ⟨o, 0, none⟩), .int .i64 6, .int .i64 i] w fun e w' => e = .returned (.int .i64 (atI A T 6 i)) ∧ Below w.heap.size w w' := by
  have c1 : w.cell? ⟨o, 7, none⟩ = some (.int .i64 (fromI A T 6)) := h.head.at 7 rfl
  have c2 : w.cell? ⟨o, 8, none⟩ = some (.int .i64 (fromI A T 7)) := h.head.at 8 rfl
  have e1 := from_succ A T 6 (by omega)
  have e2 := from_rng A T 6 h.a1.2 h.t1.2
  have e3 := size_rng A T 6 h.a1.2 h.t1.2
  simp only [Nat.reduceAdd] at e1
  have hw : IntKind.i64.wrap (fromI A T 7 - fromI A T 6) = sizeI A T 6 := by rw [IntKind.wrap_i64]; omega
  have hk : IntKind.i64.wrap 7 = 7 := by rw [IntKind.wrap_i64]; rfl
  clear e1
  by_cases hn : i < 0
  · have q1 : decide (i < 0) = true := by simpa using hn
    have hR : Hid (atI A T 6 i = -1) := atI_no (by omega)
    clear hn
    go_enter Try.func35, Try.ntmps35
    go_wp2_with fail
    go_quiet (exact Calls.quiet_of_same ((none_any _ (h.drewN _)).flip))
    go_wp2_with fail
    go_ret
    exact ⟨ret_int hR.out.symm, below_drewN (Below.refl _ _) _⟩
  · have q1 : decide (i < 0) = false := by simpa using hn
    by_cases hm : sizeI A T 6 ≤ i
    · have q2 : decide (sizeI A T 6 ≤ i) = true := by simpa using hm
      have hR : Hid (atI A T 6 i = -1) := atI_no (by omega)
      clear hn hm
      go_enter Try.func35, Try.ntmps35
      go_wp2_with fail
      go_quiet (exact Calls.quiet_of_same ((none_any _ (h.drewN _)).flip))
      go_wp2_with fail
      go_ret
      exact ⟨ret_int hR.out.symm, below_drewN (Below.refl _ _) _⟩
    · have q2 : decide (sizeI A T 6 ≤ i) = false := by simpa using hm
      have hR : Hid (atI A T 6 i = fromI A T 6 + i) := atI_yes (by omega) (by omega)
      have hw3 : IntKind.i64.wrap (fromI A T 6 + i) = fromI A T 6 + i := by rw [IntKind.wrap_i64]; omega
      clear hn hm
      go_enter Try.func35, Try.ntmps35
      go_wp2_with fail
      go_quiet (exact Calls.quiet_of_same ((none_any _ (h.drewN _)).flip))
      go_wp2_with fail
      go_ret
      exact ⟨ret_int hR.out.symm, below_drewN (Below.refl _ _) _⟩
set_option maxHeartbeats 800000 in
theorem node_any {o oc g gb gr A T : Nat} {L : List (Int × Int)} {bs rs : List (List Value)} (i : Int) (w : World) (h : MemAt w o oc g gb gr A T L bs rs) (i0 : -9223372036854775808 ≤ i) (i1 : i ≤ 9223372036854775807) :
    Calls Try.prog 20 #[.pointer (some ⟨o, 0, none⟩), .int .i64 i] w fun e w' => e = .returned (.int .i64 (atI A T 0 i)) ∧ Below w.heap.size w w' := by
  go_enter Try.func20, Try.ntmps20
  go_wp2_with fail
  refine (at_0 i _ h i0 i1).mono ?_
  rintro e w1 ⟨rfl, hb1⟩
  go_wp2_with fail
  go_ret
  exact ⟨rfl, hb1⟩
set_option maxHeartbeats 800000 in
theorem node_nil (i : Int) (w : World) : Calls Try.prog 20 #[.pointer none, .int .i64 i] w fun e w' => e = .returned (.int .i64 (-1)) ∧ Below w.heap.size w w' := by
  go_enter Try.func20, Try.ntmps20
  go_wp2_with fail
  refine (at_nil _ i _).mono ?_
  rintro e w1 ⟨rfl, hb1⟩
  go_wp2_with fail
  go_ret
  exact ⟨rfl, hb1⟩
set_option maxHeartbeats 800000 in
theorem node_zero (o : Nat) (i : Int) (w : World) (h : NoMem w o) : Calls Try.prog 20 #[.pointer (some ⟨o, 0, none⟩), .int .i64 i] w fun e w' => e = .returned (.int .i64 (-1)) ∧ Below w.heap.size w w' := by
  go_enter Try.func20, Try.ntmps20
  go_wp2_with fail
  refine (at_zero _ _ i _ h).mono ?_
  rintro e w1 ⟨rfl, hb1⟩
  go_wp2_with fail
  go_ret
  exact ⟨rfl, hb1⟩
set_option maxHeartbeats 800000 in
theorem muse_any {o oc g gb gr A T : Nat} {L : List (Int × Int)} {bs rs : List (List Value)} (i : Int) (w : World) (h : MemAt w o oc g gb gr A T L bs rs) (i0 : -9223372036854775808 ≤ i) (i1 : i ≤ 9223372036854775807) :
    Calls Try.prog 45 #[.pointer (some ⟨o, 0, none⟩), .int .i64 i] w fun e w' => e = .returned (.int .i64 (atI A T 1 i)) ∧ Below w.heap.size w w' := by
  go_enter Try.func45, Try.ntmps45
  go_wp2_with fail
  refine (at_1 i _ h i0 i1).mono ?_
  rintro e w1 ⟨rfl, hb1⟩
  go_wp2_with fail
  go_ret
  exact ⟨rfl, hb1⟩
set_option maxHeartbeats 800000 in
theorem muse_nil (i : Int) (w : World) : Calls Try.prog 45 #[.pointer none, .int .i64 i] w fun e w' => e = .returned (.int .i64 (-1)) ∧ Below w.heap.size w w' := by
  go_enter Try.func45, Try.ntmps45
  go_wp2_with fail
  refine (at_nil _ i _).mono ?_
  rintro e w1 ⟨rfl, hb1⟩
  go_wp2_with fail
  go_ret
  exact ⟨rfl, hb1⟩
set_option maxHeartbeats 800000 in
theorem muse_zero (o : Nat) (i : Int) (w : World) (h : NoMem w o) : Calls Try.prog 45 #[.pointer (some ⟨o, 0, none⟩), .int .i64 i] w fun e w' => e = .returned (.int .i64 (-1)) ∧ Below w.heap.size w w' := by
  go_enter Try.func45, Try.ntmps45
  go_wp2_with fail
  refine (at_zero _ _ i _ h).mono ?_
  rintro e w1 ⟨rfl, hb1⟩
  go_wp2_with fail
  go_ret
  exact ⟨rfl, hb1⟩
/-- the gate's cell -/
def gateI (A T : Nat) : Int := 2 * A + 5 * T
theorem gate_at (A T : Nat) : atI A T 6 0 = gateI A T := by
  rw [atI_yes (by omega) (by simp [sizeI])]; simp [fromI, gateI]
set_option maxHeartbeats 800000 in
theorem arena_any {o oc g gb gr A T : Nat} {L : List (Int × Int)} {bs rs : List (List Value)} (w : World) (h : MemAt w o oc g gb gr A T L bs rs) :
    Calls Try.prog 44 #[.pointer (some ⟨o, 0, none⟩)] w fun e w' => e = .returned (.int .i64 A) ∧ w = w' := by
  have c0 : w.cell? ⟨o, 9, none⟩ = some (.slice (some ⟨gb, 0, none⟩) A A) := h.head.at 9 rfl
  go_enter Try.func44, Try.ntmps44
  go_wp2_with fail
  refine (none_any _ h).mono ?_
  rintro e w1 ⟨rfl, rfl⟩
  go_wp2_with fail
  go_ret
  exact ⟨rfl, rfl⟩
set_option maxHeartbeats 800000 in
theorem arena_nil (w : World) : Calls Try.prog 44 #[.pointer none] w fun e w' => e = .returned (.int .i64 0) ∧ w = w' := by
  go_enter Try.func44, Try.ntmps44
  go_wp2_with fail
  refine (none_nil _).mono ?_
  rintro e w1 ⟨rfl, rfl⟩
  go_wp2_with fail
  go_ret
  exact ⟨rfl, rfl⟩
set_option maxHeartbeats 800000 in
theorem arena_zero (o : Nat) (w : World) (h : NoMem w o) : Calls Try.prog 44 #[.pointer (some ⟨o, 0, none⟩)] w fun e w' => e = .returned (.int .i64 0) ∧ w = w' := by
  go_enter Try.func44, Try.ntmps44
  go_wp2_with fail
  refine (none_zero _ _ h).mono ?_
  rintro e w1 ⟨rfl, rfl⟩
  go_wp2_with fail
  go_ret
  exact ⟨rfl, rfl⟩
set_option maxHeartbeats 800000 in
theorem threads_any {o oc g gb gr A T : Nat} {L : List (Int × Int)} {bs rs : List (List Value)} (w : World) (h : MemAt w o oc g gb gr A T L bs rs) :
    Calls Try.prog 36 #[.pointer (some ⟨o, 0, none⟩)] w fun e w' => e = .returned (.int .i64 T) ∧ w = w' := by
  have c0 : w.cell? ⟨o, 10, none⟩ = some (.slice (some ⟨gr, 0, none⟩) T T) := h.head.at 10 rfl
  go_enter Try.func36, Try.ntmps36
  go_wp2_with fail
  refine (none_any _ h).mono ?_
  rintro e w1 ⟨rfl, rfl⟩
  go_wp2_with fail
  go_ret
  exact ⟨rfl, rfl⟩
set_option maxHeartbeats 800000 in
theorem threads_nil (w : World) : Calls Try.prog 36 #[.pointer none] w fun e w' => e = .returned (.int .i64 0) ∧ w = w' := by
  go_enter Try.func36, Try.ntmps36
  go_wp2_with fail
  refine (none_nil _).mono ?_
  rintro e w1 ⟨rfl, rfl⟩
  go_wp2_with fail
  go_ret
  exact ⟨rfl, rfl⟩
set_option maxHeartbeats 800000 in
theorem threads_zero (o : Nat) (w : World) (h : NoMem w o) : Calls Try.prog 36 #[.pointer (some ⟨o, 0, none⟩)] w fun e w' => e = .returned (.int .i64 0) ∧ w = w' := by
  go_enter Try.func36, Try.ntmps36
  go_wp2_with fail
  refine (none_zero _ _ h).mono ?_
  rintro e w1 ⟨rfl, rfl⟩
  go_wp2_with fail
  go_ret
  exact ⟨rfl, rfl⟩
set_option maxHeartbeats 800000 in
theorem mload_any {o oc g gb gr A T : Nat} {L : List (Int × Int)} {bs rs : List (List Value)} (i : Int) (w : World) (h : MemAt w o oc g gb gr A T L bs rs) :
    Calls Try.prog 19 #[.pointer (some ⟨o, 0, none⟩), .int .i64 i] w fun e w' => e = .returned (.tuple #[.int .u64 (loadW L i), .int .u64 (loadV L i), .bool (inB L.length i)]) ∧ Below w.heap.size w w' := by
  have c0 := h.ptr
  go_enter Try.func19, Try.ntmps19
  go_wp2_with fail
  refine (none_any _ h).mono ?_
  rintro e w1 ⟨rfl, rfl⟩
  go_wp2_with fail
  refine (load_any _ _ _ _ _ h.cells).mono ?_
  rintro e w1 ⟨rfl, hb1⟩
  go_wp2_with fail
  go_ret3
  exact ⟨rfl, hb1⟩
set_option maxHeartbeats 800000 in
theorem mload_nil (i : Int) (w : World) : Calls Try.prog 19 #[.pointer none, .int .i64 i] w fun e w' => e = .returned (.tuple #[.int .u64 0, .int .u64 0, .bool false]) ∧ w = w' := by
  go_enter Try.func19, Try.ntmps19
  go_wp2_with fail
  refine (none_nil _).mono ?_
  rintro e w1 ⟨rfl, rfl⟩
  go_wp2_with fail
  go_ret3
  exact ⟨rfl, rfl⟩
set_option maxHeartbeats 800000 in
theorem mload_zero (o : Nat) (i : Int) (w : World) (h : NoMem w o) : Calls Try.prog 19 #[.pointer (some ⟨o, 0, none⟩), .int .i64 i] w fun e w' => e = .returned (.tuple #[.int .u64 0, .int .u64 0, .bool false]) ∧ w = w' := by
  go_enter Try.func19, Try.ntmps19
  go_wp2_with fail
  refine (none_zero _ _ h).mono ?_
  rintro e w1 ⟨rfl, rfl⟩
  go_wp2_with fail
  go_ret3
  exact ⟨rfl, rfl⟩
/-- a hazard's cell -/
def hazI (A T : Nat) (t k : Int) : Int := if 0 ≤ k ∧ k < 2 ∧ 0 ≤ t ∧ t < T then 2 * A + 3 * T + (2 * t + k) else -1
theorem hazI_no {A T : Nat} {t k : Int} (h : ¬ (0 ≤ k ∧ k < 2 ∧ 0 ≤ t ∧ t < T)) : hazI A T t k = -1 := if_neg h
theorem hazI_yes {A T : Nat} {t k : Int} (h : 0 ≤ k ∧ k < 2 ∧ 0 ≤ t ∧ t < T) : atI A T 5 (t * 2 + k) = hazI A T t k := by
  unfold hazI
  rw [if_pos h, atI_yes (by omega) (by simp [sizeI]; omega)]
  simp [fromI]; omega
set_option maxHeartbeats 1600000 in
theorem haz_any {o oc g gb gr A T : Nat} {L : List (Int × Int)} {bs rs : List (List Value)} (t k : Int) (w : World) (h : MemAt w o oc g gb gr A T L bs rs) :
    Calls Try.prog 21 #[.pointer (some ⟨o, 0, none⟩), .int .i64 t, .int .i64 k] w fun e w' => e = .returned (.int .i64 (hazI A T t k)) ∧ Below w.heap.size w w' := by
  have hT := h.t1
  by_cases h1 : k < 0
  · have q1 : decide (k < 0) = true := by simpa using h1
    have hR : Hid (hazI A T t k = -1) := hazI_no (by omega)
    clear h1
    go_enter Try.func21, Try.ntmps21
    go_wp2_with fail
    go_ret
    exact ⟨ret_int hR.out.symm, Below.refl _ _⟩
  have q1 : decide (k < 0) = false := by simpa using h1
  by_cases h2 : 2 ≤ k
  · have q2 : decide (2 ≤ k) = true := by simpa using h2
    have hR : Hid (hazI A T t k = -1) := hazI_no (by omega)
    clear h1 h2
    go_enter Try.func21, Try.ntmps21
    go_wp2_with fail
    go_ret
    exact ⟨ret_int hR.out.symm, Below.refl _ _⟩
  have q2 : decide (2 ≤ k) = false := by simpa using h2
  by_cases h3 : t < 0
  · have q3 : decide (t < 0) = true := by simpa using h3
    have hR : Hid (hazI A T t k = -1) := hazI_no (by omega)
    clear h1 h2 h3
    go_enter Try.func21, Try.ntmps21
    go_wp2_with fail
    go_ret
    exact ⟨ret_int hR.out.symm, Below.refl _ _⟩
  have q3 : decide (t < 0) = false := by simpa using h3
  by_cases h4 : (T : Int) ≤ t
  · have q4 : decide ((T : Int) ≤ t) = true := by simpa using h4
    have hR : Hid (hazI A T t k = -1) := hazI_no (by omega)
    clear h1 h2 h3 h4
    go_enter Try.func21, Try.ntmps21
    go_wp2_with fail
    refine (threads_any _ h).mono ?_
    rintro e w1 ⟨rfl, rfl⟩
    go_wp2_with fail
    go_ret
    exact ⟨ret_int hR.out.symm, Below.refl _ _⟩
  have q4 : decide ((T : Int) ≤ t) = false := by simpa using h4
  have hy := hazI_yes (A := A) (show 0 ≤ k ∧ k < 2 ∧ 0 ≤ t ∧ t < (T : Int) by omega)
  have ha := at_5 (t * 2 + k) w h (by omega) (by omega)
  rw [hy] at ha
  have hw1 : IntKind.i64.wrap (t * 2) = t * 2 := by rw [IntKind.wrap_i64]; omega
  have hw2 : IntKind.i64.wrap (t * 2 + k) = t * 2 + k := by rw [IntKind.wrap_i64]; omega
  have hb1 : -9223372036854775808 ≤ t * 2 ∧ t * 2 ≤ 9223372036854775807 := by omega
  have hb2 : -9223372036854775808 ≤ t * 2 + k ∧ t * 2 + k ≤ 9223372036854775807 := by omega
  clear h1 h2 h3 h4 hy
  go_enter Try.func21, Try.ntmps21
  go_wp2_with fail
  refine (threads_any _ h).mono ?_
  rintro e w1 ⟨rfl, rfl⟩
  go_wp2_with fail
  refine ha.mono ?_
  rintro e w1 ⟨rfl, hb1⟩
  go_wp2_with fail
  go_ret
  exact ⟨rfl, hb1⟩
end Go.Proofs.Ytgdeiaholkmfeaa.MemP

/-
  Accesses of cells: contracts of clear, write and Do (load, store, write by version).
-/
namespace Go.Proofs.Ytgdeiaholkmfeaa.MemP
open Go.RowKit RefP CellP
set_option linter.unusedVariables false
set_option linter.unusedSimpArgs false

/-- blocks behind a write of a use's cell -/
def clearL (bs : List (List Value)) (A : Nat) (c : Int) : List (List Value) := if (A : Int) ≤ c ∧ c < 2 * A then bs.set (c - A).toNat zb else bs
theorem clearL_no {bs : List (List Value)} {A : Nat} {c : Int} (h : ¬ ((A : Int) ≤ c ∧ c < 2 * A)) : clearL bs A c = bs := if_neg h
theorem clearL_yes {bs : List (List Value)} {A : Nat} {c : Int} (h : (A : Int) ≤ c ∧ c < 2 * A) : clearL bs A c = bs.set (c - A).toNat zb := if_pos h
theorem clearL_length (bs : List (List Value)) (A : Nat) (c : Int) : (clearL bs A c).length = bs.length := by unfold clearL; split <;> simp
theorem MemAt.cleared {w : World} {o oc g gb gr A T : Nat} {L : List (Int × Int)} {bs rs : List (List Value)} (h : MemAt w o oc g gb gr A T L bs rs) (k : Nat) (hk : k < A) :
    MemAt (put17 w gb k (.int .i64 0) (.int .i64 0) (.string ⟨#[]⟩) (.string ⟨#[]⟩) (.bool false) (.int .i64 0) (.slice none 0 0) (.slice none 0 0) (.slice none 0 0) (.int .i64 0) (.int .i64 0) (.string ⟨#[]⟩) (.int .u64 0) (.slice none 0 0) (.slice none 0 0) (.slice none 0 0) (.slice none 0 0)) o oc g gb gr A T L (bs.set k zb) rs ∧
    Fr [gb] w (put17 w gb k (.int .i64 0) (.int .i64 0) (.string ⟨#[]⟩) (.string ⟨#[]⟩) (.bool false) (.int .i64 0) (.slice none 0 0) (.slice none 0 0) (.slice none 0 0) (.int .i64 0) (.int .i64 0) (.string ⟨#[]⟩) (.int .u64 0) (.slice none 0 0) (.slice none 0 0) (.slice none 0 0) (.slice none 0 0)) := by
  have hB := blk_put17 h.blocks k (by rw [h.lb]; exact hk) (.int .i64 0) (.int .i64 0) (.string ⟨#[]⟩) (.string ⟨#[]⟩) (.bool false) (.int .i64 0) (.slice none 0 0) (.slice none 0 0) (.slice none 0 0) (.int .i64 0) (.int .i64 0) (.string ⟨#[]⟩) (.int .u64 0) (.slice none 0 0) (.slice none 0 0) (.slice none 0 0) (.slice none 0 0)
  have hF := fr_put17 w gb k (.int .i64 0) (.int .i64 0) (.string ⟨#[]⟩) (.string ⟨#[]⟩) (.bool false) (.int .i64 0) (.slice none 0 0) (.slice none 0 0) (.slice none 0 0) (.int .i64 0) (.int .i64 0) (.string ⟨#[]⟩) (.int .u64 0) (.slice none 0 0) (.slice none 0 0) (.slice none 0 0) (.slice none 0 0)
  have n := h.ne
  refine ⟨⟨hF.blk h.head (by simp; omega), ⟨hF.blk h.cells.head (by simp; omega), hF.blk h.cells.rows (by simp; omega), h.cells.ne, h.cells.rng, h.cells.len⟩, hB, hF.blk h.records (by simp; omega), h.len, by simpa using h.lb, h.lr, h.a1, h.t1, h.ne⟩, hF⟩
set_option maxRecDepth 100000 in
set_option maxHeartbeats 3200000 in
theorem clear_any {o oc g gb gr A T : Nat} {L : List (Int × Int)} {bs rs : List (List Value)} (c : Int) (w : World) (h : MemAt w o oc g gb gr A T L bs rs) (c0 : 0 ≤ c) (c1 : c ≤ 20000) :
    Calls Try.prog 43 #[.pointer (some ⟨o, 0, none⟩), .int .i64 c] w fun e w' => e = .returned (.tuple #[]) ∧ MemAt w' o oc g gb gr A T L (clearL bs A c) rs ∧ Fr [gb] w w' := by
  have hA := h.a1
  have d2 : w.cell? ⟨o, 2, none⟩ = some (.int .i64 A) := h.head.at 2 rfl
  have d9 : w.cell? ⟨o, 9, none⟩ = some (.slice (some ⟨gb, 0, none⟩) A A) := h.head.at 9 rfl
  obtain ⟨d, hd⟩ : ∃ d, d = c - (A : Int) := ⟨_, rfl⟩
  have hw : IntKind.i64.wrap (c - (A : Int)) = d := by rw [IntKind.wrap_i64]; omega
  by_cases h1 : d < 0
  · have q1 : decide (0 ≤ d) = false := by simp; omega
    have hL := clearL_no (bs := bs) (show ¬ ((A : Int) ≤ c ∧ c < 2 * A) by omega)
    clear h1 hd
    go_enter Try.func43, Try.ntmps43
    go_wp2_with fail
    go_end0
    exact ⟨rfl, by rw [hL]; exact h, Fr.refl _ _⟩
  · have q1 : decide (0 ≤ d) = true := by simp; omega
    by_cases h2 : d < A
    · have q2 : decide (d < (A : Int)) = true := by simpa using h2
      have hL := clearL_yes (bs := bs) (show (A : Int) ≤ c ∧ c < 2 * A by omega)
      obtain ⟨k, hk⟩ := Int.eq_ofNat_of_zero_le (show 0 ≤ d by omega)
      have hkA : k < A := by omega
      have hkA' : (k : Int) < (A : Int) := by omega
      rw [← hd, hk, Int.toNat_natCast] at hL
      subst hk
      obtain ⟨hM, hF⟩ := h.cleared k hkA
      have hkl : k < bs.length := by rw [h.lb]; exact hkA
      have hB := h.blocks
      have e0 := hB.at (k * 17) (raw_at _ k 0 hkl (by omega))
      have f0 := hB.free (k * 17)
      have e1 := hB.at (k * 17 + 1) (raw_at _ k 1 hkl (by omega))
      have f1 := hB.free (k * 17 + 1)
      have e2 := hB.at (k * 17 + 2) (raw_at _ k 2 hkl (by omega))
      have f2 := hB.free (k * 17 + 2)
      have e3 := hB.at (k * 17 + 3) (raw_at _ k 3 hkl (by omega))
      have f3 := hB.free (k * 17 + 3)
      have e4 := hB.at (k * 17 + 4) (raw_at _ k 4 hkl (by omega))
      have f4 := hB.free (k * 17 + 4)
      have e5 := hB.at (k * 17 + 5) (raw_at _ k 5 hkl (by omega))
      have f5 := hB.free (k * 17 + 5)
      have e6 := hB.at (k * 17 + 6) (raw_at _ k 6 hkl (by omega))
      have f6 := hB.free (k * 17 + 6)
      have e7 := hB.at (k * 17 + 7) (raw_at _ k 7 hkl (by omega))
      have f7 := hB.free (k * 17 + 7)
      have e8 := hB.at (k * 17 + 8) (raw_at _ k 8 hkl (by omega))
      have f8 := hB.free (k * 17 + 8)
      have e9 := hB.at (k * 17 + 9) (raw_at _ k 9 hkl (by omega))
      have f9 := hB.free (k * 17 + 9)
      have e10 := hB.at (k * 17 + 10) (raw_at _ k 10 hkl (by omega))
      have f10 := hB.free (k * 17 + 10)
      have e11 := hB.at (k * 17 + 11) (raw_at _ k 11 hkl (by omega))
      have f11 := hB.free (k * 17 + 11)
      have e12 := hB.at (k * 17 + 12) (raw_at _ k 12 hkl (by omega))
      have f12 := hB.free (k * 17 + 12)
      have e13 := hB.at (k * 17 + 13) (raw_at _ k 13 hkl (by omega))
      have f13 := hB.free (k * 17 + 13)
      have e14 := hB.at (k * 17 + 14) (raw_at _ k 14 hkl (by omega))
      have f14 := hB.free (k * 17 + 14)
      have e15 := hB.at (k * 17 + 15) (raw_at _ k 15 hkl (by omega))
      have f15 := hB.free (k * 17 + 15)
      have e16 := hB.at (k * 17 + 16) (raw_at _ k 16 hkl (by omega))
      have f16 := hB.free (k * 17 + 16)
      clear h1 h2 hd
      go_enter Try.func43, Try.ntmps43
      go_wp2_with fail
      go_end0
      exact ⟨rfl, by rw [hL]; exact hM, hF⟩
    · have q2 : decide (d < (A : Int)) = false := by simpa using h2
      have hL := clearL_no (bs := bs) (show ¬ ((A : Int) ≤ c ∧ c < 2 * A) by omega)
      clear h1 h2 hd
      go_enter Try.func43, Try.ntmps43
      go_wp2_with fail
      go_end0
      exact ⟨rfl, by rw [hL]; exact h, Fr.refl _ _⟩
theorem MemAt.celled {w w' : World} {o oc g gb gr A T : Nat} {L L' : List (Int × Int)} {bs rs : List (List Value)} (h : MemAt w o oc g gb gr A T L bs rs) (hg : w.grownBy w' (some g)) (hC : CellsAt w' oc g L') (hl : L'.length = L.length) : MemAt w' o oc g gb gr A T L' bs rs := by
  have n := h.ne
  have hF : Fr [g] w w' := Fr.of_grown hg (by simp)
  exact ⟨hF.blk h.head (by simp; omega), hC, hF.blk h.blocks (by simp; omega), hF.blk h.records (by simp; omega), by rw [hl]; exact h.len, h.lb, h.lr, h.a1, h.t1, h.ne⟩
def storeB (L : List (Int × Int)) (bs : List (List Value)) (A : Nat) (i : Int) : List (List Value) := if inB L.length i = true then clearL bs A i else bs
def casBs (L : List (Int × Int)) (bs : List (List Value)) (A : Nat) (i ver : Int) : List (List Value) := if casB L i ver = true then clearL bs A i else bs
theorem storeB_yes {L : List (Int × Int)} (bs : List (List Value)) (A : Nat) {i : Int} (h : inB L.length i = true) : storeB L bs A i = clearL bs A i := if_pos h
theorem storeB_no {L : List (Int × Int)} (bs : List (List Value)) (A : Nat) {i : Int} (h : inB L.length i = false) : storeB L bs A i = bs := if_neg (by simp [h])
theorem casBs_yes {L : List (Int × Int)} (bs : List (List Value)) (A : Nat) {i ver : Int} (h : casB L i ver = true) : casBs L bs A i ver = clearL bs A i := if_pos h
theorem casBs_no {L : List (Int × Int)} (bs : List (List Value)) (A : Nat) {i ver : Int} (h : casB L i ver = false) : casBs L bs A i ver = bs := if_neg (by simp [h])
theorem casB_in {L : List (Int × Int)} {i ver : Int} (h : casB L i ver = true) : inB L.length i = true := by
  simp only [casB, Bool.and_eq_true] at h; exact h.1
theorem fr_two {g gb : Nat} {w w1 w2 : World} (h : w.grownBy w1 (some g)) (k : Fr [gb] w1 w2) : Fr [g, gb] w w2 :=
  ((Fr.of_grown (S := [g]) h (by simp)).more (by simp)).trans (k.more (by simp))
theorem MemAt.off {w w' : World} {S : List Nat} {o oc g gb gr A T : Nat} {L : List (Int × Int)} {bs rs : List (List Value)} (h : MemAt w o oc g gb gr A T L bs rs) (F : Fr S w w') (hn : o ∉ S ∧ oc ∉ S ∧ g ∉ S ∧ gb ∉ S ∧ gr ∉ S) : MemAt w' o oc g gb gr A T L bs rs :=
  ⟨F.blk h.head hn.1, ⟨F.blk h.cells.head hn.2.1, F.blk h.cells.rows hn.2.2.1, h.cells.ne, h.cells.rng, h.cells.len⟩, F.blk h.blocks hn.2.2.2.1, F.blk h.records hn.2.2.2.2, h.len, h.lb, h.lr, h.a1, h.t1, h.ne⟩
theorem Blk.row {w : World} {b : Nat} {cs : Array Value} {T : TypeId} (k : Blk w b cs T) (cs' : Array Value) : Blk (w.setRow b cs') b cs' T := by
  have hlt := k.lt
  have h' : w.heap[b] = .cells cs T (0, 0) := by simpa [Array.getElem?_eq_getElem hlt] using k.h
  refine ⟨?_⟩
  show (w.heap.modify b _)[b]? = _
  rw [Array.getElem?_eq_getElem (by simpa using hlt), Array.getElem_modify_self, h']
theorem Fr.row {S : List Nat} {w : World} (b : Nat) (cs' : Array Value) (hb : b ∈ S) : Fr S w (w.setRow b cs') := by
  have h := below_setRow (Below.refl b w) (Nat.le_refl _) cs'
  refine ⟨h.os, h.tape, h.output, h.size, fun k hk hn => ?_⟩
  have hne : k ≠ b := fun e => hn (e ▸ hb)
  show (w.heap.modify b _)[k]? = _
  rw [Array.getElem?_modify, if_neg (fun e => hne e.symm)]
/-- blocks that were not there do not count -/
theorem Fr.less {w w' : World} {g gb : Nat} (h : Fr [g, gb, w.heap.size + 1] w w') : Fr [g, gb] w w' :=
  ⟨h.os, h.tape, h.output, h.size, fun b hb hn => h.block b hb (by simp at hn ⊢; omega)⟩
set_option maxRecDepth 100000 in
set_option maxHeartbeats 6400000 in
theorem write_store {o oc g gb gr A T : Nat} {L : List (Int × Int)} {bs rs : List (List Value)} (i ver word : Int) (c4 c5 c6 c7 c8 c9 c10 c11 c12 c13 c14 c15 c16 c17 c18 c19 c20 c21 c22 c23 c24 c25 : Value) (w : World) (h : MemAt w o oc g gb gr A T L bs rs) (x0 : 0 ≤ word) (x1 : word ≤ 18446744073709551615) :
    Calls Try.prog 25 #[.pointer (some ⟨o, 0, none⟩), .agg #[.int .i64 2, .int .i64 i, .int .u64 ver, .int .u64 word, c4, c5, c6, c7, c8, c9, c10, c11, c12, c13, c14, c15, c16, c17, c18, c19, c20, c21, c22, c23, c24, c25]] w fun e w' => e = .returned (.agg #[.bool (inB L.length i), .int .u64 0, .int .u64 0, .int .i64 0, .int .i64 0, .string ⟨#[]⟩, .string ⟨#[]⟩, .bool false, .int .i64 0, .slice none 0 0, .slice none 0 0, .slice none 0 0, .int .i64 0, .int .i64 0, .string ⟨#[]⟩, .int .u64 0, .slice none 0 0, .slice none 0 0, .slice none 0 0, .slice none 0 0, .int .i64 0, .string ⟨#[]⟩, .string ⟨#[]⟩, .int .u64 0, .int .i64 0]) ∧ MemAt w' o oc g gb gr A T (storeL L i word) (storeB L bs A i) rs ∧ Fr [g, gb] w w' := by
  have hb2 : Below w.heap.size w ((w.alloc (.cells #[.int .i64 2, .int .i64 i, .int .u64 ver, .int .u64 word, c4, c5, c6, c7, c8, c9, c10, c11, c12, c13, c14, c15, c16, c17, c18, c19, c20, c21, c22, c23, c24, c25] 44)).alloc (.cells #[.bool false, .int .u64 0, .int .u64 0, .int .i64 0, .int .i64 0, .string ⟨#[]⟩, .string ⟨#[]⟩, .bool false, .int .i64 0, .slice none 0 0, .slice none 0 0, .slice none 0 0, .int .i64 0, .int .i64 0, .string ⟨#[]⟩, .int .u64 0, .slice none 0 0, .slice none 0 0, .slice none 0 0, .slice none 0 0, .int .i64 0, .string ⟨#[]⟩, .string ⟨#[]⟩, .int .u64 0, .int .i64 0] 46)) := by (repeat (first | exact Below.refl _ _ | assumption | refine below_alloc2 ?_ (by first | exact Nat.le_refl _ | omega) _ | refine Below.drew ?_ | refine below_drewN ?_ _ | refine below_push2 ?_ ‹_› (by first | exact Nat.le_refl _ | omega) | refine Below.setCell ?_ (by first | (simp; done) | (simp; omega) | omega) _))
  have h2 := h.below hb2
  have BX := (Blk.new w #[.int .i64 2, .int .i64 i, .int .u64 ver, .int .u64 word, c4, c5, c6, c7, c8, c9, c10, c11, c12, c13, c14, c15, c16, c17, c18, c19, c20, c21, c22, c23, c24, c25] 44).alloc (.cells #[.bool false, .int .u64 0, .int .u64 0, .int .i64 0, .int .i64 0, .string ⟨#[]⟩, .string ⟨#[]⟩, .bool false, .int .i64 0, .slice none 0 0, .slice none 0 0, .slice none 0 0, .int .i64 0, .int .i64 0, .string ⟨#[]⟩, .int .u64 0, .slice none 0 0, .slice none 0 0, .slice none 0 0, .slice none 0 0, .int .i64 0, .string ⟨#[]⟩, .string ⟨#[]⟩, .int .u64 0, .int .i64 0] 46)
  have BR : Blk ((w.alloc (.cells #[.int .i64 2, .int .i64 i, .int .u64 ver, .int .u64 word, c4, c5, c6, c7, c8, c9, c10, c11, c12, c13, c14, c15, c16, c17, c18, c19, c20, c21, c22, c23, c24, c25] 44)).alloc (.cells #[.bool false, .int .u64 0, .int .u64 0, .int .i64 0, .int .i64 0, .string ⟨#[]⟩, .string ⟨#[]⟩, .bool false, .int .i64 0, .slice none 0 0, .slice none 0 0, .slice none 0 0, .int .i64 0, .int .i64 0, .string ⟨#[]⟩, .int .u64 0, .slice none 0 0, .slice none 0 0, .slice none 0 0, .slice none 0 0, .int .i64 0, .string ⟨#[]⟩, .string ⟨#[]⟩, .int .u64 0, .int .i64 0] 46)) (w.heap.size + 1) #[.bool false, .int .u64 0, .int .u64 0, .int .i64 0, .int .i64 0, .string ⟨#[]⟩, .string ⟨#[]⟩, .bool false, .int .i64 0, .slice none 0 0, .slice none 0 0, .slice none 0 0, .int .i64 0, .int .i64 0, .string ⟨#[]⟩, .int .u64 0, .slice none 0 0, .slice none 0 0, .slice none 0 0, .slice none 0 0, .int .i64 0, .string ⟨#[]⟩, .string ⟨#[]⟩, .int .u64 0, .int .i64 0] 46 := by
    have := Blk.new (w.alloc (.cells #[.int .i64 2, .int .i64 i, .int .u64 ver, .int .u64 word, c4, c5, c6, c7, c8, c9, c10, c11, c12, c13, c14, c15, c16, c17, c18, c19, c20, c21, c22, c23, c24, c25] 44)) #[.bool false, .int .u64 0, .int .u64 0, .int .i64 0, .int .i64 0, .string ⟨#[]⟩, .string ⟨#[]⟩, .bool false, .int .i64 0, .slice none 0 0, .slice none 0 0, .slice none 0 0, .int .i64 0, .int .i64 0, .string ⟨#[]⟩, .int .u64 0, .slice none 0 0, .slice none 0 0, .slice none 0 0, .slice none 0 0, .int .i64 0, .string ⟨#[]⟩, .string ⟨#[]⟩, .int .u64 0, .int .i64 0] 46
    simpa using this
  have hgl := h.cells.rows.lt
  have hgbl := h.blocks.lt
  have hol := h.head.lt
  have hocl := h.cells.head.lt
  have hgrl := h.records.lt
  have hin := h.len
  have hA := h.a1
  have hT := h.t1
  generalize hW : ((w.alloc (.cells #[.int .i64 2, .int .i64 i, .int .u64 ver, .int .u64 word, c4, c5, c6, c7, c8, c9, c10, c11, c12, c13, c14, c15, c16, c17, c18, c19, c20, c21, c22, c23, c24, c25] 44)).alloc (.cells #[.bool false, .int .u64 0, .int .u64 0, .int .i64 0, .int .i64 0, .string ⟨#[]⟩, .string ⟨#[]⟩, .bool false, .int .i64 0, .slice none 0 0, .slice none 0 0, .slice none 0 0, .int .i64 0, .int .i64 0, .string ⟨#[]⟩, .int .u64 0, .slice none 0 0, .slice none 0 0, .slice none 0 0, .slice none 0 0, .int .i64 0, .string ⟨#[]⟩, .string ⟨#[]⟩, .int .u64 0, .int .i64 0] 46)) = wq at hb2 h2 BX BR
  have hdr : Below wq.heap.size wq wq.drew := (Below.refl _ _).drew
  have p0 := h2.ptr
  have b0 := BX.at 0 rfl
  have b1 := BX.at 1 rfl
  have b3 := BX.at 3 rfl
  go_enter Try.func25, Try.ntmps25
  go_upto_region 3 with (fail)
  clear hW
  go_still_tail 8, (by kernel_rfl)
  go_wp2_with fail
  refine (store_any _ _ _ _ _ _ (h2.below hdr).cells x0 x1).mono ?_
  rintro e w3 ⟨rfl, hC3, hg3⟩
  have h3 := (h2.below hdr).celled hg3 hC3 (storeL_length _ _ _)
  have BX3 := BX.drew.grown hg3 (by intro e; injection e; omega)
  have BR3 := BR.drew.grown hg3 (by intro e; injection e; omega)
  have hF3 : Fr [g] w w3 := ((Fr.of_below hb2).trans (Fr.of_below hdr)).trans (Fr.of_grown hg3 (by simp))
  clear p0 b0 b1 b3 hC3 hg3 BX BR hdr
  have hF := hF3.more (S' := [g, gb, w.heap.size + 1]) (by simp)
  cases hi : inB L.length i
  · have hS := Lib.hid (storeB_no bs A hi)
    go_wp2_with (refine wpList_store_row rfl 46 _ _ rfl (w.heap.size + 1) _ rfl rfl 46 _ (BR3).h (by kernel_rfl) (by rfl) (by kernel_rfl) ?_)
    refine bodyPost_ret (results_cell_row rfl _ _ (w.heap.size + 1) 46 #[.bool false, .int .u64 0, .int .u64 0, .int .i64 0, .int .i64 0, .string ⟨#[]⟩, .string ⟨#[]⟩, .bool false, .int .i64 0, .slice none 0 0, .slice none 0 0, .slice none 0 0, .int .i64 0, .int .i64 0, .string ⟨#[]⟩, .int .u64 0, .slice none 0 0, .slice none 0 0, .slice none 0 0, .slice none 0 0, .int .i64 0, .string ⟨#[]⟩, .string ⟨#[]⟩, .int .u64 0, .int .i64 0] (0, 0) _ rfl (Blk.row BR3 #[.bool false, .int .u64 0, .int .u64 0, .int .i64 0, .int .i64 0, .string ⟨#[]⟩, .string ⟨#[]⟩, .bool false, .int .i64 0, .slice none 0 0, .slice none 0 0, .slice none 0 0, .int .i64 0, .int .i64 0, .string ⟨#[]⟩, .int .u64 0, .slice none 0 0, .slice none 0 0, .slice none 0 0, .slice none 0 0, .int .i64 0, .string ⟨#[]⟩, .string ⟨#[]⟩, .int .u64 0, .int .i64 0]).h Try.underlying46 rfl (by kernel_rfl)) rfl ⟨by rw [hi], ?_, ?_⟩
    · rw [hS.out]
      exact h3.off (Fr.row (S := [w.heap.size + 1]) _ _ (by simp)) (by simp; omega)
    · exact (hF.trans (Fr.row _ _ (by simp))).less
  · obtain ⟨j0, j1⟩ := inB_yes hi
    have hS := Lib.hid (storeB_yes bs A hi)
    have b1 := BX3.at 1 rfl
    go_wp2_with fail
    refine (clear_any i _ h3 j0 (by omega)).mono ?_
    rintro e w4 ⟨rfl, h4, hF4⟩
    have BR4 := hF4.blk BR3 (by simp; omega)
    have hG := hF.trans (hF4.more (S' := [g, gb, w.heap.size + 1]) (by simp))
    clear b1 BX3 BR3 hF3 hF4
    go_wp2_with (refine wpList_store_row rfl 46 _ _ rfl (w.heap.size + 1) _ rfl rfl 46 _ (BR4).h (by kernel_rfl) (by rfl) (by kernel_rfl) ?_)
    refine bodyPost_ret (results_cell_row rfl _ _ (w.heap.size + 1) 46 #[.bool true, .int .u64 0, .int .u64 0, .int .i64 0, .int .i64 0, .string ⟨#[]⟩, .string ⟨#[]⟩, .bool false, .int .i64 0, .slice none 0 0, .slice none 0 0, .slice none 0 0, .int .i64 0, .int .i64 0, .string ⟨#[]⟩, .int .u64 0, .slice none 0 0, .slice none 0 0, .slice none 0 0, .slice none 0 0, .int .i64 0, .string ⟨#[]⟩, .string ⟨#[]⟩, .int .u64 0, .int .i64 0] (0, 0) _ rfl (Blk.row BR4 #[.bool true, .int .u64 0, .int .u64 0, .int .i64 0, .int .i64 0, .string ⟨#[]⟩, .string ⟨#[]⟩, .bool false, .int .i64 0, .slice none 0 0, .slice none 0 0, .slice none 0 0, .int .i64 0, .int .i64 0, .string ⟨#[]⟩, .int .u64 0, .slice none 0 0, .slice none 0 0, .slice none 0 0, .slice none 0 0, .int .i64 0, .string ⟨#[]⟩, .string ⟨#[]⟩, .int .u64 0, .int .i64 0]).h Try.underlying46 rfl (by kernel_rfl)) rfl ⟨by rw [hi], ?_, ?_⟩
    · rw [hS.out]
      exact h4.off (Fr.row (S := [w.heap.size + 1]) _ _ (by simp)) (by simp; omega)
    · exact (hG.trans (Fr.row _ _ (by simp))).less
set_option maxRecDepth 100000 in
set_option maxHeartbeats 6400000 in
theorem write_cas {o oc g gb gr A T : Nat} {L : List (Int × Int)} {bs rs : List (List Value)} (i ver word : Int) (c4 c5 c6 c7 c8 c9 c10 c11 c12 c13 c14 c15 c16 c17 c18 c19 c20 c21 c22 c23 c24 c25 : Value) (w : World) (h : MemAt w o oc g gb gr A T L bs rs) (v0 : 0 ≤ ver) (v1 : ver ≤ 18446744073709551615) (x0 : 0 ≤ word) (x1 : word ≤ 18446744073709551615) :
    Calls Try.prog 25 #[.pointer (some ⟨o, 0, none⟩), .agg #[.int .i64 3, .int .i64 i, .int .u64 ver, .int .u64 word, c4, c5, c6, c7, c8, c9, c10, c11, c12, c13, c14, c15, c16, c17, c18, c19, c20, c21, c22, c23, c24, c25]] w fun e w' => e = .returned (.agg #[.bool (casB L i ver), .int .u64 0, .int .u64 0, .int .i64 0, .int .i64 0, .string ⟨#[]⟩, .string ⟨#[]⟩, .bool false, .int .i64 0, .slice none 0 0, .slice none 0 0, .slice none 0 0, .int .i64 0, .int .i64 0, .string ⟨#[]⟩, .int .u64 0, .slice none 0 0, .slice none 0 0, .slice none 0 0, .slice none 0 0, .int .i64 0, .string ⟨#[]⟩, .string ⟨#[]⟩, .int .u64 0, .int .i64 0]) ∧ MemAt w' o oc g gb gr A T (casL L i ver word) (casBs L bs A i ver) rs ∧ Fr [g, gb] w w' := by
  have hb2 : Below w.heap.size w ((w.alloc (.cells #[.int .i64 3, .int .i64 i, .int .u64 ver, .int .u64 word, c4, c5, c6, c7, c8, c9, c10, c11, c12, c13, c14, c15, c16, c17, c18, c19, c20, c21, c22, c23, c24, c25] 44)).alloc (.cells #[.bool false, .int .u64 0, .int .u64 0, .int .i64 0, .int .i64 0, .string ⟨#[]⟩, .string ⟨#[]⟩, .bool false, .int .i64 0, .slice none 0 0, .slice none 0 0, .slice none 0 0, .int .i64 0, .int .i64 0, .string ⟨#[]⟩, .int .u64 0, .slice none 0 0, .slice none 0 0, .slice none 0 0, .slice none 0 0, .int .i64 0, .string ⟨#[]⟩, .string ⟨#[]⟩, .int .u64 0, .int .i64 0] 46)) := by (repeat (first | exact Below.refl _ _ | assumption | refine below_alloc2 ?_ (by first | exact Nat.le_refl _ | omega) _ | refine Below.drew ?_ | refine below_drewN ?_ _ | refine below_push2 ?_ ‹_› (by first | exact Nat.le_refl _ | omega) | refine Below.setCell ?_ (by first | (simp; done) | (simp; omega) | omega) _))
  have h2 := h.below hb2
  have BX := (Blk.new w #[.int .i64 3, .int .i64 i, .int .u64 ver, .int .u64 word, c4, c5, c6, c7, c8, c9, c10, c11, c12, c13, c14, c15, c16, c17, c18, c19, c20, c21, c22, c23, c24, c25] 44).alloc (.cells #[.bool false, .int .u64 0, .int .u64 0, .int .i64 0, .int .i64 0, .string ⟨#[]⟩, .string ⟨#[]⟩, .bool false, .int .i64 0, .slice none 0 0, .slice none 0 0, .slice none 0 0, .int .i64 0, .int .i64 0, .string ⟨#[]⟩, .int .u64 0, .slice none 0 0, .slice none 0 0, .slice none 0 0, .slice none 0 0, .int .i64 0, .string ⟨#[]⟩, .string ⟨#[]⟩, .int .u64 0, .int .i64 0] 46)
  have BR : Blk ((w.alloc (.cells #[.int .i64 3, .int .i64 i, .int .u64 ver, .int .u64 word, c4, c5, c6, c7, c8, c9, c10, c11, c12, c13, c14, c15, c16, c17, c18, c19, c20, c21, c22, c23, c24, c25] 44)).alloc (.cells #[.bool false, .int .u64 0, .int .u64 0, .int .i64 0, .int .i64 0, .string ⟨#[]⟩, .string ⟨#[]⟩, .bool false, .int .i64 0, .slice none 0 0, .slice none 0 0, .slice none 0 0, .int .i64 0, .int .i64 0, .string ⟨#[]⟩, .int .u64 0, .slice none 0 0, .slice none 0 0, .slice none 0 0, .slice none 0 0, .int .i64 0, .string ⟨#[]⟩, .string ⟨#[]⟩, .int .u64 0, .int .i64 0] 46)) (w.heap.size + 1) #[.bool false, .int .u64 0, .int .u64 0, .int .i64 0, .int .i64 0, .string ⟨#[]⟩, .string ⟨#[]⟩, .bool false, .int .i64 0, .slice none 0 0, .slice none 0 0, .slice none 0 0, .int .i64 0, .int .i64 0, .string ⟨#[]⟩, .int .u64 0, .slice none 0 0, .slice none 0 0, .slice none 0 0, .slice none 0 0, .int .i64 0, .string ⟨#[]⟩, .string ⟨#[]⟩, .int .u64 0, .int .i64 0] 46 := by
    have := Blk.new (w.alloc (.cells #[.int .i64 3, .int .i64 i, .int .u64 ver, .int .u64 word, c4, c5, c6, c7, c8, c9, c10, c11, c12, c13, c14, c15, c16, c17, c18, c19, c20, c21, c22, c23, c24, c25] 44)) #[.bool false, .int .u64 0, .int .u64 0, .int .i64 0, .int .i64 0, .string ⟨#[]⟩, .string ⟨#[]⟩, .bool false, .int .i64 0, .slice none 0 0, .slice none 0 0, .slice none 0 0, .int .i64 0, .int .i64 0, .string ⟨#[]⟩, .int .u64 0, .slice none 0 0, .slice none 0 0, .slice none 0 0, .slice none 0 0, .int .i64 0, .string ⟨#[]⟩, .string ⟨#[]⟩, .int .u64 0, .int .i64 0] 46
    simpa using this
  have hgl := h.cells.rows.lt
  have hgbl := h.blocks.lt
  have hol := h.head.lt
  have hocl := h.cells.head.lt
  have hgrl := h.records.lt
  have hin := h.len
  have hA := h.a1
  have hT := h.t1
  generalize hW : ((w.alloc (.cells #[.int .i64 3, .int .i64 i, .int .u64 ver, .int .u64 word, c4, c5, c6, c7, c8, c9, c10, c11, c12, c13, c14, c15, c16, c17, c18, c19, c20, c21, c22, c23, c24, c25] 44)).alloc (.cells #[.bool false, .int .u64 0, .int .u64 0, .int .i64 0, .int .i64 0, .string ⟨#[]⟩, .string ⟨#[]⟩, .bool false, .int .i64 0, .slice none 0 0, .slice none 0 0, .slice none 0 0, .int .i64 0, .int .i64 0, .string ⟨#[]⟩, .int .u64 0, .slice none 0 0, .slice none 0 0, .slice none 0 0, .slice none 0 0, .int .i64 0, .string ⟨#[]⟩, .string ⟨#[]⟩, .int .u64 0, .int .i64 0] 46)) = wq at hb2 h2 BX BR
  have hdr : Below wq.heap.size wq wq.drew := (Below.refl _ _).drew
  have p0 := h2.ptr
  have b0 := BX.at 0 rfl
  have b1 := BX.at 1 rfl
  have b2 := BX.at 2 rfl
  have b3 := BX.at 3 rfl
  go_enter Try.func25, Try.ntmps25
  go_upto_region 4 with (fail)
  clear hW
  go_still_tail 10, (by kernel_rfl)
  go_wp2_with fail
  refine (cas_any _ _ _ _ _ _ _ (h2.below hdr).cells v0 v1 x0 x1).mono ?_
  rintro e w3 ⟨rfl, hC3, hg3⟩
  have h3 := (h2.below hdr).celled hg3 hC3 (casL_length _ _ _ _)
  have BX3 := BX.drew.grown hg3 (by intro e; injection e; omega)
  have BR3 := BR.drew.grown hg3 (by intro e; injection e; omega)
  have hF3 : Fr [g] w w3 := ((Fr.of_below hb2).trans (Fr.of_below hdr)).trans (Fr.of_grown hg3 (by simp))
  clear p0 b0 b1 b2 b3 hC3 hg3 BX BR hdr
  have hF := hF3.more (S' := [g, gb, w.heap.size + 1]) (by simp)
  cases hi : casB L i ver
  · have hS := Lib.hid (casBs_no bs A hi)
    go_wp2_with (refine wpList_store_row rfl 46 _ _ rfl (w.heap.size + 1) _ rfl rfl 46 _ (BR3).h (by kernel_rfl) (by rfl) (by kernel_rfl) ?_)
    refine bodyPost_ret (results_cell_row rfl _ _ (w.heap.size + 1) 46 #[.bool false, .int .u64 0, .int .u64 0, .int .i64 0, .int .i64 0, .string ⟨#[]⟩, .string ⟨#[]⟩, .bool false, .int .i64 0, .slice none 0 0, .slice none 0 0, .slice none 0 0, .int .i64 0, .int .i64 0, .string ⟨#[]⟩, .int .u64 0, .slice none 0 0, .slice none 0 0, .slice none 0 0, .slice none 0 0, .int .i64 0, .string ⟨#[]⟩, .string ⟨#[]⟩, .int .u64 0, .int .i64 0] (0, 0) _ rfl (Blk.row BR3 #[.bool false, .int .u64 0, .int .u64 0, .int .i64 0, .int .i64 0, .string ⟨#[]⟩, .string ⟨#[]⟩, .bool false, .int .i64 0, .slice none 0 0, .slice none 0 0, .slice none 0 0, .int .i64 0, .int .i64 0, .string ⟨#[]⟩, .int .u64 0, .slice none 0 0, .slice none 0 0, .slice none 0 0, .slice none 0 0, .int .i64 0, .string ⟨#[]⟩, .string ⟨#[]⟩, .int .u64 0, .int .i64 0]).h Try.underlying46 rfl (by kernel_rfl)) rfl ⟨by rw [hi], ?_, ?_⟩
    · rw [hS.out]
      exact h3.off (Fr.row (S := [w.heap.size + 1]) _ _ (by simp)) (by simp; omega)
    · exact (hF.trans (Fr.row _ _ (by simp))).less
  · obtain ⟨j0, j1⟩ := inB_yes (casB_in hi)
    have hS := Lib.hid (casBs_yes bs A hi)
    have b1 := BX3.at 1 rfl
    go_wp2_with fail
    refine (clear_any i _ h3 j0 (by omega)).mono ?_
    rintro e w4 ⟨rfl, h4, hF4⟩
    have BR4 := hF4.blk BR3 (by simp; omega)
    have hG := hF.trans (hF4.more (S' := [g, gb, w.heap.size + 1]) (by simp))
    clear b1 BX3 BR3 hF3 hF4
    go_wp2_with (refine wpList_store_row rfl 46 _ _ rfl (w.heap.size + 1) _ rfl rfl 46 _ (BR4).h (by kernel_rfl) (by rfl) (by kernel_rfl) ?_)
    refine bodyPost_ret (results_cell_row rfl _ _ (w.heap.size + 1) 46 #[.bool true, .int .u64 0, .int .u64 0, .int .i64 0, .int .i64 0, .string ⟨#[]⟩, .string ⟨#[]⟩, .bool false, .int .i64 0, .slice none 0 0, .slice none 0 0, .slice none 0 0, .int .i64 0, .int .i64 0, .string ⟨#[]⟩, .int .u64 0, .slice none 0 0, .slice none 0 0, .slice none 0 0, .slice none 0 0, .int .i64 0, .string ⟨#[]⟩, .string ⟨#[]⟩, .int .u64 0, .int .i64 0] (0, 0) _ rfl (Blk.row BR4 #[.bool true, .int .u64 0, .int .u64 0, .int .i64 0, .int .i64 0, .string ⟨#[]⟩, .string ⟨#[]⟩, .bool false, .int .i64 0, .slice none 0 0, .slice none 0 0, .slice none 0 0, .int .i64 0, .int .i64 0, .string ⟨#[]⟩, .int .u64 0, .slice none 0 0, .slice none 0 0, .slice none 0 0, .slice none 0 0, .int .i64 0, .string ⟨#[]⟩, .string ⟨#[]⟩, .int .u64 0, .int .i64 0]).h Try.underlying46 rfl (by kernel_rfl)) rfl ⟨by rw [hi], ?_, ?_⟩
    · rw [hS.out]
      exact h4.off (Fr.row (S := [w.heap.size + 1]) _ _ (by simp)) (by simp; omega)
    · exact (hG.trans (Fr.row _ _ (by simp))).less
end Go.Proofs.Ytgdeiaholkmfeaa.MemP

/-
  memory.Do: contracts, of accesses to cells.
-/
namespace Go.Proofs.Ytgdeiaholkmfeaa.MemP
open Go.RowKit RefP CellP
set_option linter.unusedVariables false
set_option linter.unusedSimpArgs false
set_option maxRecDepth 100000 in
set_option maxHeartbeats 3200000 in
theorem do_nil (k i ver word : Int) (c4 c5 c6 c7 c8 c9 c10 c11 c12 c13 c14 c15 c16 c17 c18 c19 c20 c21 c22 c23 c24 c25 : Value) (w : World) :
    Calls Try.prog 9 #[.pointer none, .agg #[.int .i64 k, .int .i64 i, .int .u64 ver, .int .u64 word, c4, c5, c6, c7, c8, c9, c10, c11, c12, c13, c14, c15, c16, c17, c18, c19, c20, c21, c22, c23, c24, c25]] w fun e w' => e = .returned (.agg #[.bool false, .int .u64 0, .int .u64 0, .int .i64 0, .int .i64 0, .string ⟨#[]⟩, .string ⟨#[]⟩, .bool false, .int .i64 0, .slice none 0 0, .slice none 0 0, .slice none 0 0, .int .i64 0, .int .i64 0, .string ⟨#[]⟩, .int .u64 0, .slice none 0 0, .slice none 0 0, .slice none 0 0, .slice none 0 0, .int .i64 0, .string ⟨#[]⟩, .string ⟨#[]⟩, .int .u64 0, .int .i64 0]) ∧ Below w.heap.size w w' := by
  have hb2 : Below w.heap.size w ((w.alloc (.cells #[.int .i64 k, .int .i64 i, .int .u64 ver, .int .u64 word, c4, c5, c6, c7, c8, c9, c10, c11, c12, c13, c14, c15, c16, c17, c18, c19, c20, c21, c22, c23, c24, c25] 44)).alloc (.cells #[.bool false, .int .u64 0, .int .u64 0, .int .i64 0, .int .i64 0, .string ⟨#[]⟩, .string ⟨#[]⟩, .bool false, .int .i64 0, .slice none 0 0, .slice none 0 0, .slice none 0 0, .int .i64 0, .int .i64 0, .string ⟨#[]⟩, .int .u64 0, .slice none 0 0, .slice none 0 0, .slice none 0 0, .slice none 0 0, .int .i64 0, .string ⟨#[]⟩, .string ⟨#[]⟩, .int .u64 0, .int .i64 0] 46)) := by (repeat (first | exact Below.refl _ _ | assumption | refine below_alloc2 ?_ (by first | exact Nat.le_refl _ | omega) _ | refine Below.drew ?_ | refine below_drewN ?_ _ | refine below_push2 ?_ ‹_› (by first | exact Nat.le_refl _ | omega) | refine Below.setCell ?_ (by first | (simp; done) | (simp; omega) | omega) _))
  have BX := (Blk.new w #[.int .i64 k, .int .i64 i, .int .u64 ver, .int .u64 word, c4, c5, c6, c7, c8, c9, c10, c11, c12, c13, c14, c15, c16, c17, c18, c19, c20, c21, c22, c23, c24, c25] 44).alloc (.cells #[.bool false, .int .u64 0, .int .u64 0, .int .i64 0, .int .i64 0, .string ⟨#[]⟩, .string ⟨#[]⟩, .bool false, .int .i64 0, .slice none 0 0, .slice none 0 0, .slice none 0 0, .int .i64 0, .int .i64 0, .string ⟨#[]⟩, .int .u64 0, .slice none 0 0, .slice none 0 0, .slice none 0 0, .slice none 0 0, .int .i64 0, .string ⟨#[]⟩, .string ⟨#[]⟩, .int .u64 0, .int .i64 0] 46)
  have BR : Blk ((w.alloc (.cells #[.int .i64 k, .int .i64 i, .int .u64 ver, .int .u64 word, c4, c5, c6, c7, c8, c9, c10, c11, c12, c13, c14, c15, c16, c17, c18, c19, c20, c21, c22, c23, c24, c25] 44)).alloc (.cells #[.bool false, .int .u64 0, .int .u64 0, .int .i64 0, .int .i64 0, .string ⟨#[]⟩, .string ⟨#[]⟩, .bool false, .int .i64 0, .slice none 0 0, .slice none 0 0, .slice none 0 0, .int .i64 0, .int .i64 0, .string ⟨#[]⟩, .int .u64 0, .slice none 0 0, .slice none 0 0, .slice none 0 0, .slice none 0 0, .int .i64 0, .string ⟨#[]⟩, .string ⟨#[]⟩, .int .u64 0, .int .i64 0] 46)) (w.heap.size + 1) #[.bool false, .int .u64 0, .int .u64 0, .int .i64 0, .int .i64 0, .string ⟨#[]⟩, .string ⟨#[]⟩, .bool false, .int .i64 0, .slice none 0 0, .slice none 0 0, .slice none 0 0, .int .i64 0, .int .i64 0, .string ⟨#[]⟩, .int .u64 0, .slice none 0 0, .slice none 0 0, .slice none 0 0, .slice none 0 0, .int .i64 0, .string ⟨#[]⟩, .string ⟨#[]⟩, .int .u64 0, .int .i64 0] 46 := by
    have := Blk.new (w.alloc (.cells #[.int .i64 k, .int .i64 i, .int .u64 ver, .int .u64 word, c4, c5, c6, c7, c8, c9, c10, c11, c12, c13, c14, c15, c16, c17, c18, c19, c20, c21, c22, c23, c24, c25] 44)) #[.bool false, .int .u64 0, .int .u64 0, .int .i64 0, .int .i64 0, .string ⟨#[]⟩, .string ⟨#[]⟩, .bool false, .int .i64 0, .slice none 0 0, .slice none 0 0, .slice none 0 0, .int .i64 0, .int .i64 0, .string ⟨#[]⟩, .int .u64 0, .slice none 0 0, .slice none 0 0, .slice none 0 0, .slice none 0 0, .int .i64 0, .string ⟨#[]⟩, .string ⟨#[]⟩, .int .u64 0, .int .i64 0] 46
    simpa using this
  generalize hW : ((w.alloc (.cells #[.int .i64 k, .int .i64 i, .int .u64 ver, .int .u64 word, c4, c5, c6, c7, c8, c9, c10, c11, c12, c13, c14, c15, c16, c17, c18, c19, c20, c21, c22, c23, c24, c25] 44)).alloc (.cells #[.bool false, .int .u64 0, .int .u64 0, .int .i64 0, .int .i64 0, .string ⟨#[]⟩, .string ⟨#[]⟩, .bool false, .int .i64 0, .slice none 0 0, .slice none 0 0, .slice none 0 0, .int .i64 0, .int .i64 0, .string ⟨#[]⟩, .int .u64 0, .slice none 0 0, .slice none 0 0, .slice none 0 0, .slice none 0 0, .int .i64 0, .string ⟨#[]⟩, .string ⟨#[]⟩, .int .u64 0, .int .i64 0] 46)) = wq at hb2 BX BR
  go_enter Try.func9, Try.ntmps9
  go_wp2_with fail
  refine (none_nil _).mono ?_
  rintro e w1 ⟨rfl, rfl⟩
  clear hW
  go_wp2_with (first
    | (refine wpList_load_row rfl 46 _ rfl (w.heap.size + 1) rfl 46 _ (0, 0) _ (BR).h Try.underlying46 rfl (by kernel_rfl) ?_)
    | (refine wpList_store_row rfl 46 _ _ rfl (w.heap.size + 1) _ rfl rfl 46 _ (BR).h (by kernel_rfl) (by rfl) (by kernel_rfl) ?_))
  refine bodyPost_ret (results_cell_row rfl _ _ (w.heap.size + 1) 46 #[.bool false, .int .u64 0, .int .u64 0, .int .i64 0, .int .i64 0, .string ⟨#[]⟩, .string ⟨#[]⟩, .bool false, .int .i64 0, .slice none 0 0, .slice none 0 0, .slice none 0 0, .int .i64 0, .int .i64 0, .string ⟨#[]⟩, .int .u64 0, .slice none 0 0, .slice none 0 0, .slice none 0 0, .slice none 0 0, .int .i64 0, .string ⟨#[]⟩, .string ⟨#[]⟩, .int .u64 0, .int .i64 0] (0, 0) _ rfl (Blk.row BR #[.bool false, .int .u64 0, .int .u64 0, .int .i64 0, .int .i64 0, .string ⟨#[]⟩, .string ⟨#[]⟩, .bool false, .int .i64 0, .slice none 0 0, .slice none 0 0, .slice none 0 0, .int .i64 0, .int .i64 0, .string ⟨#[]⟩, .int .u64 0, .slice none 0 0, .slice none 0 0, .slice none 0 0, .slice none 0 0, .int .i64 0, .string ⟨#[]⟩, .string ⟨#[]⟩, .int .u64 0, .int .i64 0]).h Try.underlying46 rfl (by kernel_rfl)) rfl ⟨rfl, below_setRow hb2 (by omega) _⟩
set_option maxRecDepth 100000 in
set_option maxHeartbeats 3200000 in
theorem do_zero (o : Nat) (k i ver word : Int) (c4 c5 c6 c7 c8 c9 c10 c11 c12 c13 c14 c15 c16 c17 c18 c19 c20 c21 c22 c23 c24 c25 : Value) (w : World) (h : NoMem w o) :
    Calls Try.prog 9 #[.pointer (some ⟨o, 0, none⟩), .agg #[.int .i64 k, .int .i64 i, .int .u64 ver, .int .u64 word, c4, c5, c6, c7, c8, c9, c10, c11, c12, c13, c14, c15, c16, c17, c18, c19, c20, c21, c22, c23, c24, c25]] w fun e w' => e = .returned (.agg #[.bool false, .int .u64 0, .int .u64 0, .int .i64 0, .int .i64 0, .string ⟨#[]⟩, .string ⟨#[]⟩, .bool false, .int .i64 0, .slice none 0 0, .slice none 0 0, .slice none 0 0, .int .i64 0, .int .i64 0, .string ⟨#[]⟩, .int .u64 0, .slice none 0 0, .slice none 0 0, .slice none 0 0, .slice none 0 0, .int .i64 0, .string ⟨#[]⟩, .string ⟨#[]⟩, .int .u64 0, .int .i64 0]) ∧ Below w.heap.size w w' := by
  have hb2 : Below w.heap.size w ((w.alloc (.cells #[.int .i64 k, .int .i64 i, .int .u64 ver, .int .u64 word, c4, c5, c6, c7, c8, c9, c10, c11, c12, c13, c14, c15, c16, c17, c18, c19, c20, c21, c22, c23, c24, c25] 44)).alloc (.cells #[.bool false, .int .u64 0, .int .u64 0, .int .i64 0, .int .i64 0, .string ⟨#[]⟩, .string ⟨#[]⟩, .bool false, .int .i64 0, .slice none 0 0, .slice none 0 0, .slice none 0 0, .int .i64 0, .int .i64 0, .string ⟨#[]⟩, .int .u64 0, .slice none 0 0, .slice none 0 0, .slice none 0 0, .slice none 0 0, .int .i64 0, .string ⟨#[]⟩, .string ⟨#[]⟩, .int .u64 0, .int .i64 0] 46)) := by (repeat (first | exact Below.refl _ _ | assumption | refine below_alloc2 ?_ (by first | exact Nat.le_refl _ | omega) _ | refine Below.drew ?_ | refine below_drewN ?_ _ | refine below_push2 ?_ ‹_› (by first | exact Nat.le_refl _ | omega) | refine Below.setCell ?_ (by first | (simp; done) | (simp; omega) | omega) _))
  have BX := (Blk.new w #[.int .i64 k, .int .i64 i, .int .u64 ver, .int .u64 word, c4, c5, c6, c7, c8, c9, c10, c11, c12, c13, c14, c15, c16, c17, c18, c19, c20, c21, c22, c23, c24, c25] 44).alloc (.cells #[.bool false, .int .u64 0, .int .u64 0, .int .i64 0, .int .i64 0, .string ⟨#[]⟩, .string ⟨#[]⟩, .bool false, .int .i64 0, .slice none 0 0, .slice none 0 0, .slice none 0 0, .int .i64 0, .int .i64 0, .string ⟨#[]⟩, .int .u64 0, .slice none 0 0, .slice none 0 0, .slice none 0 0, .slice none 0 0, .int .i64 0, .string ⟨#[]⟩, .string ⟨#[]⟩, .int .u64 0, .int .i64 0] 46)
  have BR : Blk ((w.alloc (.cells #[.int .i64 k, .int .i64 i, .int .u64 ver, .int .u64 word, c4, c5, c6, c7, c8, c9, c10, c11, c12, c13, c14, c15, c16, c17, c18, c19, c20, c21, c22, c23, c24, c25] 44)).alloc (.cells #[.bool false, .int .u64 0, .int .u64 0, .int .i64 0, .int .i64 0, .string ⟨#[]⟩, .string ⟨#[]⟩, .bool false, .int .i64 0, .slice none 0 0, .slice none 0 0, .slice none 0 0, .int .i64 0, .int .i64 0, .string ⟨#[]⟩, .int .u64 0, .slice none 0 0, .slice none 0 0, .slice none 0 0, .slice none 0 0, .int .i64 0, .string ⟨#[]⟩, .string ⟨#[]⟩, .int .u64 0, .int .i64 0] 46)) (w.heap.size + 1) #[.bool false, .int .u64 0, .int .u64 0, .int .i64 0, .int .i64 0, .string ⟨#[]⟩, .string ⟨#[]⟩, .bool false, .int .i64 0, .slice none 0 0, .slice none 0 0, .slice none 0 0, .int .i64 0, .int .i64 0, .string ⟨#[]⟩, .int .u64 0, .slice none 0 0, .slice none 0 0, .slice none 0 0, .slice none 0 0, .int .i64 0, .string ⟨#[]⟩, .string ⟨#[]⟩, .int .u64 0, .int .i64 0] 46 := by
    have := Blk.new (w.alloc (.cells #[.int .i64 k, .int .i64 i, .int .u64 ver, .int .u64 word, c4, c5, c6, c7, c8, c9, c10, c11, c12, c13, c14, c15, c16, c17, c18, c19, c20, c21, c22, c23, c24, c25] 44)) #[.bool false, .int .u64 0, .int .u64 0, .int .i64 0, .int .i64 0, .string ⟨#[]⟩, .string ⟨#[]⟩, .bool false, .int .i64 0, .slice none 0 0, .slice none 0 0, .slice none 0 0, .int .i64 0, .int .i64 0, .string ⟨#[]⟩, .int .u64 0, .slice none 0 0, .slice none 0 0, .slice none 0 0, .slice none 0 0, .int .i64 0, .string ⟨#[]⟩, .string ⟨#[]⟩, .int .u64 0, .int .i64 0] 46
    simpa using this
  have h2 := h.below hb2
  generalize hW : ((w.alloc (.cells #[.int .i64 k, .int .i64 i, .int .u64 ver, .int .u64 word, c4, c5, c6, c7, c8, c9, c10, c11, c12, c13, c14, c15, c16, c17, c18, c19, c20, c21, c22, c23, c24, c25] 44)).alloc (.cells #[.bool false, .int .u64 0, .int .u64 0, .int .i64 0, .int .i64 0, .string ⟨#[]⟩, .string ⟨#[]⟩, .bool false, .int .i64 0, .slice none 0 0, .slice none 0 0, .slice none 0 0, .int .i64 0, .int .i64 0, .string ⟨#[]⟩, .int .u64 0, .slice none 0 0, .slice none 0 0, .slice none 0 0, .slice none 0 0, .int .i64 0, .string ⟨#[]⟩, .string ⟨#[]⟩, .int .u64 0, .int .i64 0] 46)) = wq at hb2 BX BR h2
  go_enter Try.func9, Try.ntmps9
  go_wp2_with fail
  refine (none_zero _ _ h2).mono ?_
  rintro e w1 ⟨rfl, rfl⟩
  clear hW
  go_wp2_with (first
    | (refine wpList_load_row rfl 46 _ rfl (w.heap.size + 1) rfl 46 _ (0, 0) _ (BR).h Try.underlying46 rfl (by kernel_rfl) ?_)
    | (refine wpList_store_row rfl 46 _ _ rfl (w.heap.size + 1) _ rfl rfl 46 _ (BR).h (by kernel_rfl) (by rfl) (by kernel_rfl) ?_))
  refine bodyPost_ret (results_cell_row rfl _ _ (w.heap.size + 1) 46 #[.bool false, .int .u64 0, .int .u64 0, .int .i64 0, .int .i64 0, .string ⟨#[]⟩, .string ⟨#[]⟩, .bool false, .int .i64 0, .slice none 0 0, .slice none 0 0, .slice none 0 0, .int .i64 0, .int .i64 0, .string ⟨#[]⟩, .int .u64 0, .slice none 0 0, .slice none 0 0, .slice none 0 0, .slice none 0 0, .int .i64 0, .string ⟨#[]⟩, .string ⟨#[]⟩, .int .u64 0, .int .i64 0] (0, 0) _ rfl (Blk.row BR #[.bool false, .int .u64 0, .int .u64 0, .int .i64 0, .int .i64 0, .string ⟨#[]⟩, .string ⟨#[]⟩, .bool false, .int .i64 0, .slice none 0 0, .slice none 0 0, .slice none 0 0, .int .i64 0, .int .i64 0, .string ⟨#[]⟩, .int .u64 0, .slice none 0 0, .slice none 0 0, .slice none 0 0, .slice none 0 0, .int .i64 0, .string ⟨#[]⟩, .string ⟨#[]⟩, .int .u64 0, .int .i64 0]).h Try.underlying46 rfl (by kernel_rfl)) rfl ⟨rfl, below_setRow hb2 (by omega) _⟩
set_option maxRecDepth 100000 in
set_option maxHeartbeats 3200000 in
theorem do_store {o oc g gb gr A T : Nat} {L : List (Int × Int)} {bs rs : List (List Value)} (i ver word : Int) (c4 c5 c6 c7 c8 c9 c10 c11 c12 c13 c14 c15 c16 c17 c18 c19 c20 c21 c22 c23 c24 c25 : Value) (w : World) (h : MemAt w o oc g gb gr A T L bs rs) (x0 : 0 ≤ word) (x1 : word ≤ 18446744073709551615) :
    Calls Try.prog 9 #[.pointer (some ⟨o, 0, none⟩), .agg #[.int .i64 2, .int .i64 i, .int .u64 ver, .int .u64 word, c4, c5, c6, c7, c8, c9, c10, c11, c12, c13, c14, c15, c16, c17, c18, c19, c20, c21, c22, c23, c24, c25]] w fun e w' => e = .returned (.agg #[.bool (inB L.length i), .int .u64 0, .int .u64 0, .int .i64 0, .int .i64 0, .string ⟨#[]⟩, .string ⟨#[]⟩, .bool false, .int .i64 0, .slice none 0 0, .slice none 0 0, .slice none 0 0, .int .i64 0, .int .i64 0, .string ⟨#[]⟩, .int .u64 0, .slice none 0 0, .slice none 0 0, .slice none 0 0, .slice none 0 0, .int .i64 0, .string ⟨#[]⟩, .string ⟨#[]⟩, .int .u64 0, .int .i64 0]) ∧ MemAt w' o oc g gb gr A T (storeL L i word) (storeB L bs A i) rs ∧ Fr [g, gb] w w' := by
  have hb2 : Below w.heap.size w ((w.alloc (.cells #[.int .i64 2, .int .i64 i, .int .u64 ver, .int .u64 word, c4, c5, c6, c7, c8, c9, c10, c11, c12, c13, c14, c15, c16, c17, c18, c19, c20, c21, c22, c23, c24, c25] 44)).alloc (.cells #[.bool false, .int .u64 0, .int .u64 0, .int .i64 0, .int .i64 0, .string ⟨#[]⟩, .string ⟨#[]⟩, .bool false, .int .i64 0, .slice none 0 0, .slice none 0 0, .slice none 0 0, .int .i64 0, .int .i64 0, .string ⟨#[]⟩, .int .u64 0, .slice none 0 0, .slice none 0 0, .slice none 0 0, .slice none 0 0, .int .i64 0, .string ⟨#[]⟩, .string ⟨#[]⟩, .int .u64 0, .int .i64 0] 46)) := by (repeat (first | exact Below.refl _ _ | assumption | refine below_alloc2 ?_ (by first | exact Nat.le_refl _ | omega) _ | refine Below.drew ?_ | refine below_drewN ?_ _ | refine below_push2 ?_ ‹_› (by first | exact Nat.le_refl _ | omega) | refine Below.setCell ?_ (by first | (simp; done) | (simp; omega) | omega) _))
  have BX := (Blk.new w #[.int .i64 2, .int .i64 i, .int .u64 ver, .int .u64 word, c4, c5, c6, c7, c8, c9, c10, c11, c12, c13, c14, c15, c16, c17, c18, c19, c20, c21, c22, c23, c24, c25] 44).alloc (.cells #[.bool false, .int .u64 0, .int .u64 0, .int .i64 0, .int .i64 0, .string ⟨#[]⟩, .string ⟨#[]⟩, .bool false, .int .i64 0, .slice none 0 0, .slice none 0 0, .slice none 0 0, .int .i64 0, .int .i64 0, .string ⟨#[]⟩, .int .u64 0, .slice none 0 0, .slice none 0 0, .slice none 0 0, .slice none 0 0, .int .i64 0, .string ⟨#[]⟩, .string ⟨#[]⟩, .int .u64 0, .int .i64 0] 46)
  have BR : Blk ((w.alloc (.cells #[.int .i64 2, .int .i64 i, .int .u64 ver, .int .u64 word, c4, c5, c6, c7, c8, c9, c10, c11, c12, c13, c14, c15, c16, c17, c18, c19, c20, c21, c22, c23, c24, c25] 44)).alloc (.cells #[.bool false, .int .u64 0, .int .u64 0, .int .i64 0, .int .i64 0, .string ⟨#[]⟩, .string ⟨#[]⟩, .bool false, .int .i64 0, .slice none 0 0, .slice none 0 0, .slice none 0 0, .int .i64 0, .int .i64 0, .string ⟨#[]⟩, .int .u64 0, .slice none 0 0, .slice none 0 0, .slice none 0 0, .slice none 0 0, .int .i64 0, .string ⟨#[]⟩, .string ⟨#[]⟩, .int .u64 0, .int .i64 0] 46)) (w.heap.size + 1) #[.bool false, .int .u64 0, .int .u64 0, .int .i64 0, .int .i64 0, .string ⟨#[]⟩, .string ⟨#[]⟩, .bool false, .int .i64 0, .slice none 0 0, .slice none 0 0, .slice none 0 0, .int .i64 0, .int .i64 0, .string ⟨#[]⟩, .int .u64 0, .slice none 0 0, .slice none 0 0, .slice none 0 0, .slice none 0 0, .int .i64 0, .string ⟨#[]⟩, .string ⟨#[]⟩, .int .u64 0, .int .i64 0] 46 := by
    have := Blk.new (w.alloc (.cells #[.int .i64 2, .int .i64 i, .int .u64 ver, .int .u64 word, c4, c5, c6, c7, c8, c9, c10, c11, c12, c13, c14, c15, c16, c17, c18, c19, c20, c21, c22, c23, c24, c25] 44)) #[.bool false, .int .u64 0, .int .u64 0, .int .i64 0, .int .i64 0, .string ⟨#[]⟩, .string ⟨#[]⟩, .bool false, .int .i64 0, .slice none 0 0, .slice none 0 0, .slice none 0 0, .int .i64 0, .int .i64 0, .string ⟨#[]⟩, .int .u64 0, .slice none 0 0, .slice none 0 0, .slice none 0 0, .slice none 0 0, .int .i64 0, .string ⟨#[]⟩, .string ⟨#[]⟩, .int .u64 0, .int .i64 0] 46
    simpa using this
  have h2 := h.below hb2
  have hgl := h.cells.rows.lt
  have hgbl := h.blocks.lt
  have hol := h.head.lt
  have hocl := h.cells.head.lt
  have hgrl := h.records.lt
  generalize hW : ((w.alloc (.cells #[.int .i64 2, .int .i64 i, .int .u64 ver, .int .u64 word, c4, c5, c6, c7, c8, c9, c10, c11, c12, c13, c14, c15, c16, c17, c18, c19, c20, c21, c22, c23, c24, c25] 44)).alloc (.cells #[.bool false, .int .u64 0, .int .u64 0, .int .i64 0, .int .i64 0, .string ⟨#[]⟩, .string ⟨#[]⟩, .bool false, .int .i64 0, .slice none 0 0, .slice none 0 0, .slice none 0 0, .int .i64 0, .int .i64 0, .string ⟨#[]⟩, .int .u64 0, .slice none 0 0, .slice none 0 0, .slice none 0 0, .slice none 0 0, .int .i64 0, .string ⟨#[]⟩, .string ⟨#[]⟩, .int .u64 0, .int .i64 0] 46)) = wq at hb2 h2 BX BR
  have b0 := BX.at 0 rfl
  go_enter Try.func9, Try.ntmps9
  go_wp2_with fail
  refine (none_any _ h2).mono ?_
  rintro e w1 ⟨rfl, rfl⟩
  clear hW
  go_wp2_with (refine wpList_load_row rfl 44 _ rfl w.heap.size rfl 44 _ (0, 0) _ BX.h Try.underlying44 rfl (by kernel_rfl) ?_)
  refine (write_store i ver word c4 c5 c6 c7 c8 c9 c10 c11 c12 c13 c14 c15 c16 c17 c18 c19 c20 c21 c22 c23 c24 c25 _ h2 x0 x1).mono ?_
  rintro e w3 ⟨rfl, h3, hF3⟩
  have hsz := hb2.size
  have BR3 := hF3.blk BR (by simp; omega)
  clear h2 BX BR
  go_wp2_with (first
    | (refine wpList_load_row rfl 46 _ rfl (w.heap.size + 1) rfl 46 _ (0, 0) _ (BR3).h Try.underlying46 rfl (by kernel_rfl) ?_)
    | (refine wpList_store_row rfl 46 _ _ rfl (w.heap.size + 1) _ rfl rfl 46 _ (BR3).h (by kernel_rfl) (by rfl) (by kernel_rfl) ?_))
  refine bodyPost_ret (results_cell_row rfl _ _ (w.heap.size + 1) 46 #[.bool (inB L.length i), .int .u64 0, .int .u64 0, .int .i64 0, .int .i64 0, .string ⟨#[]⟩, .string ⟨#[]⟩, .bool false, .int .i64 0, .slice none 0 0, .slice none 0 0, .slice none 0 0, .int .i64 0, .int .i64 0, .string ⟨#[]⟩, .int .u64 0, .slice none 0 0, .slice none 0 0, .slice none 0 0, .slice none 0 0, .int .i64 0, .string ⟨#[]⟩, .string ⟨#[]⟩, .int .u64 0, .int .i64 0] (0, 0) _ rfl (Blk.row BR3 #[.bool (inB L.length i), .int .u64 0, .int .u64 0, .int .i64 0, .int .i64 0, .string ⟨#[]⟩, .string ⟨#[]⟩, .bool false, .int .i64 0, .slice none 0 0, .slice none 0 0, .slice none 0 0, .int .i64 0, .int .i64 0, .string ⟨#[]⟩, .int .u64 0, .slice none 0 0, .slice none 0 0, .slice none 0 0, .slice none 0 0, .int .i64 0, .string ⟨#[]⟩, .string ⟨#[]⟩, .int .u64 0, .int .i64 0]).h Try.underlying46 rfl (by kernel_rfl)) rfl ⟨rfl, ?_, ?_⟩
  · exact h3.off (Fr.row (S := [w.heap.size + 1]) _ _ (by simp)) (by simp; omega)
  · exact ((((Fr.of_below hb2).trans hF3).more (S' := [g, gb, w.heap.size + 1]) (by simp)).trans (Fr.row _ _ (by simp))).less
set_option maxRecDepth 100000 in
set_option maxHeartbeats 3200000 in
theorem do_cas {o oc g gb gr A T : Nat} {L : List (Int × Int)} {bs rs : List (List Value)} (i ver word : Int) (c4 c5 c6 c7 c8 c9 c10 c11 c12 c13 c14 c15 c16 c17 c18 c19 c20 c21 c22 c23 c24 c25 : Value) (w : World) (h : MemAt w o oc g gb gr A T L bs rs) (v0 : 0 ≤ ver) (v1 : ver ≤ 18446744073709551615) (x0 : 0 ≤ word) (x1 : word ≤ 18446744073709551615) :
    Calls Try.prog 9 #[.pointer (some ⟨o, 0, none⟩), .agg #[.int .i64 3, .int .i64 i, .int .u64 ver, .int .u64 word, c4, c5, c6, c7, c8, c9, c10, c11, c12, c13, c14, c15, c16, c17, c18, c19, c20, c21, c22, c23, c24, c25]] w fun e w' => e = .returned (.agg #[.bool (casB L i ver), .int .u64 0, .int .u64 0, .int .i64 0, .int .i64 0, .string ⟨#[]⟩, .string ⟨#[]⟩, .bool false, .int .i64 0, .slice none 0 0, .slice none 0 0, .slice none 0 0, .int .i64 0, .int .i64 0, .string ⟨#[]⟩, .int .u64 0, .slice none 0 0, .slice none 0 0, .slice none 0 0, .slice none 0 0, .int .i64 0, .string ⟨#[]⟩, .string ⟨#[]⟩, .int .u64 0, .int .i64 0]) ∧ MemAt w' o oc g gb gr A T (casL L i ver word) (casBs L bs A i ver) rs ∧ Fr [g, gb] w w' := by
  have hb2 : Below w.heap.size w ((w.alloc (.cells #[.int .i64 3, .int .i64 i, .int .u64 ver, .int .u64 word, c4, c5, c6, c7, c8, c9, c10, c11, c12, c13, c14, c15, c16, c17, c18, c19, c20, c21, c22, c23, c24, c25] 44)).alloc (.cells #[.bool false, .int .u64 0, .int .u64 0, .int .i64 0, .int .i64 0, .string ⟨#[]⟩, .string ⟨#[]⟩, .bool false, .int .i64 0, .slice none 0 0, .slice none 0 0, .slice none 0 0, .int .i64 0, .int .i64 0, .string ⟨#[]⟩, .int .u64 0, .slice none 0 0, .slice none 0 0, .slice none 0 0, .slice none 0 0, .int .i64 0, .string ⟨#[]⟩, .string ⟨#[]⟩, .int .u64 0, .int .i64 0] 46)) := by (repeat (first | exact Below.refl _ _ | assumption | refine below_alloc2 ?_ (by first | exact Nat.le_refl _ | omega) _ | refine Below.drew ?_ | refine below_drewN ?_ _ | refine below_push2 ?_ ‹_› (by first | exact Nat.le_refl _ | omega) | refine Below.setCell ?_ (by first | (simp; done) | (simp; omega) | omega) _))
  have BX := (Blk.new w #[.int .i64 3, .int .i64 i, .int .u64 ver, .int .u64 word, c4, c5, c6, c7, c8, c9, c10, c11, c12, c13, c14, c15, c16, c17, c18, c19, c20, c21, c22, c23, c24, c25] 44).alloc (.cells #[.bool false, .int .u64 0, .int .u64 0, .int .i64 0, .int .i64 0, .string ⟨#[]⟩, .string ⟨#[]⟩, .bool false, .int .i64 0, .slice none 0 0, .slice none 0 0, .slice none 0 0, .int .i64 0, .int .i64 0, .string ⟨#[]⟩, .int .u64 0, .slice none 0 0, .slice none 0 0, .slice none 0 0, .slice none 0 0, .int .i64 0, .string ⟨#[]⟩, .string ⟨#[]⟩, .int .u64 0, .int .i64 0] 46)
  have BR : Blk ((w.alloc (.cells #[.int .i64 3, .int .i64 i, .int .u64 ver, .int .u64 word, c4, c5, c6, c7, c8, c9, c10, c11, c12, c13, c14, c15, c16, c17, c18, c19, c20, c21, c22, c23, c24, c25] 44)).alloc (.cells #[.bool false, .int .u64 0, .int .u64 0, .int .i64 0, .int .i64 0, .string ⟨#[]⟩, .string ⟨#[]⟩, .bool false, .int .i64 0, .slice none 0 0, .slice none 0 0, .slice none 0 0, .int .i64 0, .int .i64 0, .string ⟨#[]⟩, .int .u64 0, .slice none 0 0, .slice none 0 0, .slice none 0 0, .slice none 0 0, .int .i64 0, .string ⟨#[]⟩, .string ⟨#[]⟩, .int .u64 0, .int .i64 0] 46)) (w.heap.size + 1) #[.bool false, .int .u64 0, .int .u64 0, .int .i64 0, .int .i64 0, .string ⟨#[]⟩, .string ⟨#[]⟩, .bool false, .int .i64 0, .slice none 0 0, .slice none 0 0, .slice none 0 0, .int .i64 0, .int .i64 0, .string ⟨#[]⟩, .int .u64 0, .slice none 0 0, .slice none 0 0, .slice none 0 0, .slice none 0 0, .int .i64 0, .string ⟨#[]⟩, .string ⟨#[]⟩, .int .u64 0, .int .i64 0] 46 := by
    have := Blk.new (w.alloc (.cells #[.int .i64 3, .int .i64 i, .int .u64 ver, .int .u64 word, c4, c5, c6, c7, c8, c9, c10, c11, c12, c13, c14, c15, c16, c17, c18, c19, c20, c21, c22, c23, c24, c25] 44)) #[.bool false, .int .u64 0, .int .u64 0, .int .i64 0, .int .i64 0, .string ⟨#[]⟩, .string ⟨#[]⟩, .bool false, .int .i64 0, .slice none 0 0, .slice none 0 0, .slice none 0 0, .int .i64 0, .int .i64 0, .string ⟨#[]⟩, .int .u64 0, .slice none 0 0, .slice none 0 0, .slice none 0 0, .slice none 0 0, .int .i64 0, .string ⟨#[]⟩, .string ⟨#[]⟩, .int .u64 0, .int .i64 0] 46
    simpa using this
  have h2 := h.below hb2
  have hgl := h.cells.rows.lt
  have hgbl := h.blocks.lt
  have hol := h.head.lt
  have hocl := h.cells.head.lt
  have hgrl := h.records.lt
  generalize hW : ((w.alloc (.cells #[.int .i64 3, .int .i64 i, .int .u64 ver, .int .u64 word, c4, c5, c6, c7, c8, c9, c10, c11, c12, c13, c14, c15, c16, c17, c18, c19, c20, c21, c22, c23, c24, c25] 44)).alloc (.cells #[.bool false, .int .u64 0, .int .u64 0, .int .i64 0, .int .i64 0, .string ⟨#[]⟩, .string ⟨#[]⟩, .bool false, .int .i64 0, .slice none 0 0, .slice none 0 0, .slice none 0 0, .int .i64 0, .int .i64 0, .string ⟨#[]⟩, .int .u64 0, .slice none 0 0, .slice none 0 0, .slice none 0 0, .slice none 0 0, .int .i64 0, .string ⟨#[]⟩, .string ⟨#[]⟩, .int .u64 0, .int .i64 0] 46)) = wq at hb2 h2 BX BR
  have b0 := BX.at 0 rfl
  go_enter Try.func9, Try.ntmps9
  go_wp2_with fail
  refine (none_any _ h2).mono ?_
  rintro e w1 ⟨rfl, rfl⟩
  clear hW
  go_wp2_with (refine wpList_load_row rfl 44 _ rfl w.heap.size rfl 44 _ (0, 0) _ BX.h Try.underlying44 rfl (by kernel_rfl) ?_)
  refine (write_cas i ver word c4 c5 c6 c7 c8 c9 c10 c11 c12 c13 c14 c15 c16 c17 c18 c19 c20 c21 c22 c23 c24 c25 _ h2 v0 v1 x0 x1).mono ?_
  rintro e w3 ⟨rfl, h3, hF3⟩
  have hsz := hb2.size
  have BR3 := hF3.blk BR (by simp; omega)
  clear h2 BX BR
  go_wp2_with (first
    | (refine wpList_load_row rfl 46 _ rfl (w.heap.size + 1) rfl 46 _ (0, 0) _ (BR3).h Try.underlying46 rfl (by kernel_rfl) ?_)
    | (refine wpList_store_row rfl 46 _ _ rfl (w.heap.size + 1) _ rfl rfl 46 _ (BR3).h (by kernel_rfl) (by rfl) (by kernel_rfl) ?_))
  refine bodyPost_ret (results_cell_row rfl _ _ (w.heap.size + 1) 46 #[.bool (casB L i ver), .int .u64 0, .int .u64 0, .int .i64 0, .int .i64 0, .string ⟨#[]⟩, .string ⟨#[]⟩, .bool false, .int .i64 0, .slice none 0 0, .slice none 0 0, .slice none 0 0, .int .i64 0, .int .i64 0, .string ⟨#[]⟩, .int .u64 0, .slice none 0 0, .slice none 0 0, .slice none 0 0, .slice none 0 0, .int .i64 0, .string ⟨#[]⟩, .string ⟨#[]⟩, .int .u64 0, .int .i64 0] (0, 0) _ rfl (Blk.row BR3 #[.bool (casB L i ver), .int .u64 0, .int .u64 0, .int .i64 0, .int .i64 0, .string ⟨#[]⟩, .string ⟨#[]⟩, .bool false, .int .i64 0, .slice none 0 0, .slice none 0 0, .slice none 0 0, .int .i64 0, .int .i64 0, .string ⟨#[]⟩, .int .u64 0, .slice none 0 0, .slice none 0 0, .slice none 0 0, .slice none 0 0, .int .i64 0, .string ⟨#[]⟩, .string ⟨#[]⟩, .int .u64 0, .int .i64 0]).h Try.underlying46 rfl (by kernel_rfl)) rfl ⟨rfl, ?_, ?_⟩
  · exact h3.off (Fr.row (S := [w.heap.size + 1]) _ _ (by simp)) (by simp; omega)
  · exact ((((Fr.of_below hb2).trans hF3).more (S' := [g, gb, w.heap.size + 1]) (by simp)).trans (Fr.row _ _ (by simp))).less
set_option maxRecDepth 100000 in
set_option maxHeartbeats 3200000 in
theorem do_load {o oc g gb gr A T : Nat} {L : List (Int × Int)} {bs rs : List (List Value)} (i ver word : Int) (c4 c5 c6 c7 c8 c9 c10 c11 c12 c13 c14 c15 c16 c17 c18 c19 c20 c21 c22 c23 c24 c25 : Value) (w : World) (h : MemAt w o oc g gb gr A T L bs rs) :
    Calls Try.prog 9 #[.pointer (some ⟨o, 0, none⟩), .agg #[.int .i64 1, .int .i64 i, .int .u64 ver, .int .u64 word, c4, c5, c6, c7, c8, c9, c10, c11, c12, c13, c14, c15, c16, c17, c18, c19, c20, c21, c22, c23, c24, c25]] w fun e w' => e = .returned (.agg #[.bool (inB L.length i), .int .u64 (loadW L i), .int .u64 (loadV L i), .int .i64 0, .int .i64 0, .string ⟨#[]⟩, .string ⟨#[]⟩, .bool false, .int .i64 0, .slice none 0 0, .slice none 0 0, .slice none 0 0, .int .i64 0, .int .i64 0, .string ⟨#[]⟩, .int .u64 0, .slice none 0 0, .slice none 0 0, .slice none 0 0, .slice none 0 0, .int .i64 0, .string ⟨#[]⟩, .string ⟨#[]⟩, .int .u64 0, .int .i64 0]) ∧ Below w.heap.size w w' := by
  have hb2 : Below w.heap.size w ((w.alloc (.cells #[.int .i64 1, .int .i64 i, .int .u64 ver, .int .u64 word, c4, c5, c6, c7, c8, c9, c10, c11, c12, c13, c14, c15, c16, c17, c18, c19, c20, c21, c22, c23, c24, c25] 44)).alloc (.cells #[.bool false, .int .u64 0, .int .u64 0, .int .i64 0, .int .i64 0, .string ⟨#[]⟩, .string ⟨#[]⟩, .bool false, .int .i64 0, .slice none 0 0, .slice none 0 0, .slice none 0 0, .int .i64 0, .int .i64 0, .string ⟨#[]⟩, .int .u64 0, .slice none 0 0, .slice none 0 0, .slice none 0 0, .slice none 0 0, .int .i64 0, .string ⟨#[]⟩, .string ⟨#[]⟩, .int .u64 0, .int .i64 0] 46)) := by (repeat (first | exact Below.refl _ _ | assumption | refine below_alloc2 ?_ (by first | exact Nat.le_refl _ | omega) _ | refine Below.drew ?_ | refine below_drewN ?_ _ | refine below_push2 ?_ ‹_› (by first | exact Nat.le_refl _ | omega) | refine Below.setCell ?_ (by first | (simp; done) | (simp; omega) | omega) _))
  have BX := (Blk.new w #[.int .i64 1, .int .i64 i, .int .u64 ver, .int .u64 word, c4, c5, c6, c7, c8, c9, c10, c11, c12, c13, c14, c15, c16, c17, c18, c19, c20, c21, c22, c23, c24, c25] 44).alloc (.cells #[.bool false, .int .u64 0, .int .u64 0, .int .i64 0, .int .i64 0, .string ⟨#[]⟩, .string ⟨#[]⟩, .bool false, .int .i64 0, .slice none 0 0, .slice none 0 0, .slice none 0 0, .int .i64 0, .int .i64 0, .string ⟨#[]⟩, .int .u64 0, .slice none 0 0, .slice none 0 0, .slice none 0 0, .slice none 0 0, .int .i64 0, .string ⟨#[]⟩, .string ⟨#[]⟩, .int .u64 0, .int .i64 0] 46)
  have BR : Blk ((w.alloc (.cells #[.int .i64 1, .int .i64 i, .int .u64 ver, .int .u64 word, c4, c5, c6, c7, c8, c9, c10, c11, c12, c13, c14, c15, c16, c17, c18, c19, c20, c21, c22, c23, c24, c25] 44)).alloc (.cells #[.bool false, .int .u64 0, .int .u64 0, .int .i64 0, .int .i64 0, .string ⟨#[]⟩, .string ⟨#[]⟩, .bool false, .int .i64 0, .slice none 0 0, .slice none 0 0, .slice none 0 0, .int .i64 0, .int .i64 0, .string ⟨#[]⟩, .int .u64 0, .slice none 0 0, .slice none 0 0, .slice none 0 0, .slice none 0 0, .int .i64 0, .string ⟨#[]⟩, .string ⟨#[]⟩, .int .u64 0, .int .i64 0] 46)) (w.heap.size + 1) #[.bool false, .int .u64 0, .int .u64 0, .int .i64 0, .int .i64 0, .string ⟨#[]⟩, .string ⟨#[]⟩, .bool false, .int .i64 0, .slice none 0 0, .slice none 0 0, .slice none 0 0, .int .i64 0, .int .i64 0, .string ⟨#[]⟩, .int .u64 0, .slice none 0 0, .slice none 0 0, .slice none 0 0, .slice none 0 0, .int .i64 0, .string ⟨#[]⟩, .string ⟨#[]⟩, .int .u64 0, .int .i64 0] 46 := by
    have := Blk.new (w.alloc (.cells #[.int .i64 1, .int .i64 i, .int .u64 ver, .int .u64 word, c4, c5, c6, c7, c8, c9, c10, c11, c12, c13, c14, c15, c16, c17, c18, c19, c20, c21, c22, c23, c24, c25] 44)) #[.bool false, .int .u64 0, .int .u64 0, .int .i64 0, .int .i64 0, .string ⟨#[]⟩, .string ⟨#[]⟩, .bool false, .int .i64 0, .slice none 0 0, .slice none 0 0, .slice none 0 0, .int .i64 0, .int .i64 0, .string ⟨#[]⟩, .int .u64 0, .slice none 0 0, .slice none 0 0, .slice none 0 0, .slice none 0 0, .int .i64 0, .string ⟨#[]⟩, .string ⟨#[]⟩, .int .u64 0, .int .i64 0] 46
    simpa using this
  have h2 := h.below hb2
  generalize hW : ((w.alloc (.cells #[.int .i64 1, .int .i64 i, .int .u64 ver, .int .u64 word, c4, c5, c6, c7, c8, c9, c10, c11, c12, c13, c14, c15, c16, c17, c18, c19, c20, c21, c22, c23, c24, c25] 44)).alloc (.cells #[.bool false, .int .u64 0, .int .u64 0, .int .i64 0, .int .i64 0, .string ⟨#[]⟩, .string ⟨#[]⟩, .bool false, .int .i64 0, .slice none 0 0, .slice none 0 0, .slice none 0 0, .int .i64 0, .int .i64 0, .string ⟨#[]⟩, .int .u64 0, .slice none 0 0, .slice none 0 0, .slice none 0 0, .slice none 0 0, .int .i64 0, .string ⟨#[]⟩, .string ⟨#[]⟩, .int .u64 0, .int .i64 0] 46)) = wq at hb2 h2 BX BR
  have b0 := BX.at 0 rfl
  have b1 := BX.at 1 rfl
  go_enter Try.func9, Try.ntmps9
  go_wp2_with fail
  refine (none_any _ h2).mono ?_
  rintro e w1 ⟨rfl, rfl⟩
  clear hW
  go_wp2_with fail
  refine (mload_any i _ h2).mono ?_
  rintro e w3 ⟨rfl, hb3⟩
  have hB3 := below_push2 hb2 hb3 (Nat.le_refl _)
  have BR3 := BR.below hb3
  clear h2 BX BR b0 b1
  have g0 := BR3.at 0 rfl
  have g1 := BR3.at 1 rfl
  have g2 := BR3.at 2 rfl
  have f0 := BR3.free 0
  have f1 := BR3.free 1
  have f2 := BR3.free 2
  have BR4 := ((BR3.set 1 (.int .u64 (loadW L i))).set 2 (.int .u64 (loadV L i))).set 0 (.bool (inB L.length i))
  simp only [List.setIfInBounds_toArray, List.set_cons_succ, List.set_cons_zero] at BR4
  go_wp2_with (first
    | (refine wpList_load_row rfl 46 _ rfl (w.heap.size + 1) rfl 46 _ (0, 0) _ (BR4).h Try.underlying46 rfl (by kernel_rfl) ?_)
    | (refine wpList_store_row rfl 46 _ _ rfl (w.heap.size + 1) _ rfl rfl 46 _ (BR4).h (by kernel_rfl) (by rfl) (by kernel_rfl) ?_))
  refine bodyPost_ret (results_cell_row rfl _ _ (w.heap.size + 1) 46 #[.bool (inB L.length i), .int .u64 (loadW L i), .int .u64 (loadV L i), .int .i64 0, .int .i64 0, .string ⟨#[]⟩, .string ⟨#[]⟩, .bool false, .int .i64 0, .slice none 0 0, .slice none 0 0, .slice none 0 0, .int .i64 0, .int .i64 0, .string ⟨#[]⟩, .int .u64 0, .slice none 0 0, .slice none 0 0, .slice none 0 0, .slice none 0 0, .int .i64 0, .string ⟨#[]⟩, .string ⟨#[]⟩, .int .u64 0, .int .i64 0] (0, 0) _ rfl (Blk.row BR4 #[.bool (inB L.length i), .int .u64 (loadW L i), .int .u64 (loadV L i), .int .i64 0, .int .i64 0, .string ⟨#[]⟩, .string ⟨#[]⟩, .bool false, .int .i64 0, .slice none 0 0, .slice none 0 0, .slice none 0 0, .int .i64 0, .int .i64 0, .string ⟨#[]⟩, .int .u64 0, .slice none 0 0, .slice none 0 0, .slice none 0 0, .slice none 0 0, .int .i64 0, .string ⟨#[]⟩, .string ⟨#[]⟩, .int .u64 0, .int .i64 0]).h Try.underlying46 rfl (by kernel_rfl)) rfl ⟨rfl, ?_⟩
  exact below_setRow (((hB3.setCell (by simp) _).setCell (by simp) _).setCell (by simp) _) (by omega) _
end Go.Proofs.Ytgdeiaholkmfeaa.MemP

/-
  The example of chapter 26 is true.
-/
namespace Go.Proofs.Ytgdeiaholkmfeaa.MemP
open Go.RowKit RefP CellP
set_option linter.unusedVariables false
set_option linter.unusedSimpArgs false
/-- a reply is kept in a variable of its own -/
theorem rep_ok (a : Bool) (b c : Int) (W : World) : (Instr.field 46 (.agg #[.bool a, .int .u64 b, .int .u64 c, .int .i64 0, .int .i64 0, .string ⟨#[]⟩, .string ⟨#[]⟩, .bool false, .int .i64 0, .slice none 0 0, .slice none 0 0, .slice none 0 0, .int .i64 0, .int .i64 0, .string ⟨#[]⟩, .int .u64 0, .slice none 0 0, .slice none 0 0, .slice none 0 0, .slice none 0 0, .int .i64 0, .string ⟨#[]⟩, .string ⟨#[]⟩, .int .u64 0, .int .i64 0]) 0).run Try.prog W = .ok (.bool a) W := by kernel_rfl
theorem rep_word (a : Bool) (b c : Int) (W : World) : (Instr.field 46 (.agg #[.bool a, .int .u64 b, .int .u64 c, .int .i64 0, .int .i64 0, .string ⟨#[]⟩, .string ⟨#[]⟩, .bool false, .int .i64 0, .slice none 0 0, .slice none 0 0, .slice none 0 0, .int .i64 0, .int .i64 0, .string ⟨#[]⟩, .int .u64 0, .slice none 0 0, .slice none 0 0, .slice none 0 0, .slice none 0 0, .int .i64 0, .string ⟨#[]⟩, .string ⟨#[]⟩, .int .u64 0, .int .i64 0]) 1).run Try.prog W = .ok (.int .u64 b) W := by kernel_rfl
theorem rep_ver (a : Bool) (b c : Int) (W : World) : (Instr.field 46 (.agg #[.bool a, .int .u64 b, .int .u64 c, .int .i64 0, .int .i64 0, .string ⟨#[]⟩, .string ⟨#[]⟩, .bool false, .int .i64 0, .slice none 0 0, .slice none 0 0, .slice none 0 0, .int .i64 0, .int .i64 0, .string ⟨#[]⟩, .int .u64 0, .slice none 0 0, .slice none 0 0, .slice none 0 0, .slice none 0 0, .int .i64 0, .string ⟨#[]⟩, .string ⟨#[]⟩, .int .u64 0, .int .i64 0]) 2).run Try.prog W = .ok (.int .u64 c) W := by kernel_rfl
theorem ex1 : casB (freshL 4 2 0) 18 0 = true := by decide +kernel
theorem ex2 : casB (casL (freshL 4 2 0) 18 0 5) 18 0 = false := by decide +kernel
theorem ex3 : loadW (casL (freshL 4 2 0) 18 0 5) 18 = 5 := by decide +kernel
theorem ex4 : (casL (freshL 4 2 0) 18 0 5).length = 19 := by decide +kernel
theorem ex5 : gateI 4 2 = 18 := by decide
end Go.Proofs.Ytgdeiaholkmfeaa.MemP

/-
  ref.Open, ref.State and the document's: contracts, each for every word.
-/
namespace Go.Proofs.Ytgdeiaholkmfeaa.RefP
open Go.RowKit
set_option linter.unusedVariables false

set_option maxHeartbeats 800000 in
theorem open_any (x : Int) (w : World) (h2 : 0 ≤ x) (h3 : x ≤ 18446744073709551615) :
    Calls Try.prog 32 #[.int .u64 x] w fun e w' => e = .returned (.tuple #[.int .i64 (openP x), .int .u64 (openG x), .bool (opensB x)]) ∧ Below w.heap.size w w' := by
  by_cases c0 : x = 0
  · subst c0
    go_enter Try.func32, Try.ntmps32
    go_wp2_with fail
    refine (of_low14 0 _ (by omega) (by omega)).mono ?_
    rintro e w1 ⟨rfl, hb1⟩
    go_wp2_with fail
    refine (of_high14 0 _ (by omega) (by omega)).mono ?_
    rintro e w2 ⟨rfl, hb2⟩
    go_wp2_with fail
    go_ret3
    exact ⟨rfl, below_two hb1 hb2⟩
  have hz : (x == 0) = false := by simpa using c0
  cases ho : opensB x
  · have hn := pack_not_open x h2 c0 ho
    have hv : Hid (Ending.returned (.tuple #[.int .i64 (openP x), .int .u64 (openG x), .bool false]) = .returned (.tuple #[.int .i64 0, .int .u64 0, .bool false])) := ret_3 (openP_no ho) (openG_no ho) rfl
    clear ho c0
    have hq : (packI (x % 16384 - 1) (x / 16384) != x) = true := by simpa using hn
    go_enter Try.func32, Try.ntmps32
    go_wp2_with fail
    refine (of_low14 x _ (by omega) (by omega)).mono ?_
    rintro e w1 ⟨rfl, hb1⟩
    go_wp2_with fail
    refine (of_high14 x _ (by omega) (by omega)).mono ?_
    rintro e w2 ⟨rfl, hb2⟩
    go_wp2_with fail
    refine (pack_any _ _ _ (by omega) (by omega) (by omega) (by omega)).mono ?_
    rintro e w3 ⟨rfl, rfl⟩
    go_wp2_with fail
    go_ret3
    exact ⟨hv.out.symm, below_two hb1 hb2⟩
  · have hn := pack_of_open x ho
    have hv : Hid (Ending.returned (.tuple #[.int .i64 (openP x), .int .u64 (openG x), .bool true]) = .returned (.tuple #[.int .i64 (x % 16384 - 1), .int .u64 (x / 16384), .bool true])) := ret_3 (openP_yes ho) (openG_yes ho) rfl
    clear ho c0
    have hq : (packI (x % 16384 - 1) (x / 16384) != x) = false := by simp [hn]
    have hn' := Lib.hid hn
    clear hn
    go_enter Try.func32, Try.ntmps32
    go_wp2_with fail
    refine (of_low14 x _ (by omega) (by omega)).mono ?_
    rintro e w1 ⟨rfl, hb1⟩
    go_wp2_with fail
    refine (of_high14 x _ (by omega) (by omega)).mono ?_
    rintro e w2 ⟨rfl, hb2⟩
    go_wp2_with fail
    refine (pack_any _ _ _ (by omega) (by omega) (by omega) (by omega)).mono ?_
    rintro e w3 ⟨rfl, rfl⟩
    go_wp2_with fail
    go_ret3
    exact ⟨hv.out.symm, below_two hb1 hb2⟩
end Go.Proofs.Ytgdeiaholkmfeaa.RefP

/-
  A memory that no call made: named, Block, Hazard: contracts.
-/
namespace Go.Proofs.Ytgdeiaholkmfeaa.MemP
open Go.RowKit RefP CellP
set_option linter.unusedVariables false
set_option linter.unusedSimpArgs false
set_option maxHeartbeats 1600000 in
theorem named_zero (o : Nat) (x : Int) (w : World) (h : NoMem w o) (x0 : 0 ≤ x) (x1 : x ≤ 18446744073709551615) : Calls Try.prog 27 #[.pointer (some ⟨o, 0, none⟩), .int .u64 x] w fun e w' => e = .returned (.tuple #[.int .i64 0, .bool false]) ∧ Below w.heap.size w w' := by
  have hp := (open_bounds x).1
  have q1 : decide ((0 : Int) ≤ openP x) = true := by simpa using hp
  cases ho : opensB x
  · go_enter Try.func27, Try.ntmps27
    go_wp2_with fail
    refine (open_any _ _ x0 x1).mono ?_
    rw [ho]
    rintro e w1 ⟨rfl, hb1⟩
    go_wp2_with fail
    go_ret2
    exact ⟨rfl, hb1⟩
  · go_enter Try.func27, Try.ntmps27
    go_wp2_with fail
    refine (open_any _ _ x0 x1).mono ?_
    rw [ho]
    rintro e w1 ⟨rfl, hb1⟩
    go_wp2_with fail
    refine (arena_zero _ _ (h.below hb1)).mono ?_
    rintro e w2 ⟨rfl, rfl⟩
    go_wp2_with fail
    go_ret2
    exact ⟨rfl, hb1⟩
abbrev zbA : Array Value := #[.int .i64 0, .int .i64 0, .string ⟨#[]⟩, .string ⟨#[]⟩, .bool false, .int .i64 0, .slice none 0 0, .slice none 0 0, .slice none 0 0, .int .i64 0, .int .i64 0, .string ⟨#[]⟩, .int .u64 0, .slice none 0 0, .slice none 0 0, .slice none 0 0, .slice none 0 0]
theorem results_cell_tmp {P : Program} {fn : Func} {p q : Tmp} {ty : TypeId} (h : fn.results = #[.cell p ty, .tmp q]) (tmps : Array Value) (w : World) (g : Nat) (t : TypeId) (cs : Array Value) (fr : Nat × Nat) (d : TypeDesc)
    (v : Value) (hv : tmps.getD q undef = v) (hp : tmps.getD p undef = .pointer (some ⟨g, 0, none⟩)) (hg : w.heap[g]? = some (.cells cs t fr))
    (hu : P.underlying ty = some d) (hd : (match d with | .struct _ | .array _ _ => true | _ => false) = true) (hi : (P.info? ty).map (·.size) = some cs.size) :
    (results fn tmps).run P w = .ok (.tuple #[.agg cs, v]) w := by
  subst hv
  have hp' : tmps[p]?.getD undef = .pointer (some ⟨g, 0, none⟩) := by simpa using hp
  simp [results, h, hp', asAddr, run_loadVar_row w g t ty cs fr d hg hu hd hi]
set_option maxRecDepth 100000 in
set_option maxHeartbeats 1600000 in
theorem block_zero (o : Nat) (x : Int) (w : World) (h : NoMem w o) (x0 : 0 ≤ x) (x1 : x ≤ 18446744073709551615) : Calls Try.prog 26 #[.pointer (some ⟨o, 0, none⟩), .int .u64 x] w fun e w' => e = .returned (.tuple #[.agg zbA, .bool false]) ∧ Below w.heap.size w w' := by
  have hb0 : Below w.heap.size w (w.alloc (.cells zbA 40)) := by (repeat (first | exact Below.refl _ _ | assumption | refine below_alloc2 ?_ (by first | exact Nat.le_refl _ | omega) _ | refine Below.drew ?_ | refine below_drewN ?_ _ | refine below_push2 ?_ ‹_› (by first | exact Nat.le_refl _ | omega) | refine Below.setCell ?_ (by first | (simp; done) | (simp; omega) | omega) _))
  go_enter Try.func26, Try.ntmps26
  go_wp2_with fail
  refine (named_zero _ _ _ (h.below hb0) x0 x1).mono ?_
  rintro e w1 ⟨rfl, hb1⟩
  have hB1 := below_push2 hb0 hb1 (Nat.le_refl _)
  have BR := (Blk.new w zbA 40).below hb1
  go_wp2_with (refine wpList_store_row rfl 40 _ _ rfl w.heap.size _ rfl rfl 40 _ BR.h (by kernel_rfl) (by rfl) (by kernel_rfl) ?_)
  refine bodyPost_ret (v := .tuple #[.agg zbA, .bool false]) (results_cell_tmp rfl _ _ w.heap.size 40 zbA (0, 0) _ (.bool false) rfl rfl (Blk.row BR zbA).h Try.underlying40 rfl (by kernel_rfl)) rfl ⟨rfl, below_setRow hB1 (by omega) _⟩
set_option maxHeartbeats 800000 in
theorem haz_zero (o : Nat) (w : World) (h : NoMem w o) : Calls Try.prog 21 #[.pointer (some ⟨o, 0, none⟩), .int .i64 0, .int .i64 0] w fun e w' => e = .returned (.int .i64 (-1)) ∧ w = w' := by
  go_enter Try.func21, Try.ntmps21
  go_wp2_with fail
  refine (threads_zero _ _ h).mono ?_
  rintro e w2 ⟨rfl, rfl⟩
  go_wp2_with fail
  go_ret
  exact ⟨rfl, rfl⟩
end Go.Proofs.Ytgdeiaholkmfeaa.MemP

/-
  memory: where cells lie: contracts that tell the world that is left (so many draws behind).
-/
namespace Go.Proofs.Ytgdeiaholkmfeaa.MemP
open Go.RowKit RefP CellP
set_option linter.unusedVariables false
set_option linter.unusedSimpArgs false
set_option maxRecDepth 100000 in
set_option maxHeartbeats 3200000 in
theorem atx_0 {o oc g gb gr A T : Nat} {L : List (Int × Int)} {bs rs : List (List Value)} (i : Int) (w : World) (h : MemAt w o oc g gb gr A T L bs rs) (i0 : -9223372036854775808 ≤ i) (i1 : i ≤ 9223372036854775807) :
    Calls Try.prog 35 #[.pointer (some ⟨o, 0, none⟩), .int .i64 0, .int .i64 i] w fun e w' => e = .returned (.int .i64 (atI A T 0 i)) ∧ ∃ n, w' = w.drewN n := by
  have c1 : w.cell? ⟨o, 1, none⟩ = some (.int .i64 (fromI A T 0)) := h.head.at 1 rfl
  have c2 : w.cell? ⟨o, 2, none⟩ = some (.int .i64 (fromI A T 1)) := h.head.at 2 rfl
  have e1 := from_succ A T 0 (by omega)
  have e2 := from_rng A T 0 h.a1.2 h.t1.2
  have e3 := size_rng A T 0 h.a1.2 h.t1.2
  simp only [Nat.reduceAdd] at e1
  have hw : IntKind.i64.wrap (fromI A T 1 - fromI A T 0) = sizeI A T 0 := by rw [IntKind.wrap_i64]; omega
  have hk : IntKind.i64.wrap 1 = 1 := by rw [IntKind.wrap_i64]; rfl
  clear e1
  by_cases hn : i < 0
  · have q1 : decide (i < 0) = true := by simpa using hn
    have hR : Hid (atI A T 0 i = -1) := atI_no (by omega)
    clear hn
    go_enter Try.func35, Try.ntmps35
    go_wp2_with fail
    go_quiet (exact Calls.quiet_of_same ((none_any _ (h.drewN _)).flip))
    go_wp2_with fail
    go_ret
    exact ⟨ret_int hR.out.symm, _, rfl⟩
  · have q1 : decide (i < 0) = false := by simpa using hn
    by_cases hm : sizeI A T 0 ≤ i
    · have q2 : decide (sizeI A T 0 ≤ i) = true := by simpa using hm
      have hR : Hid (atI A T 0 i = -1) := atI_no (by omega)
      clear hn hm
      go_enter Try.func35, Try.ntmps35
      go_wp2_with fail
      go_quiet (exact Calls.quiet_of_same ((none_any _ (h.drewN _)).flip))
      go_wp2_with fail
      go_ret
      exact ⟨ret_int hR.out.symm, _, rfl⟩
    · have q2 : decide (sizeI A T 0 ≤ i) = false := by simpa using hm
      have hR : Hid (atI A T 0 i = fromI A T 0 + i) := atI_yes (by omega) (by omega)
      have hw3 : IntKind.i64.wrap (fromI A T 0 + i) = fromI A T 0 + i := by rw [IntKind.wrap_i64]; omega
      clear hn hm
      go_enter Try.func35, Try.ntmps35
      go_wp2_with fail
      go_quiet (exact Calls.quiet_of_same ((none_any _ (h.drewN _)).flip))
      go_wp2_with fail
      go_ret
      exact ⟨ret_int hR.out.symm, _, rfl⟩
set_option maxRecDepth 100000 in
set_option maxHeartbeats 3200000 in
theorem atx_1 {o oc g gb gr A T : Nat} {L : List (Int × Int)} {bs rs : List (List Value)} (i : Int) (w : World) (h : MemAt w o oc g gb gr A T L bs rs) (i0 : -9223372036854775808 ≤ i) (i1 : i ≤ 9223372036854775807) :
    Calls Try.prog 35 #[.pointer (some ⟨o, 0, none⟩), .int .i64 1, .int .i64 i] w fun e w' => e = .returned (.int .i64 (atI A T 1 i)) ∧ ∃ n, w' = w.drewN n := by
  have c1 : w.cell? ⟨o, 2, none⟩ = some (.int .i64 (fromI A T 1)) := h.head.at 2 rfl
  have c2 : w.cell? ⟨o, 3, none⟩ = some (.int .i64 (fromI A T 2)) := h.head.at 3 rfl
  have e1 := from_succ A T 1 (by omega)
  have e2 := from_rng A T 1 h.a1.2 h.t1.2
  have e3 := size_rng A T 1 h.a1.2 h.t1.2
  simp only [Nat.reduceAdd] at e1
  have hw : IntKind.i64.wrap (fromI A T 2 - fromI A T 1) = sizeI A T 1 := by rw [IntKind.wrap_i64]; omega
  have hk : IntKind.i64.wrap 2 = 2 := by rw [IntKind.wrap_i64]; rfl
  clear e1
  by_cases hn : i < 0
  · have q1 : decide (i < 0) = true := by simpa using hn
    have hR : Hid (atI A T 1 i = -1) := atI_no (by omega)
    clear hn
    go_enter Try.func35, Try.ntmps35
    go_wp2_with fail
    go_quiet (exact Calls.quiet_of_same ((none_any _ (h.drewN _)).flip))
    go_wp2_with fail
    go_ret
    exact ⟨ret_int hR.out.symm, _, rfl⟩
  · have q1 : decide (i < 0) = false := by simpa using hn
    by_cases hm : sizeI A T 1 ≤ i
    · have q2 : decide (sizeI A T 1 ≤ i) = true := by simpa using hm
      have hR : Hid (atI A T 1 i = -1) := atI_no (by omega)
      clear hn hm
      go_enter Try.func35, Try.ntmps35
      go_wp2_with fail
      go_quiet (exact Calls.quiet_of_same ((none_any _ (h.drewN _)).flip))
      go_wp2_with fail
      go_ret
      exact ⟨ret_int hR.out.symm, _, rfl⟩
    · have q2 : decide (sizeI A T 1 ≤ i) = false := by simpa using hm
      have hR : Hid (atI A T 1 i = fromI A T 1 + i) := atI_yes (by omega) (by omega)
      have hw3 : IntKind.i64.wrap (fromI A T 1 + i) = fromI A T 1 + i := by rw [IntKind.wrap_i64]; omega
      clear hn hm
      go_enter Try.func35, Try.ntmps35
      go_wp2_with fail
      go_quiet (exact Calls.quiet_of_same ((none_any _ (h.drewN _)).flip))
      go_wp2_with fail
      go_ret
      exact ⟨ret_int hR.out.symm, _, rfl⟩
set_option maxRecDepth 100000 in
set_option maxHeartbeats 3200000 in
theorem atx_3 {o oc g gb gr A T : Nat} {L : List (Int × Int)} {bs rs : List (List Value)} (i : Int) (w : World) (h : MemAt w o oc g gb gr A T L bs rs) (i0 : -9223372036854775808 ≤ i) (i1 : i ≤ 9223372036854775807) :
    Calls Try.prog 35 #[.pointer (some ⟨o, 0, none⟩), .int .i64 3, .int .i64 i] w fun e w' => e = .returned (.int .i64 (atI A T 3 i)) ∧ ∃ n, w' = w.drewN n := by
  have c1 : w.cell? ⟨o, 4, none⟩ = some (.int .i64 (fromI A T 3)) := h.head.at 4 rfl
  have c2 : w.cell? ⟨o, 5, none⟩ = some (.int .i64 (fromI A T 4)) := h.head.at 5 rfl
  have e1 := from_succ A T 3 (by omega)
  have e2 := from_rng A T 3 h.a1.2 h.t1.2
  have e3 := size_rng A T 3 h.a1.2 h.t1.2
  simp only [Nat.reduceAdd] at e1
  have hw : IntKind.i64.wrap (fromI A T 4 - fromI A T 3) = sizeI A T 3 := by rw [IntKind.wrap_i64]; omega
  have hk : IntKind.i64.wrap 4 = 4 := by rw [IntKind.wrap_i64]; rfl
  clear e1
  by_cases hn : i < 0
  · have q1 : decide (i < 0) = true := by simpa using hn
    have hR : Hid (atI A T 3 i = -1) := atI_no (by omega)
    clear hn
    go_enter Try.func35, Try.ntmps35
    go_wp2_with fail
    go_quiet (exact Calls.quiet_of_same ((none_any _ (h.drewN _)).flip))
    go_wp2_with fail
    go_ret
    exact ⟨ret_int hR.out.symm, _, rfl⟩
  · have q1 : decide (i < 0) = false := by simpa using hn
    by_cases hm : sizeI A T 3 ≤ i
    · have q2 : decide (sizeI A T 3 ≤ i) = true := by simpa using hm
      have hR : Hid (atI A T 3 i = -1) := atI_no (by omega)
      clear hn hm
      go_enter Try.func35, Try.ntmps35
      go_wp2_with fail
      go_quiet (exact Calls.quiet_of_same ((none_any _ (h.drewN _)).flip))
      go_wp2_with fail
      go_ret
      exact ⟨ret_int hR.out.symm, _, rfl⟩
    · have q2 : decide (sizeI A T 3 ≤ i) = false := by simpa using hm
      have hR : Hid (atI A T 3 i = fromI A T 3 + i) := atI_yes (by omega) (by omega)
      have hw3 : IntKind.i64.wrap (fromI A T 3 + i) = fromI A T 3 + i := by rw [IntKind.wrap_i64]; omega
      clear hn hm
      go_enter Try.func35, Try.ntmps35
      go_wp2_with fail
      go_quiet (exact Calls.quiet_of_same ((none_any _ (h.drewN _)).flip))
      go_wp2_with fail
      go_ret
      exact ⟨ret_int hR.out.symm, _, rfl⟩
set_option maxRecDepth 100000 in
set_option maxHeartbeats 3200000 in
theorem atx_5 {o oc g gb gr A T : Nat} {L : List (Int × Int)} {bs rs : List (List Value)} (i : Int) (w : World) (h : MemAt w o oc g gb gr A T L bs rs) (i0 : -9223372036854775808 ≤ i) (i1 : i ≤ 9223372036854775807) :
    Calls Try.prog 35 #[.pointer (some ⟨o, 0, none⟩), .int .i64 5, .int .i64 i] w fun e w' => e = .returned (.int .i64 (atI A T 5 i)) ∧ ∃ n, w' = w.drewN n := by
  have c1 : w.cell? ⟨o, 6, none⟩ = some (.int .i64 (fromI A T 5)) := h.head.at 6 rfl
  have c2 : w.cell? ⟨o, 7, none⟩ = some (.int .i64 (fromI A T 6)) := h.head.at 7 rfl
  have e1 := from_succ A T 5 (by omega)
  have e2 := from_rng A T 5 h.a1.2 h.t1.2
  have e3 := size_rng A T 5 h.a1.2 h.t1.2
  simp only [Nat.reduceAdd] at e1
  have hw : IntKind.i64.wrap (fromI A T 6 - fromI A T 5) = sizeI A T 5 := by rw [IntKind.wrap_i64]; omega
  have hk : IntKind.i64.wrap 6 = 6 := by rw [IntKind.wrap_i64]; rfl
  clear e1
  by_cases hn : i < 0
  · have q1 : decide (i < 0) = true := by simpa using hn
    have hR : Hid (atI A T 5 i = -1) := atI_no (by omega)
    clear hn
    go_enter Try.func35, Try.ntmps35
    go_wp2_with fail
    go_quiet (exact Calls.quiet_of_same ((none_any _ (h.drewN _)).flip))
    go_wp2_with fail
    go_ret
    exact ⟨ret_int hR.out.symm, _, rfl⟩
  · have q1 : decide (i < 0) = false := by simpa using hn
    by_cases hm : sizeI A T 5 ≤ i
    · have q2 : decide (sizeI A T 5 ≤ i) = true := by simpa using hm
      have hR : Hid (atI A T 5 i = -1) := atI_no (by omega)
      clear hn hm
      go_enter Try.func35, Try.ntmps35
      go_wp2_with fail
      go_quiet (exact Calls.quiet_of_same ((none_any _ (h.drewN _)).flip))
      go_wp2_with fail
      go_ret
      exact ⟨ret_int hR.out.symm, _, rfl⟩
    · have q2 : decide (sizeI A T 5 ≤ i) = false := by simpa using hm
      have hR : Hid (atI A T 5 i = fromI A T 5 + i) := atI_yes (by omega) (by omega)
      have hw3 : IntKind.i64.wrap (fromI A T 5 + i) = fromI A T 5 + i := by rw [IntKind.wrap_i64]; omega
      clear hn hm
      go_enter Try.func35, Try.ntmps35
      go_wp2_with fail
      go_quiet (exact Calls.quiet_of_same ((none_any _ (h.drewN _)).flip))
      go_wp2_with fail
      go_ret
      exact ⟨ret_int hR.out.symm, _, rfl⟩
set_option maxRecDepth 100000 in
set_option maxHeartbeats 3200000 in
theorem atx_6 {o oc g gb gr A T : Nat} {L : List (Int × Int)} {bs rs : List (List Value)} (i : Int) (w : World) (h : MemAt w o oc g gb gr A T L bs rs) (i0 : -9223372036854775808 ≤ i) (i1 : i ≤ 9223372036854775807) :
    Calls Try.prog 35 #[.pointer (some ⟨o, 0, none⟩), .int .i64 6, .int .i64 i] w fun e w' => e = .returned (.int .i64 (atI A T 6 i)) ∧ ∃ n, w' = w.drewN n := by
  have c1 : w.cell? ⟨o, 7, none⟩ = some (.int .i64 (fromI A T 6)) := h.head.at 7 rfl
  have c2 : w.cell? ⟨o, 8, none⟩ = some (.int .i64 (fromI A T 7)) := h.head.at 8 rfl
  have e1 := from_succ A T 6 (by omega)
  have e2 := from_rng A T 6 h.a1.2 h.t1.2
  have e3 := size_rng A T 6 h.a1.2 h.t1.2
  simp only [Nat.reduceAdd] at e1
  have hw : IntKind.i64.wrap (fromI A T 7 - fromI A T 6) = sizeI A T 6 := by rw [IntKind.wrap_i64]; omega
  have hk : IntKind.i64.wrap 7 = 7 := by rw [IntKind.wrap_i64]; rfl
  clear e1
  by_cases hn : i < 0
  · have q1 : decide (i < 0) = true := by simpa using hn
    have hR : Hid (atI A T 6 i = -1) := atI_no (by omega)
    clear hn
    go_enter Try.func35, Try.ntmps35
    go_wp2_with fail
    go_quiet (exact Calls.quiet_of_same ((none_any _ (h.drewN _)).flip))
    go_wp2_with fail
    go_ret
    exact ⟨ret_int hR.out.symm, _, rfl⟩
  · have q1 : decide (i < 0) = false := by simpa using hn
    by_cases hm : sizeI A T 6 ≤ i
    · have q2 : decide (sizeI A T 6 ≤ i) = true := by simpa using hm
      have hR : Hid (atI A T 6 i = -1) := atI_no (by omega)
      clear hn hm
      go_enter Try.func35, Try.ntmps35
      go_wp2_with fail
      go_quiet (exact Calls.quiet_of_same ((none_any _ (h.drewN _)).flip))
      go_wp2_with fail
      go_ret
      exact ⟨ret_int hR.out.symm, _, rfl⟩
    · have q2 : decide (sizeI A T 6 ≤ i) = false := by simpa using hm
      have hR : Hid (atI A T 6 i = fromI A T 6 + i) := atI_yes (by omega) (by omega)
      have hw3 : IntKind.i64.wrap (fromI A T 6 + i) = fromI A T 6 + i := by rw [IntKind.wrap_i64]; omega
      clear hn hm
      go_enter Try.func35, Try.ntmps35
      go_wp2_with fail
      go_quiet (exact Calls.quiet_of_same ((none_any _ (h.drewN _)).flip))
      go_wp2_with fail
      go_ret
      exact ⟨ret_int hR.out.symm, _, rfl⟩
set_option maxHeartbeats 800000 in
theorem node_x {o oc g gb gr A T : Nat} {L : List (Int × Int)} {bs rs : List (List Value)} (i : Int) (w : World) (h : MemAt w o oc g gb gr A T L bs rs) (i0 : -9223372036854775808 ≤ i) (i1 : i ≤ 9223372036854775807) :
    Calls Try.prog 20 #[.pointer (some ⟨o, 0, none⟩), .int .i64 i] w fun e w' => e = .returned (.int .i64 (atI A T 0 i)) ∧ ∃ n, w' = w.drewN n := by
  go_enter Try.func20, Try.ntmps20
  go_wp2_with fail
  refine (atx_0 i _ h i0 i1).mono ?_
  rintro e w1 ⟨rfl, n, rfl⟩
  go_wp2_with fail
  go_ret
  exact ⟨rfl, _, rfl⟩
set_option maxHeartbeats 800000 in
theorem muse_x {o oc g gb gr A T : Nat} {L : List (Int × Int)} {bs rs : List (List Value)} (i : Int) (w : World) (h : MemAt w o oc g gb gr A T L bs rs) (i0 : -9223372036854775808 ≤ i) (i1 : i ≤ 9223372036854775807) :
    Calls Try.prog 45 #[.pointer (some ⟨o, 0, none⟩), .int .i64 i] w fun e w' => e = .returned (.int .i64 (atI A T 1 i)) ∧ ∃ n, w' = w.drewN n := by
  go_enter Try.func45, Try.ntmps45
  go_wp2_with fail
  refine (atx_1 i _ h i0 i1).mono ?_
  rintro e w1 ⟨rfl, n, rfl⟩
  go_wp2_with fail
  go_ret
  exact ⟨rfl, _, rfl⟩
end Go.Proofs.Ytgdeiaholkmfeaa.MemP

/-
  ref.State, the document's Open and State: contracts, each for every word.
-/
namespace Go.Proofs.Ytgdeiaholkmfeaa.RefP
open Go.RowKit
set_option linter.unusedVariables false

set_option maxHeartbeats 800000 in
theorem dopen_any (x : Int) (w : World) (h2 : 0 ≤ x) (h3 : x ≤ 18446744073709551615) :
    Calls Try.prog 33 #[.int .u64 x] w fun e w' => e = .returned (.tuple #[.int .i64 (openP x), .int .u64 (openG x), .bool (opensB x)]) ∧ w = w' := by
  cases ho : opensB x
  · have hn := opensB_no ho
    have hv : Hid (Ending.returned (.tuple #[.int .i64 (openP x), .int .u64 (openG x), .bool false]) = .returned (.tuple #[.int .i64 0, .int .u64 0, .bool false])) := ret_3 (openP_no ho) (openG_no ho) rfl
    clear ho
    rcases (show x % 16384 < 1 ∨ (¬ x % 16384 < 1 ∧ 8192 < x % 16384) ∨ (¬ x % 16384 < 1 ∧ ¬ 8192 < x % 16384 ∧ x / 16384 < 1) ∨ (¬ x % 16384 < 1 ∧ ¬ 8192 < x % 16384 ∧ ¬ x / 16384 < 1 ∧ 4294967295 < x / 16384) by omega) with h | ⟨h, k⟩ | ⟨h, k, l⟩ | ⟨h, k, l, m⟩
    all_goals
      clear hn
      go_enter Try.func33, Try.ntmps33
      go_wp2
      go_ret3
      exact ⟨hv.out.symm, rfl⟩
  · have hn := opensB_yes ho
    have hv : Hid (Ending.returned (.tuple #[.int .i64 (openP x), .int .u64 (openG x), .bool true]) = .returned (.tuple #[.int .i64 (x % 16384 - 1), .int .u64 (x / 16384), .bool true])) := ret_3 (openP_yes ho) (openG_yes ho) rfl
    clear ho
    obtain ⟨a, b, c, d⟩ := hn
    go_enter Try.func33, Try.ntmps33
    go_wp2
    go_ret3
    exact ⟨hv.out.symm, rfl⟩

end Go.Proofs.Ytgdeiaholkmfeaa.RefP

/-
  ref.Shut, ref.Gated and the document's: contracts, each for every gate and word.
-/
namespace Go.Proofs.Ytgdeiaholkmfeaa.RefP
open Go.RowKit
set_option linter.unusedVariables false

theorem gateB_two (t x : Int) (h0 : 0 ≤ t) (h1 : t ≤ 15) : gateB 2 t x = opensB x := by
  cases ho : opensB x
  · exact gateB_mk_no (by simp [ho])
  · exact gateB_mk ⟨h0, h1, .inr (.inr ⟨rfl, ho⟩)⟩
theorem gateB_zero (t x : Int) (h0 : 0 ≤ t) (h1 : t ≤ 15) : gateB 0 t x = (t == 0 && x == 0) := by
  by_cases a : t = 0 ∧ x = 0
  · obtain ⟨rfl, rfl⟩ := a
    exact gateB_mk (by omega)
  · rw [gateB_mk_no (by omega)]
    by_cases b : t = 0
    · have : ¬ x = 0 := fun e => a ⟨b, e⟩
      simp [this]
    · simp [b]
theorem gateB_one (t x : Int) (h0 : 0 ≤ t) (h1 : t ≤ 15) : gateB 1 t x = (x == 0) := by
  by_cases a : x = 0
  · subst a; exact gateB_mk (by omega)
  · rw [gateB_mk_no (by omega)]; simp [a]
theorem gateB_three (t x : Int) (h0 : 0 ≤ t) (h1 : t ≤ 15) : gateB 3 t x = (x == 0) := by
  by_cases a : x = 0
  · subst a; exact gateB_mk (by omega)
  · rw [gateB_mk_no (by omega)]; simp [a]
end Go.Proofs.Ytgdeiaholkmfeaa.RefP

/-
  carry: a task that is none: contracts.
-/
namespace Go.Proofs.Ytgdeiaholkmfeaa.MemP
open Go.RowKit RefP CellP
set_option linter.unusedVariables false
set_option linter.unusedSimpArgs false
/-- an access without a block and an operation -/
abbrev accY (k i ver word : Int) : Array Value := #[.int .i64 k, .int .i64 i, .int .u64 ver, .int .u64 word, .int .i64 0, .int .i64 0, .string ⟨#[]⟩, .string ⟨#[]⟩, .bool false, .int .i64 0, .slice none 0 0, .slice none 0 0, .slice none 0 0, .int .i64 0, .int .i64 0, .string ⟨#[]⟩, .int .u64 0, .slice none 0 0, .slice none 0 0, .slice none 0 0, .slice none 0 0, .int .i64 0, .string ⟨#[]⟩, .string ⟨#[]⟩, .int .u64 0, .int .i64 0]
abbrev carA (m : Option Addr) (hp s t x ver at_ : Int) (st : Value) (done : Int) (tu en : Bool) : Array Value := #[.pointer m, .int .i64 hp, .int .i64 s, .int .i64 t, .int .u64 x, .int .u64 ver, .int .i64 at_, st, .int .u64 done, .bool tu, .bool en]
theorem setCell_self {w : World} {b i : Nat} {cs : Array Value} {T : TypeId} (h : Blk w b cs T) {v : Value} (hv : cs[i]? = some v) : w.setCell ⟨b, i, none⟩ v = w := by
  have e : cs.setIfInBounds i v = cs := by
    apply Array.ext_getElem?
    intro k
    rw [Array.getElem?_setIfInBounds]
    split
    · rename_i hk
      subst hk
      split
      · exact hv.symm
      · rename_i hn
        rw [Array.getElem?_eq_none (by omega)] at hv; cases hv
    · rfl
  have e2 : ∀ f : Obj → Obj, f (.cells cs T (0, 0)) = .cells cs T (0, 0) → w.heap.modify b f = w.heap := by
    intro f hf
    apply Array.ext_getElem?
    intro k
    rw [Array.getElem?_modify]
    split
    · rename_i hk
      subst hk
      rw [h.h]; simp [hf]
    · rfl
  unfold World.setCell
  rw [e2 _ (by simp [e])]
set_option maxHeartbeats 800000 in
theorem haz_nil (t : Int) (w : World) : Calls Try.prog 21 #[.pointer none, .int .i64 t, .int .i64 0] w fun e w' => e = .returned (.int .i64 (-1)) ∧ w = w' := by
  by_cases h3 : t < 0
  · have q3 : decide (t < 0) = true := by simpa using h3
    go_enter Try.func21, Try.ntmps21
    go_wp2_with fail
    go_ret
    exact ⟨rfl, rfl⟩
  · have q3 : decide (t < 0) = false := by simpa using h3
    have q4 : decide (0 ≤ t) = true := by simp; omega
    go_enter Try.func21, Try.ntmps21
    go_wp2_with fail
    refine (threads_nil _).mono ?_
    rintro e w1 ⟨rfl, rfl⟩
    go_wp2_with fail
    go_ret
    exact ⟨rfl, rfl⟩
theorem shut_low {s t x : Int} (h : (shutI s t x == 18446744073709551615) = false) (x0 : 0 ≤ x) : 0 ≤ s ∧ s ≤ 3 := by
  cases hg : gateB s t x
  · rw [shutI_no hg, topW_eq] at h; simp at h
  · have := gateB_bounds hg x0; omega
end Go.Proofs.Ytgdeiaholkmfeaa.MemP

/-
  read: New, none, Next: contracts.
-/
namespace Go.Proofs.Ytgdeiaholkmfeaa.MemP
open Go.RowKit RefP CellP
set_option linter.unusedVariables false
set_option linter.unusedSimpArgs false
theorem quiet_of_x {P : Program} {f : Nat} {args : Array Value} {w0 : World} {n : Nat} {v : Value} (h : Calls P f args (w0.drewN n) fun e w' => e = .returned v ∧ ∃ k, w' = (w0.drewN n).drewN k) : Calls P f args (w0.drewN n) fun e w'' => e = .returned v ∧ ∃ m, w'' = w0.drewN m :=
  h.mono fun e w'' h => by
    obtain ⟨he, k, hk⟩ := h
    exact ⟨he, n + k, by rw [hk, World.drewN_drewN]⟩
set_option maxHeartbeats 1600000 in
theorem at_nilx (r i : Int) (w : World) : Calls Try.prog 35 #[.pointer none, .int .i64 r, .int .i64 i] w fun e w' => e = .returned (.int .i64 (-1)) ∧ ∃ n, w' = w.drewN n := by
  go_enter Try.func35, Try.ntmps35
  go_wp2_with fail
  go_quiet (exact Calls.quiet_of_same ((none_nil _).flip))
  go_wp2_with fail
  go_ret
  exact ⟨rfl, _, rfl⟩
set_option maxHeartbeats 800000 in
theorem node_nilx (i : Int) (w : World) : Calls Try.prog 20 #[.pointer none, .int .i64 i] w fun e w' => e = .returned (.int .i64 (-1)) ∧ ∃ n, w' = w.drewN n := by
  go_enter Try.func20, Try.ntmps20
  go_wp2_with fail
  refine (at_nilx _ i _).mono ?_
  rintro e w1 ⟨rfl, n, rfl⟩
  go_wp2_with fail
  go_ret
  exact ⟨rfl, _, rfl⟩
set_option maxHeartbeats 1600000 in
theorem haz_x {o oc g gb gr A T : Nat} {L : List (Int × Int)} {bs rs : List (List Value)} (t : Int) (w : World) (h : MemAt w o oc g gb gr A T L bs rs) (t0 : 0 ≤ t) (t1 : t < T) :
    Calls Try.prog 21 #[.pointer (some ⟨o, 0, none⟩), .int .i64 t, .int .i64 1] w fun e w' => e = .returned (.int .i64 (hazI A T t 1)) ∧ ∃ n, w' = w.drewN n := by
  have hT := h.t1
  have q3 : decide (t < 0) = false := by simp; omega
  have q4 : decide ((T : Int) ≤ t) = false := by simp; omega
  have hy := Lib.hid (hazI_yes (A := A) (show 0 ≤ (1 : Int) ∧ (1 : Int) < 2 ∧ 0 ≤ t ∧ t < (T : Int) by omega))
  have hw1 : IntKind.i64.wrap (t * 2) = t * 2 := by rw [IntKind.wrap_i64]; omega
  have hw2 : IntKind.i64.wrap (t * 2 + 1) = t * 2 + 1 := by rw [IntKind.wrap_i64]; omega
  go_enter Try.func21, Try.ntmps21
  go_wp2_with fail
  refine (threads_any _ h).mono ?_
  rintro e w1 ⟨rfl, rfl⟩
  go_wp2_with fail
  refine (atx_5 (t * 2 + 1) _ h (by omega) (by omega)).mono ?_
  rw [hy.out]
  rintro e w1 ⟨rfl, n, rfl⟩
  go_wp2_with fail
  go_ret
  exact ⟨rfl, _, rfl⟩
abbrev rdA (m : Option Addr) (th at_ st : Int) (su : Bool) (cell word ver : Int) (n0 n1 n2 n3 n4 n5 n6 n7 : Value) : Array Value := #[.pointer m, .int .i64 th, .int .i64 at_, .int .i64 st, .bool su, .int .i64 cell, .int .u64 word, .int .u64 ver, n0, n1, n2, n3, n4, n5, n6, n7]
set_option maxHeartbeats 800000 in
theorem rdNew_any (p : Option Addr) (th cell : Int) (w : World) : Calls Try.prog 10 #[.pointer p, .int .i64 th, .int .i64 cell] w fun e w' => e = .returned (.pointer (some ⟨w.heap.size, 0, none⟩)) ∧ w' = w.alloc (.cells (rdA p th 0 0 false cell 0 0 (.int .i64 0) (.string ⟨#[]⟩) (.string ⟨#[]⟩) (.bool false) (.int .i64 0) (.slice none 0 0) (.slice none 0 0) (.slice none 0 0)) 70) := by
  go_enter Try.func10, Try.ntmps10
  go_wp2_with fail
  go_ret
  exact ⟨rfl, rfl⟩
/-- a task of reading that is none: nil, or of no memory -/
def NoRd (w : World) (p : Option Addr) : Prop := p = none ∨ ∃ t th cell, p = some ⟨t, 0, none⟩ ∧ Blk w t (rdA none th 0 0 false cell 0 0 (.int .i64 0) (.string ⟨#[]⟩) (.string ⟨#[]⟩) (.bool false) (.int .i64 0) (.slice none 0 0) (.slice none 0 0) (.slice none 0 0)) 70
theorem NoRd.below {w w' : World} {p : Option Addr} (h : NoRd w p) (hb : Below w.heap.size w w') : NoRd w' p := by
  rcases h with h | ⟨t, th, cell, e, B⟩
  · exact .inl h
  · exact .inr ⟨t, th, cell, e, B.below hb⟩
set_option maxHeartbeats 1600000 in
theorem rdnone_none (p : Option Addr) (w : World) (h : NoRd w p) : Calls Try.prog 29 #[.pointer p] w fun e w' => e = .returned (.bool true) ∧ Below w.heap.size w w' := by
  rcases h with rfl | ⟨t, th, cell, rfl, B⟩
  · go_enter Try.func29, Try.ntmps29
    go_wp2_with fail
    go_quiet (fail)
    go_wp2_with fail
    go_ret
    exact ⟨rfl, below_drewN (Below.refl _ _) _⟩
  · have c0 := B.at 0 rfl
    have c5 := B.at 5 rfl
    go_enter Try.func29, Try.ntmps29
    go_wp2_with fail
    go_quiet (exact quiet_of_x (node_nilx _ _))
    go_wp2_with fail
    go_ret
    exact ⟨rfl, below_drewN (Below.refl _ _) _⟩
theorem atI0_pos {A T : Nat} {i : Int} (h0 : 0 ≤ i) (h1 : i < A) : decide (atI A T 0 i < 0) = false := by
  rw [atI_yes h0 (by simp [sizeI]; omega)]
  simp [fromI]; omega
theorem hazI_pos {A T : Nat} {t : Int} (h0 : 0 ≤ t) (h1 : t < T) : decide (hazI A T t 1 < 0) = false := by
  rw [← hazI_yes (A := A) (show 0 ≤ (1 : Int) ∧ (1 : Int) < 2 ∧ 0 ≤ t ∧ t < (T : Int) by omega), atI_yes (by omega) (by simp [sizeI]; omega)]
  simp [fromI]; omega
set_option maxHeartbeats 1600000 in
theorem rdnone_on {o oc g gb gr A T : Nat} {L : List (Int × Int)} {bs rs : List (List Value)} (t : Nat) (th at_ st : Int) (su : Bool) (cell word ver : Int) (n0 n1 n2 n3 n4 n5 n6 n7 : Value) (w : World) (h : MemAt w o oc g gb gr A T L bs rs) (B : Blk w t (rdA (some ⟨o, 0, none⟩) th at_ st su cell word ver n0 n1 n2 n3 n4 n5 n6 n7) 70) (t0 : 0 ≤ th) (t1 : th < T) (l0 : 0 ≤ cell) (l1 : cell < A) : Calls Try.prog 29 #[.pointer (some ⟨t, 0, none⟩)] w fun e w' => e = .returned (.bool false) ∧ ∃ n, w' = w.drewN n := by
  have q1 := atI0_pos (T := T) l0 l1
  have q2 := hazI_pos (A := A) t0 t1
  have hA := h.a1
  have c0 := B.at 0 rfl
  have c1 := B.at 1 rfl
  have c5 := B.at 5 rfl
  go_enter Try.func29, Try.ntmps29
  go_wp2_with fail
  go_quiet (first
    | exact quiet_of_x (node_x cell _ (h.drewN _) (by omega) (by omega))
    | exact quiet_of_x (haz_x th _ (h.drewN _) t0 t1))
  go_wp2_with fail
  go_ret
  exact ⟨rfl, _, rfl⟩
set_option maxRecDepth 100000 in
set_option maxHeartbeats 1600000 in
theorem rdNext_none (p : Option Addr) (w : World) (h : NoRd w p) : Calls Try.prog 11 #[.pointer p] w fun e w' => e = .returned (.tuple #[.agg (accY 0 0 0 0), .bool false]) ∧ Below w.heap.size w w' := by
  have hb0 : Below w.heap.size w (w.alloc (.cells (accY 0 0 0 0) 44)) := by (repeat (first | exact Below.refl _ _ | assumption | refine below_alloc2 ?_ (by first | exact Nat.le_refl _ | omega) _ | refine Below.drew ?_ | refine below_drewN ?_ _ | refine below_push2 ?_ ‹_› (by first | exact Nat.le_refl _ | omega) | refine Below.setCell ?_ (by first | (simp; done) | (simp; omega) | omega) _))
  go_enter Try.func11, Try.ntmps11
  go_wp2_with fail
  refine (rdnone_none _ _ (h.below hb0)).mono ?_
  rintro e w1 ⟨rfl, hb1⟩
  have BR := (Blk.new w (accY 0 0 0 0) 44).below hb1
  have hB := below_push2 hb0 hb1 (Nat.le_refl _)
  go_wp2_with (refine wpList_store_row rfl 44 _ _ rfl w.heap.size _ rfl rfl 44 _ BR.h (by kernel_rfl) (by rfl) (by kernel_rfl) ?_)
  refine bodyPost_ret (v := .tuple #[.agg (accY 0 0 0 0), .bool false]) (results_cell_tmp rfl _ _ w.heap.size 44 (accY 0 0 0 0) (0, 0) _ (.bool false) rfl rfl (Blk.row BR (accY 0 0 0 0)).h Try.underlying44 rfl (by kernel_rfl)) rfl ⟨rfl, below_setRow hB (by omega) _⟩
set_option maxRecDepth 100000 in
set_option maxHeartbeats 3200000 in
theorem rdNext_0 {o oc g gb gr A T : Nat} {L : List (Int × Int)} {bs rs : List (List Value)} (t : Nat) (th : Int) (su : Bool) (cell word ver : Int) (n0 n1 n2 n3 n4 n5 n6 n7 : Value) (w : World) (h : MemAt w o oc g gb gr A T L bs rs) (B : Blk w t (rdA (some ⟨o, 0, none⟩) th 0 0 su cell word ver n0 n1 n2 n3 n4 n5 n6 n7) 70) (t0 : 0 ≤ th) (t1 : th < T) (l0 : 0 ≤ cell) (l1 : cell < A) :
    Calls Try.prog 11 #[.pointer (some ⟨t, 0, none⟩)] w fun e w' => e = .returned (.tuple #[.agg (accY 1 (atI A T 0 cell) 0 0), .bool true]) ∧ Below w.heap.size w w' := by
  have hb0 : Below w.heap.size w (w.alloc (.cells (accY 0 0 0 0) 44)) := by (repeat (first | exact Below.refl _ _ | assumption | refine below_alloc2 ?_ (by first | exact Nat.le_refl _ | omega) _ | refine Below.drew ?_ | refine below_drewN ?_ _ | refine below_push2 ?_ ‹_› (by first | exact Nat.le_refl _ | omega) | refine Below.setCell ?_ (by first | (simp; done) | (simp; omega) | omega) _))
  have hlt := B.lt
  have hA := h.a1
  have h1 := h.below hb0
  have hC1 := B.below hb0
  have BR0 := Blk.new w (accY 0 0 0 0) 44
  have hne' : ¬ t = w.heap.size := by omega
  go_enter Try.func11, Try.ntmps11
  go_wp2_with fail
  generalize w.alloc (.cells (accY 0 0 0 0) 44) = wz at hb0 h1 hC1 BR0 ⊢
  refine (rdnone_on t th 0 0 su cell word ver n0 n1 n2 n3 n4 n5 n6 n7 _ h1 hC1 t0 t1 l0 l1).mono ?_
  rintro e w1 ⟨rfl, nd, rfl⟩
  replace hb0 := below_drewN hb0 nd
  replace h1 := h1.drewN nd
  replace hC1 := hC1.drewN nd
  replace BR0 := BR0.drewN nd
  generalize wz.drewN nd = wy at hb0 h1 hC1 BR0 ⊢
  have c0 := hC1.at 0 rfl
  have c1 := hC1.at 1 rfl
  have c2 := hC1.at 2 rfl
  have c3 := hC1.at 3 rfl
  have c5 := hC1.at 5 rfl
  have c6 := hC1.at 6 rfl
  have hM := h1.below (Below.refl _ _).drew
  go_upto_region 8 with (fail)
  refine wp_region_held_drew (S := fun w' => w'.cell? ⟨t, 0, none⟩ = some (.pointer (some ⟨o, 0, none⟩)) ∧ w'.cell? ⟨t, 5, none⟩ = some (.int .i64 cell)) (by kernel_rfl) ?_ (fun hHeld => ?_)
  · exact ⟨c0, c5⟩
  refine wpAnyH_take (i := 0) (oi := ⟨_, _, _, _, _, _⟩) (v := ?_) rfl (by kernel_rfl) (by kernel_rfl) (by kernel_rfl) (fun _ _ _ h => h) (Or.inl ⟨by rfl, ?_⟩) (by assumption) ?_
  rotate_left
  · intro wS hSw
    try dsimp only at hSw
    go_simp
    try with_reducible rfl
  try simp only [Act.put, List.setIfInBounds_toArray, List.set_cons_zero, List.set_cons_succ]
  refine wpAnyH_take (i := 1) (oi := ⟨_, _, _, _, _, _⟩) (v := ?_) rfl (by kernel_rfl) (by kernel_rfl) (by kernel_rfl) (fun _ _ _ h => h) (Or.inl ⟨by rfl, ?_⟩) (by assumption) ?_
  rotate_left
  · intro wS hSw
    try dsimp only at hSw
    go_simp
    try with_reducible rfl
  try simp only [Act.put, List.setIfInBounds_toArray, List.set_cons_zero, List.set_cons_succ]
  refine wpAnyH_take (i := 2) (oi := ⟨_, _, _, _, _, _⟩) (v := ?_) rfl (by kernel_rfl) (by kernel_rfl) (by kernel_rfl) (fun _ _ _ h => h) (Or.inl ⟨by rfl, ?_⟩) (by assumption) ?_
  rotate_left
  · intro wS hSw
    try dsimp only at hSw
    go_simp
    try with_reducible rfl
  try simp only [Act.put, List.setIfInBounds_toArray, List.set_cons_zero, List.set_cons_succ]
  refine wpAnyH_take (i := 3) (oi := ⟨_, _, _, _, _, _⟩) (v := ?_) rfl (by kernel_rfl) (by kernel_rfl) (by kernel_rfl) (fun _ _ _ h => h) (Or.inl ⟨by rfl, ?_⟩) (by assumption) ?_
  rotate_left
  · intro wS hSw
    try dsimp only at hSw
    go_simp
    try with_reducible rfl
  try simp only [Act.put, List.setIfInBounds_toArray, List.set_cons_zero, List.set_cons_succ]
  refine wpAnyH_take (i := 4) (oi := ⟨_, _, _, _, _, _⟩) (v := ?_) rfl (by kernel_rfl) (by kernel_rfl) (by kernel_rfl) (fun _ _ _ h => h) (Or.inl ⟨by rfl, ?_⟩) (by assumption) ?_
  rotate_left
  · intro wS hSw
    try dsimp only at hSw
    go_simp
    try with_reducible rfl
  try simp only [Act.put, List.setIfInBounds_toArray, List.set_cons_zero, List.set_cons_succ]
  refine wpAnyH_take (i := 5) (oi := ⟨_, _, _, _, _, _⟩) (v := ?_) rfl (by kernel_rfl) (by kernel_rfl) (by kernel_rfl) (fun _ _ _ h => h) (Or.inl ⟨by rfl, ?_⟩) (by assumption) ?_
  rotate_left
  · intro wS hSw
    try dsimp only at hSw
    go_simp
    try with_reducible rfl
  try simp only [Act.put, List.setIfInBounds_toArray, List.set_cons_zero, List.set_cons_succ]
  refine wpAnyH_take (i := 6) (oi := ⟨_, _, _, _, _, _⟩) (v := ?_) rfl (by kernel_rfl) (by kernel_rfl) (by kernel_rfl) (fun _ _ _ h => h) (Or.inl ⟨by rfl, ?_⟩) (by assumption) ?_
  rotate_left
  · intro wS hSw
    try dsimp only at hSw
    go_simp
    try with_reducible rfl
  try simp only [Act.put, List.setIfInBounds_toArray, List.set_cons_zero, List.set_cons_succ]
  refine wpAnyH_take (i := 7) (oi := ⟨_, _, _, _, _, _⟩) (v := ?_) rfl (by kernel_rfl) (by kernel_rfl) (by kernel_rfl) (fun _ _ _ h => h) (Or.inl ⟨by rfl, ?_⟩) (by assumption) ?_
  rotate_left
  · intro wS hSw
    try dsimp only at hSw
    go_simp
    try with_reducible rfl
  try simp only [Act.put, List.setIfInBounds_toArray, List.set_cons_zero, List.set_cons_succ]
  refine wpAnyH_take (i := 8) (oi := ⟨_, _, _, _, _, _⟩) (v := ?_) rfl (by kernel_rfl) (by kernel_rfl) (by kernel_rfl) (fun _ _ _ h => h) (Or.inl ⟨by rfl, ?_⟩) (by assumption) ?_
  rotate_left
  · intro wS hSw
    try dsimp only at hSw
    go_simp
    try with_reducible rfl
  try simp only [Act.put, List.setIfInBounds_toArray, List.set_cons_zero, List.set_cons_succ]
  refine wpAnyH_ready (rs := [9]) (by kernel_rfl) (by simp) ?_
  refine AllReadyH.cons rfl (fun K hK => ?_) AllReadyH.nil
  go_simp
  refine (node_any cell _ hM (by omega) (by omega)).mono ?_
  rintro e w2 ⟨rfl, hb2⟩
  have hB2 := below_push2 hb0.drew hb2 (Nat.le_refl _)
  have B2 := (hC1.drew).below hb2
  have BR := (BR0.drew).below hb2
  refine hK.out _ _ ⟨B2.at 0 rfl, B2.at 5 rfl⟩ (fun hHeld => ?_)
  clear hK K hb2
  refine wpAnyH_take (i := 10) (oi := ⟨_, _, _, _, _, _⟩) (v := ?_) rfl (by kernel_rfl) (by kernel_rfl) (by kernel_rfl) (fun _ _ _ h => h) (Or.inl ⟨by rfl, ?_⟩) (by assumption) ?_
  rotate_left
  · intro wS hSw
    try dsimp only at hSw
    go_simp
    try with_reducible rfl
  try simp only [Act.put, List.setIfInBounds_toArray, List.set_cons_zero, List.set_cons_succ]
  have B3 := (Fr.row (S := [w.heap.size]) (w := w2) w.heap.size (accY 1 (atI A T 0 cell) 0 0) (by simp)).blk B2 (by simpa using hne')
  refine wpAnyH_ready (rs := [11]) (by kernel_rfl) (by simp) ?_
  refine AllReadyH.cons rfl (fun K hK => ?_) AllReadyH.nil
  rw [if_pos (by rfl)]
  refine wp_store_row 44 _ _ rfl w.heap.size _ rfl rfl 44 _ BR.h (by kernel_rfl) (by rfl) (by kernel_rfl) ?_
  refine hK.out _ _ ?_ (fun hHeld => ?_)
  · exact ⟨B3.at 0 rfl, B3.at 5 rfl⟩
  clear hK K
  refine wpAnyH_take (i := 12) (oi := ⟨_, _, _, _, _, _⟩) (v := ?_) rfl (by kernel_rfl) (by kernel_rfl) (by kernel_rfl) (fun _ _ _ h => h) (Or.inl ⟨by rfl, ?_⟩) (by assumption) ?_
  rotate_left
  · intro wS hSw
    try dsimp only at hSw
    go_simp
    try with_reducible rfl
  try simp only [Act.put, List.setIfInBounds_toArray, List.set_cons_zero, List.set_cons_succ]
  refine wpAnyH_done (by kernel_rfl) ?_ _
  go_wp2_with fail
  refine bodyPost_ret (v := .tuple #[.agg (accY 1 (atI A T 0 cell) 0 0), .bool true]) (results_cell_tmp rfl _ _ w.heap.size 44 (accY 1 (atI A T 0 cell) 0 0) (0, 0) _ (.bool true) rfl rfl (Blk.row BR (accY 1 (atI A T 0 cell) 0 0)).h Try.underlying44 rfl (by kernel_rfl)) rfl ⟨rfl, below_setRow hB2 (by omega) _⟩
set_option maxRecDepth 100000 in
set_option maxHeartbeats 3200000 in
theorem rdNext_2 {o oc g gb gr A T : Nat} {L : List (Int × Int)} {bs rs : List (List Value)} (t : Nat) (th : Int) (su : Bool) (cell word ver : Int) (n0 n1 n2 n3 n4 n5 n6 n7 : Value) (w : World) (h : MemAt w o oc g gb gr A T L bs rs) (B : Blk w t (rdA (some ⟨o, 0, none⟩) th 2 0 su cell word ver n0 n1 n2 n3 n4 n5 n6 n7) 70) (t0 : 0 ≤ th) (t1 : th < T) (l0 : 0 ≤ cell) (l1 : cell < A) :
    Calls Try.prog 11 #[.pointer (some ⟨t, 0, none⟩)] w fun e w' => e = .returned (.tuple #[.agg (accY 1 (atI A T 0 cell) 0 0), .bool true]) ∧ Below w.heap.size w w' := by
  have hb0 : Below w.heap.size w (w.alloc (.cells (accY 0 0 0 0) 44)) := by (repeat (first | exact Below.refl _ _ | assumption | refine below_alloc2 ?_ (by first | exact Nat.le_refl _ | omega) _ | refine Below.drew ?_ | refine below_drewN ?_ _ | refine below_push2 ?_ ‹_› (by first | exact Nat.le_refl _ | omega) | refine Below.setCell ?_ (by first | (simp; done) | (simp; omega) | omega) _))
  have hlt := B.lt
  have hA := h.a1
  have h1 := h.below hb0
  have hC1 := B.below hb0
  have BR0 := Blk.new w (accY 0 0 0 0) 44
  have hne' : ¬ t = w.heap.size := by omega
  go_enter Try.func11, Try.ntmps11
  go_wp2_with fail
  generalize w.alloc (.cells (accY 0 0 0 0) 44) = wz at hb0 h1 hC1 BR0 ⊢
  refine (rdnone_on t th 2 0 su cell word ver n0 n1 n2 n3 n4 n5 n6 n7 _ h1 hC1 t0 t1 l0 l1).mono ?_
  rintro e w1 ⟨rfl, nd, rfl⟩
  replace hb0 := below_drewN hb0 nd
  replace h1 := h1.drewN nd
  replace hC1 := hC1.drewN nd
  replace BR0 := BR0.drewN nd
  generalize wz.drewN nd = wy at hb0 h1 hC1 BR0 ⊢
  have c0 := hC1.at 0 rfl
  have c1 := hC1.at 1 rfl
  have c2 := hC1.at 2 rfl
  have c3 := hC1.at 3 rfl
  have c5 := hC1.at 5 rfl
  have c6 := hC1.at 6 rfl
  have hM := h1.below (Below.refl _ _).drew
  go_upto_region 8 with (fail)
  refine wp_region_held_drew (S := fun w' => w'.cell? ⟨t, 0, none⟩ = some (.pointer (some ⟨o, 0, none⟩)) ∧ w'.cell? ⟨t, 5, none⟩ = some (.int .i64 cell)) (by kernel_rfl) ?_ (fun hHeld => ?_)
  · exact ⟨c0, c5⟩
  refine wpAnyH_take (i := 0) (oi := ⟨_, _, _, _, _, _⟩) (v := ?_) rfl (by kernel_rfl) (by kernel_rfl) (by kernel_rfl) (fun _ _ _ h => h) (Or.inl ⟨by rfl, ?_⟩) (by assumption) ?_
  rotate_left
  · intro wS hSw
    try dsimp only at hSw
    go_simp
    try with_reducible rfl
  try simp only [Act.put, List.setIfInBounds_toArray, List.set_cons_zero, List.set_cons_succ]
  refine wpAnyH_take (i := 1) (oi := ⟨_, _, _, _, _, _⟩) (v := ?_) rfl (by kernel_rfl) (by kernel_rfl) (by kernel_rfl) (fun _ _ _ h => h) (Or.inl ⟨by rfl, ?_⟩) (by assumption) ?_
  rotate_left
  · intro wS hSw
    try dsimp only at hSw
    go_simp
    try with_reducible rfl
  try simp only [Act.put, List.setIfInBounds_toArray, List.set_cons_zero, List.set_cons_succ]
  refine wpAnyH_take (i := 2) (oi := ⟨_, _, _, _, _, _⟩) (v := ?_) rfl (by kernel_rfl) (by kernel_rfl) (by kernel_rfl) (fun _ _ _ h => h) (Or.inl ⟨by rfl, ?_⟩) (by assumption) ?_
  rotate_left
  · intro wS hSw
    try dsimp only at hSw
    go_simp
    try with_reducible rfl
  try simp only [Act.put, List.setIfInBounds_toArray, List.set_cons_zero, List.set_cons_succ]
  refine wpAnyH_take (i := 3) (oi := ⟨_, _, _, _, _, _⟩) (v := ?_) rfl (by kernel_rfl) (by kernel_rfl) (by kernel_rfl) (fun _ _ _ h => h) (Or.inl ⟨by rfl, ?_⟩) (by assumption) ?_
  rotate_left
  · intro wS hSw
    try dsimp only at hSw
    go_simp
    try with_reducible rfl
  try simp only [Act.put, List.setIfInBounds_toArray, List.set_cons_zero, List.set_cons_succ]
  refine wpAnyH_take (i := 4) (oi := ⟨_, _, _, _, _, _⟩) (v := ?_) rfl (by kernel_rfl) (by kernel_rfl) (by kernel_rfl) (fun _ _ _ h => h) (Or.inl ⟨by rfl, ?_⟩) (by assumption) ?_
  rotate_left
  · intro wS hSw
    try dsimp only at hSw
    go_simp
    try with_reducible rfl
  try simp only [Act.put, List.setIfInBounds_toArray, List.set_cons_zero, List.set_cons_succ]
  refine wpAnyH_take (i := 5) (oi := ⟨_, _, _, _, _, _⟩) (v := ?_) rfl (by kernel_rfl) (by kernel_rfl) (by kernel_rfl) (fun _ _ _ h => h) (Or.inl ⟨by rfl, ?_⟩) (by assumption) ?_
  rotate_left
  · intro wS hSw
    try dsimp only at hSw
    go_simp
    try with_reducible rfl
  try simp only [Act.put, List.setIfInBounds_toArray, List.set_cons_zero, List.set_cons_succ]
  refine wpAnyH_take (i := 6) (oi := ⟨_, _, _, _, _, _⟩) (v := ?_) rfl (by kernel_rfl) (by kernel_rfl) (by kernel_rfl) (fun _ _ _ h => h) (Or.inl ⟨by rfl, ?_⟩) (by assumption) ?_
  rotate_left
  · intro wS hSw
    try dsimp only at hSw
    go_simp
    try with_reducible rfl
  try simp only [Act.put, List.setIfInBounds_toArray, List.set_cons_zero, List.set_cons_succ]
  refine wpAnyH_take (i := 7) (oi := ⟨_, _, _, _, _, _⟩) (v := ?_) rfl (by kernel_rfl) (by kernel_rfl) (by kernel_rfl) (fun _ _ _ h => h) (Or.inl ⟨by rfl, ?_⟩) (by assumption) ?_
  rotate_left
  · intro wS hSw
    try dsimp only at hSw
    go_simp
    try with_reducible rfl
  try simp only [Act.put, List.setIfInBounds_toArray, List.set_cons_zero, List.set_cons_succ]
  refine wpAnyH_take (i := 8) (oi := ⟨_, _, _, _, _, _⟩) (v := ?_) rfl (by kernel_rfl) (by kernel_rfl) (by kernel_rfl) (fun _ _ _ h => h) (Or.inl ⟨by rfl, ?_⟩) (by assumption) ?_
  rotate_left
  · intro wS hSw
    try dsimp only at hSw
    go_simp
    try with_reducible rfl
  try simp only [Act.put, List.setIfInBounds_toArray, List.set_cons_zero, List.set_cons_succ]
  refine wpAnyH_ready (rs := [9]) (by kernel_rfl) (by simp) ?_
  refine AllReadyH.cons rfl (fun K hK => ?_) AllReadyH.nil
  go_simp
  refine (node_any cell _ hM (by omega) (by omega)).mono ?_
  rintro e w2 ⟨rfl, hb2⟩
  have hB2 := below_push2 hb0.drew hb2 (Nat.le_refl _)
  have B2 := (hC1.drew).below hb2
  have BR := (BR0.drew).below hb2
  refine hK.out _ _ ⟨B2.at 0 rfl, B2.at 5 rfl⟩ (fun hHeld => ?_)
  clear hK K hb2
  refine wpAnyH_take (i := 10) (oi := ⟨_, _, _, _, _, _⟩) (v := ?_) rfl (by kernel_rfl) (by kernel_rfl) (by kernel_rfl) (fun _ _ _ h => h) (Or.inl ⟨by rfl, ?_⟩) (by assumption) ?_
  rotate_left
  · intro wS hSw
    try dsimp only at hSw
    go_simp
    try with_reducible rfl
  try simp only [Act.put, List.setIfInBounds_toArray, List.set_cons_zero, List.set_cons_succ]
  have B3 := (Fr.row (S := [w.heap.size]) (w := w2) w.heap.size (accY 1 (atI A T 0 cell) 0 0) (by simp)).blk B2 (by simpa using hne')
  refine wpAnyH_ready (rs := [11]) (by kernel_rfl) (by simp) ?_
  refine AllReadyH.cons rfl (fun K hK => ?_) AllReadyH.nil
  rw [if_pos (by rfl)]
  refine wp_store_row 44 _ _ rfl w.heap.size _ rfl rfl 44 _ BR.h (by kernel_rfl) (by rfl) (by kernel_rfl) ?_
  refine hK.out _ _ ?_ (fun hHeld => ?_)
  · exact ⟨B3.at 0 rfl, B3.at 5 rfl⟩
  clear hK K
  refine wpAnyH_take (i := 12) (oi := ⟨_, _, _, _, _, _⟩) (v := ?_) rfl (by kernel_rfl) (by kernel_rfl) (by kernel_rfl) (fun _ _ _ h => h) (Or.inl ⟨by rfl, ?_⟩) (by assumption) ?_
  rotate_left
  · intro wS hSw
    try dsimp only at hSw
    go_simp
    try with_reducible rfl
  try simp only [Act.put, List.setIfInBounds_toArray, List.set_cons_zero, List.set_cons_succ]
  refine wpAnyH_done (by kernel_rfl) ?_ _
  go_wp2_with fail
  refine bodyPost_ret (v := .tuple #[.agg (accY 1 (atI A T 0 cell) 0 0), .bool true]) (results_cell_tmp rfl _ _ w.heap.size 44 (accY 1 (atI A T 0 cell) 0 0) (0, 0) _ (.bool true) rfl rfl (Blk.row BR (accY 1 (atI A T 0 cell) 0 0)).h Try.underlying44 rfl (by kernel_rfl)) rfl ⟨rfl, below_setRow hB2 (by omega) _⟩
set_option maxRecDepth 100000 in
set_option maxHeartbeats 3200000 in
theorem rdNext_1 {o oc g gb gr A T : Nat} {L : List (Int × Int)} {bs rs : List (List Value)} (t : Nat) (th : Int) (su : Bool) (cell word ver : Int) (n0 n1 n2 n3 n4 n5 n6 n7 : Value) (w : World) (h : MemAt w o oc g gb gr A T L bs rs) (B : Blk w t (rdA (some ⟨o, 0, none⟩) th 1 0 su cell word ver n0 n1 n2 n3 n4 n5 n6 n7) 70) (t0 : 0 ≤ th) (t1 : th < T) (l0 : 0 ≤ cell) (l1 : cell < A) :
    Calls Try.prog 11 #[.pointer (some ⟨t, 0, none⟩)] w fun e w' => e = .returned (.tuple #[.agg (accY 2 (hazI A T th 1) 0 word), .bool true]) ∧ Below w.heap.size w w' := by
  have hb0 : Below w.heap.size w (w.alloc (.cells (accY 0 0 0 0) 44)) := by (repeat (first | exact Below.refl _ _ | assumption | refine below_alloc2 ?_ (by first | exact Nat.le_refl _ | omega) _ | refine Below.drew ?_ | refine below_drewN ?_ _ | refine below_push2 ?_ ‹_› (by first | exact Nat.le_refl _ | omega) | refine Below.setCell ?_ (by first | (simp; done) | (simp; omega) | omega) _))
  have hlt := B.lt
  have hA := h.a1
  have h1 := h.below hb0
  have hC1 := B.below hb0
  have BR0 := Blk.new w (accY 0 0 0 0) 44
  have hne' : ¬ t = w.heap.size := by omega
  go_enter Try.func11, Try.ntmps11
  go_wp2_with fail
  generalize w.alloc (.cells (accY 0 0 0 0) 44) = wz at hb0 h1 hC1 BR0 ⊢
  refine (rdnone_on t th 1 0 su cell word ver n0 n1 n2 n3 n4 n5 n6 n7 _ h1 hC1 t0 t1 l0 l1).mono ?_
  rintro e w1 ⟨rfl, nd, rfl⟩
  replace hb0 := below_drewN hb0 nd
  replace h1 := h1.drewN nd
  replace hC1 := hC1.drewN nd
  replace BR0 := BR0.drewN nd
  generalize wz.drewN nd = wy at hb0 h1 hC1 BR0 ⊢
  have c0 := hC1.at 0 rfl
  have c1 := hC1.at 1 rfl
  have c2 := hC1.at 2 rfl
  have c3 := hC1.at 3 rfl
  have c5 := hC1.at 5 rfl
  have c6 := hC1.at 6 rfl
  have hM := h1.below (Below.refl _ _).drew
  go_upto_region 5 with (fail)
  refine wp_region_held_drew (S := fun w' => w'.cell? ⟨t, 0, none⟩ = some (.pointer (some ⟨o, 0, none⟩)) ∧ w'.cell? ⟨t, 1, none⟩ = some (.int .i64 th) ∧ w'.cell? ⟨t, 6, none⟩ = some (.int .u64 word)) (by kernel_rfl) ?_ (fun hHeld => ?_)
  · exact ⟨c0, c1, c6⟩
  refine wpAnyH_take (i := 0) (oi := ⟨_, _, _, _, _, _⟩) (v := ?_) rfl (by kernel_rfl) (by kernel_rfl) (by kernel_rfl) (fun _ _ _ h => h) (Or.inl ⟨by rfl, ?_⟩) (by assumption) ?_
  rotate_left
  · intro wS hSw
    try dsimp only at hSw
    go_simp
    try with_reducible rfl
  try simp only [Act.put, List.setIfInBounds_toArray, List.set_cons_zero, List.set_cons_succ]
  refine wpAnyH_take (i := 1) (oi := ⟨_, _, _, _, _, _⟩) (v := ?_) rfl (by kernel_rfl) (by kernel_rfl) (by kernel_rfl) (fun _ _ _ h => h) (Or.inl ⟨by rfl, ?_⟩) (by assumption) ?_
  rotate_left
  · intro wS hSw
    try dsimp only at hSw
    go_simp
    try with_reducible rfl
  try simp only [Act.put, List.setIfInBounds_toArray, List.set_cons_zero, List.set_cons_succ]
  refine wpAnyH_take (i := 2) (oi := ⟨_, _, _, _, _, _⟩) (v := ?_) rfl (by kernel_rfl) (by kernel_rfl) (by kernel_rfl) (fun _ _ _ h => h) (Or.inl ⟨by rfl, ?_⟩) (by assumption) ?_
  rotate_left
  · intro wS hSw
    try dsimp only at hSw
    go_simp
    try with_reducible rfl
  try simp only [Act.put, List.setIfInBounds_toArray, List.set_cons_zero, List.set_cons_succ]
  refine wpAnyH_take (i := 3) (oi := ⟨_, _, _, _, _, _⟩) (v := ?_) rfl (by kernel_rfl) (by kernel_rfl) (by kernel_rfl) (fun _ _ _ h => h) (Or.inl ⟨by rfl, ?_⟩) (by assumption) ?_
  rotate_left
  · intro wS hSw
    try dsimp only at hSw
    go_simp
    try with_reducible rfl
  try simp only [Act.put, List.setIfInBounds_toArray, List.set_cons_zero, List.set_cons_succ]
  refine wpAnyH_take (i := 4) (oi := ⟨_, _, _, _, _, _⟩) (v := ?_) rfl (by kernel_rfl) (by kernel_rfl) (by kernel_rfl) (fun _ _ _ h => h) (Or.inl ⟨by rfl, ?_⟩) (by assumption) ?_
  rotate_left
  · intro wS hSw
    try dsimp only at hSw
    go_simp
    try with_reducible rfl
  try simp only [Act.put, List.setIfInBounds_toArray, List.set_cons_zero, List.set_cons_succ]
  refine wpAnyH_take (i := 5) (oi := ⟨_, _, _, _, _, _⟩) (v := ?_) rfl (by kernel_rfl) (by kernel_rfl) (by kernel_rfl) (fun _ _ _ h => h) (Or.inl ⟨by rfl, ?_⟩) (by assumption) ?_
  rotate_left
  · intro wS hSw
    try dsimp only at hSw
    go_simp
    try with_reducible rfl
  try simp only [Act.put, List.setIfInBounds_toArray, List.set_cons_zero, List.set_cons_succ]
  refine wpAnyH_take (i := 6) (oi := ⟨_, _, _, _, _, _⟩) (v := ?_) rfl (by kernel_rfl) (by kernel_rfl) (by kernel_rfl) (fun _ _ _ h => h) (Or.inl ⟨by rfl, ?_⟩) (by assumption) ?_
  rotate_left
  · intro wS hSw
    try dsimp only at hSw
    go_simp
    try with_reducible rfl
  try simp only [Act.put, List.setIfInBounds_toArray, List.set_cons_zero, List.set_cons_succ]
  refine wpAnyH_take (i := 7) (oi := ⟨_, _, _, _, _, _⟩) (v := ?_) rfl (by kernel_rfl) (by kernel_rfl) (by kernel_rfl) (fun _ _ _ h => h) (Or.inl ⟨by rfl, ?_⟩) (by assumption) ?_
  rotate_left
  · intro wS hSw
    try dsimp only at hSw
    go_simp
    try with_reducible rfl
  try simp only [Act.put, List.setIfInBounds_toArray, List.set_cons_zero, List.set_cons_succ]
  refine wpAnyH_take (i := 9) (oi := ⟨_, _, _, _, _, _⟩) (v := ?_) rfl (by kernel_rfl) (by kernel_rfl) (by kernel_rfl) (fun _ _ _ h => h) (Or.inl ⟨by rfl, ?_⟩) (by assumption) ?_
  rotate_left
  · intro wS hSw
    try dsimp only at hSw
    go_simp
    try with_reducible rfl
  try simp only [Act.put, List.setIfInBounds_toArray, List.set_cons_zero, List.set_cons_succ]
  refine wpAnyH_take (i := 10) (oi := ⟨_, _, _, _, _, _⟩) (v := ?_) rfl (by kernel_rfl) (by kernel_rfl) (by kernel_rfl) (fun _ _ _ h => h) (Or.inl ⟨by rfl, ?_⟩) (by assumption) ?_
  rotate_left
  · intro wS hSw
    try dsimp only at hSw
    go_simp
    try with_reducible rfl
  try simp only [Act.put, List.setIfInBounds_toArray, List.set_cons_zero, List.set_cons_succ]
  refine wpAnyH_take (i := 11) (oi := ⟨_, _, _, _, _, _⟩) (v := ?_) rfl (by kernel_rfl) (by kernel_rfl) (by kernel_rfl) (fun _ _ _ h => h) (Or.inl ⟨by rfl, ?_⟩) (by assumption) ?_
  rotate_left
  · intro wS hSw
    try dsimp only at hSw
    go_simp
    try with_reducible rfl
  try simp only [Act.put, List.setIfInBounds_toArray, List.set_cons_zero, List.set_cons_succ]
  refine wpAnyH_take (i := 12) (oi := ⟨_, _, _, _, _, _⟩) (v := ?_) rfl (by kernel_rfl) (by kernel_rfl) (by kernel_rfl) (fun _ _ _ h => h) (Or.inl ⟨by rfl, ?_⟩) (by assumption) ?_
  rotate_left
  · intro wS hSw
    try dsimp only at hSw
    go_simp
    try with_reducible rfl
  try simp only [Act.put, List.setIfInBounds_toArray, List.set_cons_zero, List.set_cons_succ]
  refine wpAnyH_take (i := 13) (oi := ⟨_, _, _, _, _, _⟩) (v := ?_) rfl (by kernel_rfl) (by kernel_rfl) (by kernel_rfl) (fun _ _ _ h => h) (Or.inl ⟨by rfl, ?_⟩) (by assumption) ?_
  rotate_left
  · intro wS hSw
    try dsimp only at hSw
    go_simp
    try with_reducible rfl
  try simp only [Act.put, List.setIfInBounds_toArray, List.set_cons_zero, List.set_cons_succ]
  refine wpAnyH_ready (rs := [8]) (by kernel_rfl) (by simp) ?_
  refine AllReadyH.cons rfl (fun K hK => ?_) AllReadyH.nil
  go_simp
  refine (haz_any th 1 _ hM).mono ?_
  rintro e w2 ⟨rfl, hb2⟩
  have hB2 := below_push2 hb0.drew hb2 (Nat.le_refl _)
  have B2 := (hC1.drew).below hb2
  have BR := (BR0.drew).below hb2
  refine hK.out _ _ ⟨B2.at 0 rfl, B2.at 1 rfl, B2.at 6 rfl⟩ (fun hHeld => ?_)
  clear hK K hb2
  refine wpAnyH_take (i := 14) (oi := ⟨_, _, _, _, _, _⟩) (v := ?_) rfl (by kernel_rfl) (by kernel_rfl) (by kernel_rfl) (fun _ _ _ h => h) (Or.inl ⟨by rfl, ?_⟩) (by assumption) ?_
  rotate_left
  · intro wS hSw
    try dsimp only at hSw
    go_simp
    try with_reducible rfl
  try simp only [Act.put, List.setIfInBounds_toArray, List.set_cons_zero, List.set_cons_succ]
  have B3 := (Fr.row (S := [w.heap.size]) (w := w2) w.heap.size (accY 2 (hazI A T th 1) 0 word) (by simp)).blk B2 (by simpa using hne')
  refine wpAnyH_ready (rs := [15]) (by kernel_rfl) (by simp) ?_
  refine AllReadyH.cons rfl (fun K hK => ?_) AllReadyH.nil
  rw [if_pos (by rfl)]
  refine wp_store_row 44 _ _ rfl w.heap.size _ rfl rfl 44 _ BR.h (by kernel_rfl) (by rfl) (by kernel_rfl) ?_
  refine hK.out _ _ ?_ (fun hHeld => ?_)
  · exact ⟨B3.at 0 rfl, B3.at 1 rfl, B3.at 6 rfl⟩
  clear hK K
  refine wpAnyH_take (i := 16) (oi := ⟨_, _, _, _, _, _⟩) (v := ?_) rfl (by kernel_rfl) (by kernel_rfl) (by kernel_rfl) (fun _ _ _ h => h) (Or.inl ⟨by rfl, ?_⟩) (by assumption) ?_
  rotate_left
  · intro wS hSw
    try dsimp only at hSw
    go_simp
    try with_reducible rfl
  try simp only [Act.put, List.setIfInBounds_toArray, List.set_cons_zero, List.set_cons_succ]
  refine wpAnyH_done (by kernel_rfl) ?_ _
  go_wp2_with fail
  refine bodyPost_ret (v := .tuple #[.agg (accY 2 (hazI A T th 1) 0 word), .bool true]) (results_cell_tmp rfl _ _ w.heap.size 44 (accY 2 (hazI A T th 1) 0 word) (0, 0) _ (.bool true) rfl rfl (Blk.row BR (accY 2 (hazI A T th 1) 0 word)).h Try.underlying44 rfl (by kernel_rfl)) rfl ⟨rfl, below_setRow hB2 (by omega) _⟩
set_option maxRecDepth 100000 in
set_option maxHeartbeats 3200000 in
theorem rdNext_3 {o oc g gb gr A T : Nat} {L : List (Int × Int)} {bs rs : List (List Value)} (t : Nat) (th : Int) (su : Bool) (cell word ver : Int) (n0 n1 n2 n3 n4 n5 n6 n7 : Value) (w : World) (h : MemAt w o oc g gb gr A T L bs rs) (B : Blk w t (rdA (some ⟨o, 0, none⟩) th 3 0 su cell word ver n0 n1 n2 n3 n4 n5 n6 n7) 70) (t0 : 0 ≤ th) (t1 : th < T) (l0 : 0 ≤ cell) (l1 : cell < A) :
    Calls Try.prog 11 #[.pointer (some ⟨t, 0, none⟩)] w fun e w' => e = .returned (.tuple #[.agg (accY 4 0 0 word), .bool true]) ∧ Below w.heap.size w w' := by
  have hb0 : Below w.heap.size w (w.alloc (.cells (accY 0 0 0 0) 44)) := by (repeat (first | exact Below.refl _ _ | assumption | refine below_alloc2 ?_ (by first | exact Nat.le_refl _ | omega) _ | refine Below.drew ?_ | refine below_drewN ?_ _ | refine below_push2 ?_ ‹_› (by first | exact Nat.le_refl _ | omega) | refine Below.setCell ?_ (by first | (simp; done) | (simp; omega) | omega) _))
  have hlt := B.lt
  have hA := h.a1
  have h1 := h.below hb0
  have hC1 := B.below hb0
  have BR0 := Blk.new w (accY 0 0 0 0) 44
  have hne' : ¬ t = w.heap.size := by omega
  go_enter Try.func11, Try.ntmps11
  go_wp2_with fail
  generalize w.alloc (.cells (accY 0 0 0 0) 44) = wz at hb0 h1 hC1 BR0 ⊢
  refine (rdnone_on t th 3 0 su cell word ver n0 n1 n2 n3 n4 n5 n6 n7 _ h1 hC1 t0 t1 l0 l1).mono ?_
  rintro e w1 ⟨rfl, nd, rfl⟩
  replace hb0 := below_drewN hb0 nd
  replace h1 := h1.drewN nd
  replace hC1 := hC1.drewN nd
  replace BR0 := BR0.drewN nd
  generalize wz.drewN nd = wy at hb0 h1 hC1 BR0 ⊢
  have c0 := hC1.at 0 rfl
  have c1 := hC1.at 1 rfl
  have c2 := hC1.at 2 rfl
  have c3 := hC1.at 3 rfl
  have c5 := hC1.at 5 rfl
  have c6 := hC1.at 6 rfl
  have hM := h1.below (Below.refl _ _).drew
  go_wp2_with (refine wpList_store_row rfl 44 _ _ rfl w.heap.size _ rfl rfl 44 _ BR0.h (by kernel_rfl) (by rfl) (by kernel_rfl) ?_)
  refine bodyPost_ret (v := .tuple #[.agg (accY 4 0 0 word), .bool true]) (results_cell_tmp rfl _ _ w.heap.size 44 (accY 4 0 0 word) (0, 0) _ (.bool true) rfl rfl (Blk.row BR0 (accY 4 0 0 word)).h Try.underlying44 rfl (by kernel_rfl)) rfl ⟨rfl, below_setRow hb0 (by omega) _⟩
end Go.Proofs.Ytgdeiaholkmfeaa.MemP

/-
  read: Tell, State, Known, Sure: contracts.
-/
namespace Go.Proofs.Ytgdeiaholkmfeaa.MemP
open Go.RowKit RefP CellP
set_option linter.unusedVariables false
set_option linter.unusedSimpArgs false
set_option maxHeartbeats 800000 in
theorem rdEnd_no (b : Nat) (st : Int) (w : World) : Calls Try.prog 31 #[.int .i64 st, .bool false, .pointer (some ⟨b, 0, none⟩)] w fun e w' => e = .returned (.tuple #[]) ∧ w = w' := by
  go_enter Try.func31, Try.ntmps31
  go_wp2_with fail
  go_end0
  exact ⟨rfl, rfl⟩
set_option maxHeartbeats 800000 in
theorem rdEnd_yes (b t : Nat) (st old : Int) (w : World) (c0 : w.cell? ⟨b, 0, none⟩ = some (.pointer (some ⟨t, 0, none⟩))) (c3 : w.cell? ⟨t, 3, none⟩ = some (.int .i64 old)) (f3 : w.frozen? ⟨t, 3, none⟩ = false) : Calls Try.prog 31 #[.int .i64 st, .bool true, .pointer (some ⟨b, 0, none⟩)] w fun e w' => e = .returned (.tuple #[]) ∧ w' = w.setCell ⟨t, 3, none⟩ (.int .i64 st) := by
  go_enter Try.func31, Try.ntmps31
  go_wp2_with fail
  go_end0
  exact ⟨rfl, rfl⟩
set_option maxHeartbeats 1600000 in
theorem rdState_none (p : Option Addr) (w : World) (h : NoRd w p) : Calls Try.prog 13 #[.pointer p] w fun e w' => e = .returned (.int .i64 3) ∧ Below w.heap.size w w' := by
  go_enter Try.func13, Try.ntmps13
  go_wp2_with fail
  refine (rdnone_none _ _ h).mono ?_
  rintro e w1 ⟨rfl, hb1⟩
  go_wp2_with fail
  go_ret
  exact ⟨rfl, hb1⟩
set_option maxHeartbeats 800000 in
theorem rdSure_nil (w : World) : Calls Try.prog 15 #[.pointer none] w fun e w' => e = .returned (.bool false) ∧ w = w' := by
  go_enter Try.func15, Try.ntmps15
  go_wp2_with fail
  go_ret
  exact ⟨rfl, rfl⟩
set_option maxHeartbeats 800000 in
theorem rdSure_any (t : Nat) (b : Bool) (w : World) (c4 : w.cell? ⟨t, 4, none⟩ = some (.bool b)) : Calls Try.prog 15 #[.pointer (some ⟨t, 0, none⟩)] w fun e w' => e = .returned (.bool b) ∧ w = w' := by
  go_enter Try.func15, Try.ntmps15
  go_wp2_with fail
  go_ret
  exact ⟨rfl, rfl⟩
theorem rdSure_none (p : Option Addr) (w : World) (h : NoRd w p) : Calls Try.prog 15 #[.pointer p] w fun e w' => e = .returned (.bool false) ∧ w = w' := by
  rcases h with rfl | ⟨t, th, cell, rfl, B⟩
  · exact rdSure_nil w
  · exact rdSure_any t false w (B.at 4 rfl)
/-- what is known: a cell, a word, a version, a node -/
abbrev knA (cell word ver : Int) (n0 n1 n2 n3 n4 n5 n6 n7 : Value) : Array Value := #[.int .i64 cell, .int .u64 word, .int .u64 ver, n0, n1, n2, n3, n4, n5, n6, n7]
set_option maxRecDepth 100000 in
set_option maxHeartbeats 1600000 in
theorem rdKnown_none (p : Option Addr) (w : World) (h : NoRd w p) : Calls Try.prog 12 #[.pointer p] w fun e w' => e = .returned (.tuple #[.agg (knA 0 0 0 (.int .i64 0) (.string ⟨#[]⟩) (.string ⟨#[]⟩) (.bool false) (.int .i64 0) (.slice none 0 0) (.slice none 0 0) (.slice none 0 0)), .bool false]) ∧ Below w.heap.size w w' := by
  have hb0 : Below w.heap.size w (w.alloc (.cells (knA 0 0 0 (.int .i64 0) (.string ⟨#[]⟩) (.string ⟨#[]⟩) (.bool false) (.int .i64 0) (.slice none 0 0) (.slice none 0 0) (.slice none 0 0)) 53)) := by (repeat (first | exact Below.refl _ _ | assumption | refine below_alloc2 ?_ (by first | exact Nat.le_refl _ | omega) _ | refine Below.drew ?_ | refine below_drewN ?_ _ | refine below_push2 ?_ ‹_› (by first | exact Nat.le_refl _ | omega) | refine Below.setCell ?_ (by first | (simp; done) | (simp; omega) | omega) _))
  go_enter Try.func12, Try.ntmps12
  go_wp2_with fail
  refine (rdState_none _ _ (h.below hb0)).mono ?_
  rintro e w1 ⟨rfl, hb1⟩
  have BR := (Blk.new w (knA 0 0 0 (.int .i64 0) (.string ⟨#[]⟩) (.string ⟨#[]⟩) (.bool false) (.int .i64 0) (.slice none 0 0) (.slice none 0 0) (.slice none 0 0)) 53).below hb1
  have hB := below_push2 hb0 hb1 (Nat.le_refl _)
  go_wp2_with (refine wpList_store_row rfl 53 _ _ rfl w.heap.size _ rfl rfl 53 _ BR.h (by kernel_rfl) (by rfl) (by kernel_rfl) ?_)
  refine bodyPost_ret (v := .tuple #[.agg (knA 0 0 0 (.int .i64 0) (.string ⟨#[]⟩) (.string ⟨#[]⟩) (.bool false) (.int .i64 0) (.slice none 0 0) (.slice none 0 0) (.slice none 0 0)), .bool false]) (results_cell_tmp rfl _ _ w.heap.size 53 (knA 0 0 0 (.int .i64 0) (.string ⟨#[]⟩) (.string ⟨#[]⟩) (.bool false) (.int .i64 0) (.slice none 0 0) (.slice none 0 0) (.slice none 0 0)) (0, 0) _ (.bool false) rfl rfl (Blk.row BR (knA 0 0 0 (.int .i64 0) (.string ⟨#[]⟩) (.string ⟨#[]⟩) (.bool false) (.int .i64 0) (.slice none 0 0) (.slice none 0 0) (.slice none 0 0))).h Try.underlying53 rfl (by kernel_rfl)) rfl ⟨rfl, below_setRow hB (by omega) _⟩
set_option maxRecDepth 100000 in
set_option maxHeartbeats 1600000 in
theorem rdTell_none (p : Option Addr) (w : World) (h : NoRd w p) : Calls Try.prog 17 #[.pointer p, .agg #[.bool true, .int .u64 0, .int .u64 0, .int .i64 0, .int .i64 0, .string ⟨#[]⟩, .string ⟨#[]⟩, .bool false, .int .i64 0, .slice none 0 0, .slice none 0 0, .slice none 0 0, .int .i64 0, .int .i64 0, .string ⟨#[]⟩, .int .u64 0, .slice none 0 0, .slice none 0 0, .slice none 0 0, .slice none 0 0, .int .i64 0, .string ⟨#[]⟩, .string ⟨#[]⟩, .int .u64 0, .int .i64 0]] w fun e w' => e = .returned (.tuple #[]) ∧ Below w.heap.size w w' := by
  have hb0 : Below w.heap.size w ((w.alloc (.cells #[.pointer p] 48)).alloc (.cells #[.bool true, .int .u64 0, .int .u64 0, .int .i64 0, .int .i64 0, .string ⟨#[]⟩, .string ⟨#[]⟩, .bool false, .int .i64 0, .slice none 0 0, .slice none 0 0, .slice none 0 0, .int .i64 0, .int .i64 0, .string ⟨#[]⟩, .int .u64 0, .slice none 0 0, .slice none 0 0, .slice none 0 0, .slice none 0 0, .int .i64 0, .string ⟨#[]⟩, .string ⟨#[]⟩, .int .u64 0, .int .i64 0] 46)) := by (repeat (first | exact Below.refl _ _ | assumption | refine below_alloc2 ?_ (by first | exact Nat.le_refl _ | omega) _ | refine Below.drew ?_ | refine below_drewN ?_ _ | refine below_push2 ?_ ‹_› (by first | exact Nat.le_refl _ | omega) | refine Below.setCell ?_ (by first | (simp; done) | (simp; omega) | omega) _))
  have NP := h.below hb0
  rcases h with rfl | ⟨t, th, cell, rfl, B⟩
  · go_enter Try.func17, Try.ntmps17
    go_wp2_with fail
    generalize ((w.alloc (.cells #[.pointer none] 48)).alloc (.cells #[.bool true, .int .u64 0, .int .u64 0, .int .i64 0, .int .i64 0, .string ⟨#[]⟩, .string ⟨#[]⟩, .bool false, .int .i64 0, .slice none 0 0, .slice none 0 0, .slice none 0 0, .int .i64 0, .int .i64 0, .string ⟨#[]⟩, .int .u64 0, .slice none 0 0, .slice none 0 0, .slice none 0 0, .slice none 0 0, .int .i64 0, .string ⟨#[]⟩, .string ⟨#[]⟩, .int .u64 0, .int .i64 0] 46)) = w1 at hb0 NP ⊢
    refine (rdNext_none _ _ NP).mono ?_
    rintro e w2 ⟨rfl, hb2⟩
    have hB2 := below_alloc2 (below_push2 hb0 hb2 (Nat.le_refl _)) (Nat.le_refl _) (.cells (accY 0 0 0 0) 44)
    generalize hW : w2.alloc (.cells (accY 0 0 0 0) 44) = w3 at hB2
    replace hW := Lib.hid hW
    go_wp2_with (refine wpList_store_row rfl 44 _ _ rfl _ _ rfl rfl 44 _ (Blk.new w2 _ _).h (by kernel_rfl) (by rfl) (by kernel_rfl) ?_; rw [World.setRow_alloc_new, hW.out])
    refine bodyPost_ret (results_none rfl _ _ _) rfl ?_
    exact ⟨rfl, hB2⟩
  · have B1 := B.below hb0
    have c4 := B1.at 4 rfl
    have f4 := B1.free 4
    have hself := setCell_self (i := 4) (v := .bool false) B1 rfl
    go_enter Try.func17, Try.ntmps17
    go_wp2_with fail
    try rw [hself]
    clear hself c4 f4 B1
    generalize ((w.alloc (.cells #[.pointer (some ⟨t, 0, none⟩)] 48)).alloc (.cells #[.bool true, .int .u64 0, .int .u64 0, .int .i64 0, .int .i64 0, .string ⟨#[]⟩, .string ⟨#[]⟩, .bool false, .int .i64 0, .slice none 0 0, .slice none 0 0, .slice none 0 0, .int .i64 0, .int .i64 0, .string ⟨#[]⟩, .int .u64 0, .slice none 0 0, .slice none 0 0, .slice none 0 0, .slice none 0 0, .int .i64 0, .string ⟨#[]⟩, .string ⟨#[]⟩, .int .u64 0, .int .i64 0] 46)) = w1 at hb0 NP ⊢
    refine (rdNext_none _ _ NP).mono ?_
    rintro e w2 ⟨rfl, hb2⟩
    have hB2 := below_alloc2 (below_push2 hb0 hb2 (Nat.le_refl _)) (Nat.le_refl _) (.cells (accY 0 0 0 0) 44)
    generalize hW : w2.alloc (.cells (accY 0 0 0 0) 44) = w3 at hB2
    replace hW := Lib.hid hW
    go_wp2_with (refine wpList_store_row rfl 44 _ _ rfl _ _ rfl rfl 44 _ (Blk.new w2 _ _).h (by kernel_rfl) (by rfl) (by kernel_rfl) ?_; rw [World.setRow_alloc_new, hW.out])
    refine bodyPost_ret (results_none rfl _ _ _) rfl ?_
    exact ⟨rfl, hB2⟩
end Go.Proofs.Ytgdeiaholkmfeaa.MemP

/-
  Chapter 27 (hazard): what its functions compute, in plain terms.
-/
namespace Go.Proofs.Ytgdeiaholkmfeaa.HazP
open RefP
set_option linter.unusedVariables false
set_option linter.unusedSimpArgs false

def memB (xs : List Int) (x : Int) : Bool := decide (x ∈ xs)
theorem memB_iff {xs : List Int} {x : Int} : memB xs x = true ↔ x ∈ xs := by simp [memB]
/-- x is none of the first k -/
def noneTo (xs : List Int) (x : Int) (k : Nat) : Prop := ∀ i, i < k → at0 xs i ≠ x
theorem noneTo_zero (xs : List Int) (x : Int) : noneTo xs x 0 := fun i h => by omega
theorem noneTo_succ {xs : List Int} {x : Int} {k : Nat} (h : noneTo xs x k) (e : at0 xs k ≠ x) : noneTo xs x (k + 1) := fun i hi => by
  by_cases c : i = k
  · subst c; exact e
  · exact h i (by omega)
theorem memB_none {xs : List Int} {x : Int} (h : noneTo xs x xs.length) : memB xs x = false := by
  simp only [memB, decide_eq_false_iff_not]
  intro hm
  obtain ⟨i, hi, e⟩ := List.getElem_of_mem hm
  exact h i hi (by rw [at0_of xs i hi, e])
theorem memB_at {xs : List Int} {x : Int} {k : Nat} (hk : k < xs.length) (e : at0 xs k = x) : memB xs x = true := by
  rw [memB_iff, ← e]; exact at0_mem xs k hk
/-- those of l that stand in named (keep), or do not -/
def siftL (l named : List Int) (keep : Bool) : List Int := l.filter (fun x => memB named x == keep)
theorem siftL_zero (l named : List Int) (keep : Bool) : siftL (l.take 0) named keep = [] := by simp [siftL]
theorem siftL_yes {l named : List Int} {keep : Bool} {k : Nat} (hk : k < l.length) (h : memB named (at0 l k) = keep) : siftL (l.take (k + 1)) named keep = siftL (l.take k) named keep ++ [at0 l k] := by
  rw [take_succ_at0 l k hk]; unfold siftL; rw [List.filter_append]; simp [h]
theorem siftL_no {l named : List Int} {keep : Bool} {k : Nat} (hk : k < l.length) (h : memB named (at0 l k) = !keep) : siftL (l.take (k + 1)) named keep = siftL (l.take k) named keep := by
  rw [take_succ_at0 l k hk]; unfold siftL; rw [List.filter_append]; simp [h]
theorem siftL_length (l named : List Int) (keep : Bool) : (siftL l named keep).length ≤ l.length := List.length_filter_le _ _
theorem siftL_rng {l named : List Int} {keep : Bool} {p : Int → Prop} (h : ∀ x ∈ l, p x) : ∀ x ∈ siftL l named keep, p x := fun x hx => h x (List.mem_filter.1 hx).1
theorem siftL_both (l named : List Int) : (siftL l named true).length + (siftL l named false).length = l.length := by
  unfold siftL
  induction l with
  | nil => rfl
  | cons x l ih =>
    simp only [List.filter_cons]
    cases hm : memB named x
    · simp only [Bool.false_eq_true, beq_iff_eq, Bool.true_eq_false, if_false, if_true, List.length_cons, reduceCtorEq]; omega
    · simp only [Bool.false_eq_true, beq_iff_eq, Bool.true_eq_false, if_false, if_true, List.length_cons, reduceCtorEq]; omega
def roomI (t r : Int) : Int := if t < 1 ∨ 16 < t ∨ r < 1 ∨ 1024 < r then 0 else t * 2 + r
def freedI (w : Int) : Int := if opensB w = true then (if openG w = 4294967295 then useI 2 (openG w) else useI 0 (openG w)) else 18446744073709551615
/-- the words of a row are another's -/
theorem at0_ext {xs ys : List Int} (hl : xs.length = ys.length) (h : ∀ i, i < xs.length → at0 xs i = at0 ys i) : xs = ys := by
  apply List.ext_getElem hl
  intro i h1 h2
  have := h i h1
  rwa [at0_of xs i h1, at0_of ys i h2] at this
end Go.Proofs.Ytgdeiaholkmfeaa.HazP

/-
  Chapter 27: the pure functions' contracts.
-/
namespace Go.Proofs.Ytgdeiaholkmfeaa.HazP
open Go.RowKit RefP
set_option linter.unusedVariables false
set_option linter.unusedSimpArgs false

end Go.Proofs.Ytgdeiaholkmfeaa.HazP

/-
  Chapter 27: sifting.
-/
namespace Go.Proofs.Ytgdeiaholkmfeaa.HazP
open Go.RowKit RefP
set_option linter.unusedVariables false
set_option linter.unusedSimpArgs false

def SiftAt (w : World) (l nm : List Int) (e : Ending) (w' : World) : Prop :=
  ∃ ya yc na nc, e = .returned (.tuple #[.slice ya (siftL l nm true).length yc, .slice na (siftL l nm false).length nc]) ∧ OwnsU w' w.heap.size ya yc (siftL l nm true) ∧ OwnsU w' w.heap.size na nc (siftL l nm false) ∧ Below w.heap.size w w'
structure PartRel (w wr : World) (l nm : List Int) (k : Nat) (ya : Option Addr) (yc : Nat) (na : Option Addr) (nc : Nat) : Prop where
  b : Below w.heap.size w wr
  Y : OwnsU wr w.heap.size ya yc (siftL (l.take k) nm true)
  N : OwnsU wr w.heap.size na nc (siftL (l.take k) nm false)
  ne : ∀ p q, ya = some p → na = some q → p.block ≠ q.block
theorem own_none {a : Option Addr} {n c m d : Nat} {b : Option Addr} (h : ∀ p q, a = some p → b = some q → p.block ≠ q.block) : (Value.slice a n c).ownBlock = none ∨ (Value.slice a n c).ownBlock ≠ (Value.slice b m d).ownBlock := by
  cases a with
  | none => exact .inl rfl
  | some p =>
    refine .inr ?_
    cases b with
    | none => simp [Value.ownBlock]
    | some q => simpa [Value.ownBlock] using h p q rfl rfl
theorem new_ne {w : World} {base : Nat} {a : Option Addr} {c : Nat} {l : List Int} {b : Option Addr} {d : Nat} {m : List Int} {g H : Nat} (hN : OwnsU w base b d m) (hne : ∀ p q, a = some p → b = some q → p.block ≠ q.block)
    (hat : (Value.slice a l.length c).ownBlock = some g ∨ g = H) (hH : w.heap.size ≤ H) : ∀ p q, some (⟨g, 0, none⟩ : Addr) = some p → b = some q → p.block ≠ q.block := by
  intro p q hp hq
  simp only [Option.some.injEq] at hp
  subst hp hq
  rcases hat with e | e
  · cases a with
    | none => cases e
    | some r =>
      simp only [Value.ownBlock, Option.some.injEq] at e
      subst e
      exact hne r q rfl rfl
  · have := (hN.lt q.block rfl).2
    show g ≠ q.block
    omega

end Go.Proofs.Ytgdeiaholkmfeaa.HazP

/-
  Chapter 27: the list.
-/
namespace Go.Proofs.Ytgdeiaholkmfeaa.HazP
open Go.RowKit RefP
set_option linter.unusedVariables false
set_option linter.unusedSimpArgs false

theorem run_append_zero {P : Program} {w : World} {base : Nat} (t ty e : TypeId) (i : TypeInfo) (size : Nat) (ht : P.underlying t = some (.slice e)) (hi : P.info? e = some i)
    (v : Value) (n : Nat) (xs : List Value) (hown : w.ownsRow base e size v n xs) (p : Option Addr) (c' : Nat) :
    (Builtin.append_ #[t, t] ty #[v, .slice p 0 c']).run P w = .ok v w := by
  rcases hown.2 with ⟨rfl, rfl⟩ | ⟨g, cap, cur, rfl, _, _, hnc, _⟩
  · cases p <;> simp [Builtin.append_, run_underlying ht, sizeOf, typeInfo, hi, Builtin.lenOf, Builtin.firstCells, loadCells, loadCellsFrom, Result.andThen]
  · cases p <;> simp [Builtin.append_, run_underlying ht, sizeOf, typeInfo, hi, Builtin.lenOf, Builtin.firstCells, hnc, storeCells, loadCells, loadCellsFrom, Result.andThen]
theorem OwnsU.empty (w : World) (base : Nat) (hb : base ≤ w.heap.size) : OwnsU (w.alloc (.cells #[] 27)) base (some ⟨w.heap.size, 0, none⟩) 0 [] := ⟨Owns.empty _ _ _ _ _ hb, by simp⟩

set_option maxRecDepth 100000 in
set_option maxHeartbeats 800000 in
theorem sclone_any (a : Option Addr) (c : Nat) (l : List Int) (w : World) (h : U64s w a l) (hsm : l.length ≤ 60000) :
    Calls Try.prog 48 #[.slice a l.length c] w (WordsAt w l) := by
  cases ha : a with
  | none =>
    subst ha
    have h0 : l.length = 0 := by
      rcases Nat.eq_zero_or_pos l.length with h0 | h0
      · exact h0
      · obtain ⟨b, off, e, _⟩ := h.row.get h0; cases e
    obtain rfl : l = [] := List.eq_nil_of_length_eq_zero h0
    have hnil : ∀ w, (binOp .eql 29 (.slice none 0 c) (.slice none 0 0)).run Try.prog w = .ok (.bool true) w := fun w => Lib.run_eql_slice_nil w _ _ none 0 c 0 0 Try.underlying29
    go_enter Try.func48, Try.ntmps48
    go_wp2_with fail
    go_ret
    exact ⟨none, 0, rfl, OwnsU.nil _ _, Below.refl _ _⟩
  | some p =>
    subst ha
    have E := OwnsU.empty w w.heap.size (Nat.le_refl _)
    have hB : Below w.heap.size w (w.alloc (.cells #[] 27)) := (Below.refl _ w).alloc (Nat.le_refl _) _
    obtain ⟨i0, hi, hz0, hz1, hz2⟩ := info_parts' infoWord
    by_cases h0 : l.length = 0
    · obtain rfl : l = [] := List.eq_nil_of_length_eq_zero h0
      have hrun := fun ty => run_append_zero (P := Try.prog) 29 ty 27 i0 1 Try.underlying29 hi _ _ _ E.own (some p) c
      have hrun := Lib.hid hrun
      have hnil : ∀ w, (binOp .eql 29 (.slice (some p) 0 c) (.slice none 0 0)).run Try.prog w = .ok (.bool false) w := fun w => Lib.run_eql_slice_nil w _ _ (some p) 0 c 0 0 Try.underlying29
      go_enter Try.func48, Try.ntmps48
      go_wp2_with (at_builtin; refine wpList_append_run hrun.out rfl (by rfl) (by rfl) (by rfl) ?_)
      go_ret
      exact ⟨_, 0, rfl, E, hB⟩
    · obtain ⟨g, cap, w', A⟩ := addAll (w := w.alloc (.cells #[] 27)) w.heap.size E (c' := c) (h.below hB) (by omega) (by simpa using (by omega : l.length ≤ 65536)) (by simp)
      have hrun := Lib.hid A.run
      have AO := A.own
      have AB := A.keeps (fun k e => (E.lt k e).1) w w.heap.size (Nat.le_refl _) hB (by simp)
      simp only [List.nil_append] at AO
      clear A E
      simp only [List.length_nil, Nat.zero_add] at hrun
      have hnil : ∀ w, (binOp .eql 29 (.slice (some p) l.length c) (.slice none 0 0)).run Try.prog w = .ok (.bool false) w := fun w => Lib.run_eql_slice_nil w _ _ (some p) l.length c 0 0 Try.underlying29
      go_enter Try.func48, Try.ntmps48
      go_wp2_with (at_builtin; refine wpList_append_run hrun.out rfl (by rfl) (by rfl) (by rfl) ?_)
      go_ret
      exact ⟨_, cap, rfl, AO, AB⟩

end Go.Proofs.Ytgdeiaholkmfeaa.HazP

/-
  The first block is got: named, copied, Block, Do: contracts for a block without rows.
-/
namespace Go.Proofs.Ytgdeiaholkmfeaa.MemP
open Go.RowKit RefP CellP
set_option linter.unusedVariables false
set_option linter.unusedSimpArgs false
/-- the first node, with rows -/
abbrev ndA (k v d : Value) : Array Value := #[.int .i64 0, .string ⟨#[]⟩, .string ⟨#[]⟩, .bool true, .int .i64 (-1), k, v, d]
abbrev nlV : Value := .slice none 0 0
abbrev e0V (b : Nat) : Value := .slice (some ⟨b, 0, none⟩) 0 0
theorem infoStr : (Try.prog.info? 9).map (fun i => (i.zero, i.size, i.bytes)) = some (some (.string ⟨#[]⟩), 1, 16) := by kernel_rfl
theorem infoU64 : (Try.prog.info? 27).map (fun i => (i.zero, i.size, i.bytes)) = some (some (.int .u64 0), 1, 8) := by kernel_rfl
theorem infoI64 : (Try.prog.info? 3).map (fun i => (i.zero, i.size, i.bytes)) = some (some (.int .i64 0), 1, 8) := by kernel_rfl
theorem mk0_string (W : World) : (Instr.makeSlice 28 (.int .i64 0) (.int .i64 0)).run Try.prog W = .ok (.slice (some ⟨W.heap.size, 0, none⟩) 0 0) (W.alloc (.cells #[] 9)) := by
  obtain ⟨i0, hi, hz0, hz1, hz2⟩ := info_parts infoStr
  have hr := run_make (P := Try.prog) W 28 9 i0 _ Try.underlying28 hi hz0 .i64 .i64 0 0 (by omega) (by omega) (by simp) (by omega)
  simpa [madeCells, Array.range_zero'] using hr
theorem mk0_uint64 (W : World) : (Instr.makeSlice 29 (.int .i64 0) (.int .i64 0)).run Try.prog W = .ok (.slice (some ⟨W.heap.size, 0, none⟩) 0 0) (W.alloc (.cells #[] 27)) := by
  obtain ⟨i0, hi, hz0, hz1, hz2⟩ := info_parts infoU64
  have hr := run_make (P := Try.prog) W 29 27 i0 _ Try.underlying29 hi hz0 .i64 .i64 0 0 (by omega) (by omega) (by simp) (by omega)
  simpa [madeCells, Array.range_zero'] using hr
theorem mk0_int (W : World) : (Instr.makeSlice 30 (.int .i64 0) (.int .i64 0)).run Try.prog W = .ok (.slice (some ⟨W.heap.size, 0, none⟩) 0 0) (W.alloc (.cells #[] 3)) := by
  obtain ⟨i0, hi, hz0, hz1, hz2⟩ := info_parts infoI64
  have hr := run_make (P := Try.prog) W 30 3 i0 _ Try.underlying30 hi hz0 .i64 .i64 0 0 (by omega) (by omega) (by simp) (by omega)
  simpa [madeCells, Array.range_zero'] using hr
set_option maxRecDepth 100000 in
set_option maxHeartbeats 3200000 in
theorem nclone_first (w : World) : Calls Try.prog 46 #[.agg (ndA nlV nlV nlV)] w fun e w' => (∃ b1 b2 b3, e = .returned (.agg (ndA (e0V b1) (e0V b2) (e0V b3)))) ∧ Below w.heap.size w w' := by
  have hb0 : Below w.heap.size w ((w.alloc (.cells (ndA nlV nlV nlV) 32)).alloc (.cells #[.int .i64 0, .string ⟨#[]⟩, .string ⟨#[]⟩, .bool false, .int .i64 0, nlV, nlV, nlV] 32)) := by (repeat (first | exact Below.refl _ _ | assumption | refine below_alloc2 ?_ (by first | exact Nat.le_refl _ | omega) _ | refine Below.drew ?_ | refine below_drewN ?_ _ | refine below_push2 ?_ ‹_› (by first | exact Nat.le_refl _ | omega) | refine Below.setCell ?_ (by first | (simp; done) | (simp; omega) | omega) _))
  have BN := (Blk.new w (ndA nlV nlV nlV) 32).alloc (.cells #[.int .i64 0, .string ⟨#[]⟩, .string ⟨#[]⟩, .bool false, .int .i64 0, nlV, nlV, nlV] 32)
  have BR : Blk ((w.alloc (.cells (ndA nlV nlV nlV) 32)).alloc (.cells #[.int .i64 0, .string ⟨#[]⟩, .string ⟨#[]⟩, .bool false, .int .i64 0, nlV, nlV, nlV] 32)) (w.heap.size + 1) #[.int .i64 0, .string ⟨#[]⟩, .string ⟨#[]⟩, .bool false, .int .i64 0, nlV, nlV, nlV] 32 := by
    have := Blk.new (w.alloc (.cells (ndA nlV nlV nlV) 32)) #[.int .i64 0, .string ⟨#[]⟩, .string ⟨#[]⟩, .bool false, .int .i64 0, nlV, nlV, nlV] 32
    simpa using this
  have m1 := mk0_string
  have m2 := mk0_uint64
  have m3 := mk0_int
  go_enter Try.func46, Try.ntmps46
  go_wp2_with fail
  generalize ((w.alloc (.cells (ndA nlV nlV nlV) 32)).alloc (.cells #[.int .i64 0, .string ⟨#[]⟩, .string ⟨#[]⟩, .bool false, .int .i64 0, nlV, nlV, nlV] 32)) = w1 at hb0 BN BR ⊢
  have c5 := BN.at 5 rfl
  have c6 := BN.at 6 rfl
  have c7 := BN.at 7 rfl
  have hs := hb0.size
  go_upto_region 1 with (fail)
  go_cut [3, 4, 5] (fun u3 u4 u5 wx => ∃ b1 b2 b3, u3 = e0V b1 ∧ u4 = e0V b2 ∧ u5 = e0V b3 ∧ Below w.heap.size w wx ∧ Blk wx w.heap.size (ndA nlV nlV nlV) 32 ∧ Blk wx (w.heap.size + 1) #[.int .i64 0, .string ⟨#[]⟩, .string ⟨#[]⟩, .bool false, .int .i64 0, nlV, nlV, nlV] 32)
  case first =>
    go_region_held (fun w' => w'.cell? ⟨w.heap.size, 5, none⟩ = some (.slice none 0 0) ∧ w'.cell? ⟨w.heap.size, 6, none⟩ = some (.slice none 0 0) ∧ w'.cell? ⟨w.heap.size, 7, none⟩ = some (.slice none 0 0)) (first | exact ⟨BN.drew.at 5 rfl, BN.drew.at 6 rfl, BN.drew.at 7 rfl⟩ | exact ⟨(BN.alloc _).drew.at 5 rfl, (BN.alloc _).drew.at 6 rfl, (BN.alloc _).drew.at 7 rfl⟩ | exact ⟨((BN.alloc _).alloc _).drew.at 5 rfl, ((BN.alloc _).alloc _).drew.at 6 rfl, ((BN.alloc _).alloc _).drew.at 7 rfl⟩ | exact ⟨(((BN.alloc _).alloc _).alloc _).drew.at 5 rfl, (((BN.alloc _).alloc _).alloc _).drew.at 6 rfl, (((BN.alloc _).alloc _).alloc _).drew.at 7 rfl⟩) (fail)
    all_goals
      go_wp2_with fail
      go_meet
      exact ⟨_, _, _, rfl, rfl, rfl, (((hb0.alloc hs _).alloc (by simp; omega) _).alloc (by simp; omega) _).drew, (((BN.alloc _).alloc _).alloc _).drew, (((BR.alloc _).alloc _).alloc _).drew⟩
  case rest =>
    obtain ⟨b1, b2, b3, rfl, rfl, rfl, hb2, B2, R2⟩ := hcut
    clear hb0 BN BR c5 c6 c7 hs m1 m2 m3
    have c5 := B2.at 5 rfl
    have c6 := B2.at 6 rfl
    have c7 := B2.at 7 rfl
    have f5 := B2.free 5
    have f6 := B2.free 6
    have f7 := B2.free 7
    go_wp2_with fail
    rw [show (Builtin.copy_ #[28, 28] 3 #[e0V b1, nlV]).run Try.prog wc = .ok (goInt 0) wc from run_copy_none wc _ _ _ 9 _ _ 0 0 0 0 Try.underlying28 (by kernel_rfl) rfl]
    go_wp2_with fail
    rw [show (Builtin.copy_ #[29, 29] 3 #[e0V b2, nlV]).run Try.prog wc = .ok (goInt 0) wc from run_copy_none wc _ _ _ 27 _ _ 0 0 0 0 Try.underlying29 (by kernel_rfl) rfl]
    go_wp2_with fail
    rw [show (Builtin.copy_ #[30, 30] 3 #[e0V b3, nlV]).run Try.prog wc = .ok (goInt 0) wc from run_copy_none wc _ _ _ 3 _ _ 0 0 0 0 Try.underlying30 (by kernel_rfl) rfl]
    have BF : Blk (((wc.setCell ⟨w.heap.size, 5, none⟩ (e0V b1)).setCell ⟨w.heap.size, 6, none⟩ (e0V b2)).setCell ⟨w.heap.size, 7, none⟩ (e0V b3)) w.heap.size (ndA (e0V b1) (e0V b2) (e0V b3)) 32 := by
      simpa [ndA] using ((B2.set 5 (e0V b1)).set 6 (e0V b2)).set 7 (e0V b3)
    have RF := ((R2.far ⟨w.heap.size, 5, none⟩ (e0V b1) (by show w.heap.size + 1 ≠ w.heap.size; omega)).far ⟨w.heap.size, 6, none⟩ (e0V b2) (by show w.heap.size + 1 ≠ w.heap.size; omega)).far ⟨w.heap.size, 7, none⟩ (e0V b3) (by show w.heap.size + 1 ≠ w.heap.size; omega)
    have hbF := ((hb2.setCell (p := ⟨w.heap.size, 5, none⟩) (Nat.le_refl _) (e0V b1)).setCell (p := ⟨w.heap.size, 6, none⟩) (Nat.le_refl _) (e0V b2)).setCell (p := ⟨w.heap.size, 7, none⟩) (Nat.le_refl _) (e0V b3)
    go_wp2_with (first
      | (refine wpList_load_row rfl 32 _ rfl w.heap.size rfl 32 _ (0, 0) _ BF.h Try.underlying32 rfl (by kernel_rfl) ?_)
      | (refine wpList_store_row rfl 32 _ _ rfl (w.heap.size + 1) _ rfl rfl 32 _ RF.h (by kernel_rfl) (by rfl) (by kernel_rfl) ?_))
    refine bodyPost_ret (results_cell_row rfl _ _ (w.heap.size + 1) 32 (ndA (e0V b1) (e0V b2) (e0V b3)) (0, 0) _ rfl (Blk.row RF (ndA (e0V b1) (e0V b2) (e0V b3))).h Try.underlying32 rfl (by kernel_rfl)) rfl ⟨⟨b1, b2, b3, rfl⟩, below_setRow hbF (by omega) _⟩
end Go.Proofs.Ytgdeiaholkmfeaa.MemP
