/-
  Where a memory's cells are: contracts of none, at, Node, Use, Announce, Done, Phase, Hazard, Gate, Arena, Threads, Len, Load; for a memory, for nil, for one that no call made.
-/
import Derived.Deep.MidRow
import Derived.WalkLawsBesides
import Derived.WalkSpells
import Derived.Outline
import Derived.LoopTactic
import Derived.Laws.NewDeep
import Derived.Deep.WholeRow
import Derived.BigQuiet
import Derived.Lib.SlicesS
import Derived.Deep.DeepCutAuto
import Derived.Test.YtpempcefgfmniaaMemoryDoesPack1

namespace Go.Proofs.Ytpempcefgfmniaa.MemP
open Go.RowKit RefP CellP
set_option linter.unusedVariables false
set_option linter.unusedSimpArgs false

/-- a memory without cells -/
structure NoMem (w : World) (o : Nat) : Prop where
  head : Blk w o (memA (.pointer none) (fun _ => 0) 0 0 0 0) 48 ∨ ∃ cs : Array Value, Blk w o cs 48 ∧ cs[0]? = some (.pointer none)
theorem NoMem.cell {w : World} {o : Nat} (h : NoMem w o) : w.cell? ⟨o, 0, none⟩ = some (.pointer none) := by
  rcases h.head with h | ⟨cs, h, e⟩
  · exact h.at 0 rfl
  · exact h.at 0 e
theorem NoMem.below {w w' : World} {o : Nat} (h : NoMem w o) (hb : Below w.heap.size w w') : NoMem w' o := by
  rcases h.head with h | ⟨cs, h, e⟩
  · exact ⟨.inl (h.below hb)⟩
  · exact ⟨.inr ⟨cs, h.below hb, e⟩⟩
theorem NoMem.mk' {w : World} {o : Nat} {cs : Array Value} (h : Blk w o cs 48) (e : cs[0]? = some (.pointer none)) : NoMem w o := ⟨.inr ⟨cs, h, e⟩⟩
theorem MemAt.ptr {w : World} {o oc g gb gr A T : Nat} {L : List (Int × Int)} {bs rs : List (List Value)} (h : MemAt w o oc g gb gr A T L bs rs) : w.cell? ⟨o, 0, none⟩ = some (.pointer (some ⟨oc, 0, none⟩)) := h.head.at 0 rfl
set_option maxHeartbeats 800000 in
theorem none_nil (w : World) : Calls Try.prog 46 #[.pointer none] w fun e w' => e = .returned (.bool true) ∧ w = w' := by
  go_enter Try.func46, Try.ntmps46
  go_wp2_with fail
  go_ret
  exact ⟨rfl, rfl⟩
set_option maxHeartbeats 800000 in
theorem none_zero (o : Nat) (w : World) (h : NoMem w o) : Calls Try.prog 46 #[.pointer (some ⟨o, 0, none⟩)] w fun e w' => e = .returned (.bool true) ∧ w = w' := by
  have c0 := h.cell
  go_enter Try.func46, Try.ntmps46
  go_wp2_with fail
  go_ret
  exact ⟨rfl, rfl⟩
set_option maxHeartbeats 800000 in
theorem none_any {o oc g gb gr A T : Nat} {L : List (Int × Int)} {bs rs : List (List Value)} (w : World) (h : MemAt w o oc g gb gr A T L bs rs) : Calls Try.prog 46 #[.pointer (some ⟨o, 0, none⟩)] w fun e w' => e = .returned (.bool false) ∧ w = w' := by
  have c0 := h.ptr
  go_enter Try.func46, Try.ntmps46
  go_wp2_with fail
  go_ret
  exact ⟨rfl, rfl⟩
theorem MemAt.drewN {w : World} {o oc g gb gr A T : Nat} {L : List (Int × Int)} {bs rs : List (List Value)} (h : MemAt w o oc g gb gr A T L bs rs) (n : Nat) : MemAt (w.drewN n) o oc g gb gr A T L bs rs := h.below (below_drewN (Below.refl _ _) n)
theorem NoMem.drewN {w : World} {o : Nat} (h : NoMem w o) (n : Nat) : NoMem (w.drewN n) o := h.below (below_drewN (Below.refl _ _) n)
set_option maxHeartbeats 1600000 in
theorem at_nil (r i : Int) (w : World) : Calls Try.prog 52 #[.pointer none, .int .i64 r, .int .i64 i] w fun e w' => e = .returned (.int .i64 (-1)) ∧ Below w.heap.size w w' := by
  go_enter Try.func52, Try.ntmps52
  go_wp2_with fail
  go_quiet (exact Calls.quiet_of_same ((none_nil _).flip))
  go_wp2_with fail
  go_ret
  exact ⟨rfl, below_drewN (Below.refl _ _) _⟩
set_option maxHeartbeats 1600000 in
theorem at_zero (o : Nat) (r i : Int) (w : World) (h : NoMem w o) : Calls Try.prog 52 #[.pointer (some ⟨o, 0, none⟩), .int .i64 r, .int .i64 i] w fun e w' => e = .returned (.int .i64 (-1)) ∧ Below w.heap.size w w' := by
  go_enter Try.func52, Try.ntmps52
  go_wp2_with fail
  go_quiet (exact Calls.quiet_of_same ((none_zero _ _ (h.drewN _)).flip))
  go_wp2_with fail
  go_ret
  exact ⟨rfl, below_drewN (Below.refl _ _) _⟩
set_option maxRecDepth 100000 in
set_option maxHeartbeats 3200000 in
theorem at_0 {o oc g gb gr A T : Nat} {L : List (Int × Int)} {bs rs : List (List Value)} (i : Int) (w : World) (h : MemAt w o oc g gb gr A T L bs rs) (i0 : -9223372036854775808 ≤ i) (i1 : i ≤ 9223372036854775807) :
    Calls Try.prog 52 #[.pointer (some ⟨o, 0, none⟩), .int .i64 0, .int .i64 i] w fun e w' => e = .returned (.int .i64 (atI A T 0 i)) ∧ Below w.heap.size w w' := by
  have c1 : w.cell? ⟨o, 1, none⟩ = some (.int .i64 (fromI A T 0)) := h.head.at 1 rfl
  have c2 : w.cell? ⟨o, 2, none⟩ = some (.int .i64 (fromI A T 1)) := h.head.at 2 rfl
  have e1 := from_succ A T 0 (by omega)
  have e2 := from_rng A T 0 h.a1.2 h.t1.2
  have e3 := size_rng A T 0 h.a1.2 h.t1.2
  simp only [Nat.reduceAdd] at e1
  have hw : IntKind.i64.wrap (fromI A T 1 - fromI A T 0) = sizeI A T 0 := by rw [IntKind.wrap_i64]; omega
  have hk : IntKind.i64.wrap 1 = 1 := by rw [IntKind.wrap_i64]; rfl
  clear e1
  by_cases hn : i < 0
  · have q1 : decide (i < 0) = true := by simpa using hn
    have hR : Hid (atI A T 0 i = -1) := atI_no (by omega)
    clear hn
    go_enter Try.func52, Try.ntmps52
    go_wp2_with fail
    go_quiet (exact Calls.quiet_of_same ((none_any _ (h.drewN _)).flip))
    go_wp2_with fail
    go_ret
    exact ⟨ret_int hR.out.symm, below_drewN (Below.refl _ _) _⟩
  · have q1 : decide (i < 0) = false := by simpa using hn
    by_cases hm : sizeI A T 0 ≤ i
    · have q2 : decide (sizeI A T 0 ≤ i) = true := by simpa using hm
      have hR : Hid (atI A T 0 i = -1) := atI_no (by omega)
      clear hn hm
      go_enter Try.func52, Try.ntmps52
      go_wp2_with fail
      go_quiet (exact Calls.quiet_of_same ((none_any _ (h.drewN _)).flip))
      go_wp2_with fail
      go_ret
      exact ⟨ret_int hR.out.symm, below_drewN (Below.refl _ _) _⟩
    · have q2 : decide (sizeI A T 0 ≤ i) = false := by simpa using hm
      have hR : Hid (atI A T 0 i = fromI A T 0 + i) := atI_yes (by omega) (by omega)
      have hw3 : IntKind.i64.wrap (fromI A T 0 + i) = fromI A T 0 + i := by rw [IntKind.wrap_i64]; omega
      clear hn hm
      go_enter Try.func52, Try.ntmps52
      go_wp2_with fail
      go_quiet (exact Calls.quiet_of_same ((none_any _ (h.drewN _)).flip))
      go_wp2_with fail
      go_ret
      exact ⟨ret_int hR.out.symm, below_drewN (Below.refl _ _) _⟩
set_option maxRecDepth 100000 in
set_option maxHeartbeats 3200000 in
theorem at_1 {o oc g gb gr A T : Nat} {L : List (Int × Int)} {bs rs : List (List Value)} (i : Int) (w : World) (h : MemAt w o oc g gb gr A T L bs rs) (i0 : -9223372036854775808 ≤ i) (i1 : i ≤ 9223372036854775807) :
    Calls Try.prog 52 #[.pointer (some ⟨o, 0, none⟩), .int .i64 1, .int .i64 i] w fun e w' => e = .returned (.int .i64 (atI A T 1 i)) ∧ Below w.heap.size w w' := by
  have c1 : w.cell? ⟨o, 2, none⟩ = some (.int .i64 (fromI A T 1)) := h.head.at 2 rfl
  have c2 : w.cell? ⟨o, 3, none⟩ = some (.int .i64 (fromI A T 2)) := h.head.at 3 rfl
  have e1 := from_succ A T 1 (by omega)
  have e2 := from_rng A T 1 h.a1.2 h.t1.2
  have e3 := size_rng A T 1 h.a1.2 h.t1.2
  simp only [Nat.reduceAdd] at e1
  have hw : IntKind.i64.wrap (fromI A T 2 - fromI A T 1) = sizeI A T 1 := by rw [IntKind.wrap_i64]; omega
  have hk : IntKind.i64.wrap 2 = 2 := by rw [IntKind.wrap_i64]; rfl
  clear e1
  by_cases hn : i < 0
  · have q1 : decide (i < 0) = true := by simpa using hn
    have hR : Hid (atI A T 1 i = -1) := atI_no (by omega)
    clear hn
    go_enter Try.func52, Try.ntmps52
    go_wp2_with fail
    go_quiet (exact Calls.quiet_of_same ((none_any _ (h.drewN _)).flip))
    go_wp2_with fail
    go_ret
    exact ⟨ret_int hR.out.symm, below_drewN (Below.refl _ _) _⟩
  · have q1 : decide (i < 0) = false := by simpa using hn
    by_cases hm : sizeI A T 1 ≤ i
    · have q2 : decide (sizeI A T 1 ≤ i) = true := by simpa using hm
      have hR : Hid (atI A T 1 i = -1) := atI_no (by omega)
      clear hn hm
      go_enter Try.func52, Try.ntmps52
      go_wp2_with fail
      go_quiet (exact Calls.quiet_of_same ((none_any _ (h.drewN _)).flip))
      go_wp2_with fail
      go_ret
      exact ⟨ret_int hR.out.symm, below_drewN (Below.refl _ _) _⟩
    · have q2 : decide (sizeI A T 1 ≤ i) = false := by simpa using hm
      have hR : Hid (atI A T 1 i = fromI A T 1 + i) := atI_yes (by omega) (by omega)
      have hw3 : IntKind.i64.wrap (fromI A T 1 + i) = fromI A T 1 + i := by rw [IntKind.wrap_i64]; omega
      clear hn hm
      go_enter Try.func52, Try.ntmps52
      go_wp2_with fail
      go_quiet (exact Calls.quiet_of_same ((none_any _ (h.drewN _)).flip))
      go_wp2_with fail
      go_ret
      exact ⟨ret_int hR.out.symm, below_drewN (Below.refl _ _) _⟩
set_option maxRecDepth 100000 in
set_option maxHeartbeats 3200000 in
theorem at_2 {o oc g gb gr A T : Nat} {L : List (Int × Int)} {bs rs : List (List Value)} (i : Int) (w : World) (h : MemAt w o oc g gb gr A T L bs rs) (i0 : -9223372036854775808 ≤ i) (i1 : i ≤ 9223372036854775807) :
    Calls Try.prog 52 #[.pointer (some ⟨o, 0, none⟩), .int .i64 2, .int .i64 i] w fun e w' => e = .returned (.int .i64 (atI A T 2 i)) ∧ Below w.heap.size w w' := by
  have c1 : w.cell? ⟨o, 3, none⟩ = some (.int .i64 (fromI A T 2)) := h.head.at 3 rfl
  have c2 : w.cell? ⟨o, 4, none⟩ = some (.int .i64 (fromI A T 3)) := h.head.at 4 rfl
  have e1 := from_succ A T 2 (by omega)
  have e2 := from_rng A T 2 h.a1.2 h.t1.2
  have e3 := size_rng A T 2 h.a1.2 h.t1.2
  simp only [Nat.reduceAdd] at e1
  have hw : IntKind.i64.wrap (fromI A T 3 - fromI A T 2) = sizeI A T 2 := by rw [IntKind.wrap_i64]; omega
  have hk : IntKind.i64.wrap 3 = 3 := by rw [IntKind.wrap_i64]; rfl
  clear e1
  by_cases hn : i < 0
  · have q1 : decide (i < 0) = true := by simpa using hn
    have hR : Hid (atI A T 2 i = -1) := atI_no (by omega)
    clear hn
    go_enter Try.func52, Try.ntmps52
    go_wp2_with fail
    go_quiet (exact Calls.quiet_of_same ((none_any _ (h.drewN _)).flip))
    go_wp2_with fail
    go_ret
    exact ⟨ret_int hR.out.symm, below_drewN (Below.refl _ _) _⟩
  · have q1 : decide (i < 0) = false := by simpa using hn
    by_cases hm : sizeI A T 2 ≤ i
    · have q2 : decide (sizeI A T 2 ≤ i) = true := by simpa using hm
      have hR : Hid (atI A T 2 i = -1) := atI_no (by omega)
      clear hn hm
      go_enter Try.func52, Try.ntmps52
      go_wp2_with fail
      go_quiet (exact Calls.quiet_of_same ((none_any _ (h.drewN _)).flip))
      go_wp2_with fail
      go_ret
      exact ⟨ret_int hR.out.symm, below_drewN (Below.refl _ _) _⟩
    · have q2 : decide (sizeI A T 2 ≤ i) = false := by simpa using hm
      have hR : Hid (atI A T 2 i = fromI A T 2 + i) := atI_yes (by omega) (by omega)
      have hw3 : IntKind.i64.wrap (fromI A T 2 + i) = fromI A T 2 + i := by rw [IntKind.wrap_i64]; omega
      clear hn hm
      go_enter Try.func52, Try.ntmps52
      go_wp2_with fail
      go_quiet (exact Calls.quiet_of_same ((none_any _ (h.drewN _)).flip))
      go_wp2_with fail
      go_ret
      exact ⟨ret_int hR.out.symm, below_drewN (Below.refl _ _) _⟩
set_option maxRecDepth 100000 in
set_option maxHeartbeats 3200000 in
theorem at_3 {o oc g gb gr A T : Nat} {L : List (Int × Int)} {bs rs : List (List Value)} (i : Int) (w : World) (h : MemAt w o oc g gb gr A T L bs rs) (i0 : -9223372036854775808 ≤ i) (i1 : i ≤ 9223372036854775807) :
    Calls Try.prog 52 #[.pointer (some ⟨o, 0, none⟩), .int .i64 3, .int .i64 i] w fun e w' => e = .returned (.int .i64 (atI A T 3 i)) ∧ Below w.heap.size w w' := by
  have c1 : w.cell? ⟨o, 4, none⟩ = some (.int .i64 (fromI A T 3)) := h.head.at 4 rfl
  have c2 : w.cell? ⟨o, 5, none⟩ = some (.int .i64 (fromI A T 4)) := h.head.at 5 rfl
  have e1 := from_succ A T 3 (by omega)
  have e2 := from_rng A T 3 h.a1.2 h.t1.2
  have e3 := size_rng A T 3 h.a1.2 h.t1.2
  simp only [Nat.reduceAdd] at e1
  have hw : IntKind.i64.wrap (fromI A T 4 - fromI A T 3) = sizeI A T 3 := by rw [IntKind.wrap_i64]; omega
  have hk : IntKind.i64.wrap 4 = 4 := by rw [IntKind.wrap_i64]; rfl
  clear e1
  by_cases hn : i < 0
  · have q1 : decide (i < 0) = true := by simpa using hn
    have hR : Hid (atI A T 3 i = -1) := atI_no (by omega)
    clear hn
    go_enter Try.func52, Try.ntmps52
    go_wp2_with fail
    go_quiet (exact Calls.quiet_of_same ((none_any _ (h.drewN _)).flip))
    go_wp2_with fail
    go_ret
    exact ⟨ret_int hR.out.symm, below_drewN (Below.refl _ _) _⟩
  · have q1 : decide (i < 0) = false := by simpa using hn
    by_cases hm : sizeI A T 3 ≤ i
    · have q2 : decide (sizeI A T 3 ≤ i) = true := by simpa using hm
      have hR : Hid (atI A T 3 i = -1) := atI_no (by omega)
      clear hn hm
      go_enter Try.func52, Try.ntmps52
      go_wp2_with fail
      go_quiet (exact Calls.quiet_of_same ((none_any _ (h.drewN _)).flip))
      go_wp2_with fail
      go_ret
      exact ⟨ret_int hR.out.symm, below_drewN (Below.refl _ _) _⟩
    · have q2 : decide (sizeI A T 3 ≤ i) = false := by simpa using hm
      have hR : Hid (atI A T 3 i = fromI A T 3 + i) := atI_yes (by omega) (by omega)
      have hw3 : IntKind.i64.wrap (fromI A T 3 + i) = fromI A T 3 + i := by rw [IntKind.wrap_i64]; omega
      clear hn hm
      go_enter Try.func52, Try.ntmps52
      go_wp2_with fail
      go_quiet (exact Calls.quiet_of_same ((none_any _ (h.drewN _)).flip))
      go_wp2_with fail
      go_ret
      exact ⟨ret_int hR.out.symm, below_drewN (Below.refl _ _) _⟩
set_option maxRecDepth 100000 in
set_option maxHeartbeats 3200000 in
theorem at_4 {o oc g gb gr A T : Nat} {L : List (Int × Int)} {bs rs : List (List Value)} (i : Int) (w : World) (h : MemAt w o oc g gb gr A T L bs rs) (i0 : -9223372036854775808 ≤ i) (i1 : i ≤ 9223372036854775807) :
    Calls Try.prog 52 #[.pointer (some ⟨o, 0, none⟩), .int .i64 4, .int .i64 i] w fun e w' => e = .returned (.int .i64 (atI A T 4 i)) ∧ Below w.heap.size w w' := by
  have c1 : w.cell? ⟨o, 5, none⟩ = some (.int .i64 (fromI A T 4)) := h.head.at 5 rfl
  have c2 : w.cell? ⟨o, 6, none⟩ = some (.int .i64 (fromI A T 5)) := h.head.at 6 rfl
  have e1 := from_succ A T 4 (by omega)
  have e2 := from_rng A T 4 h.a1.2 h.t1.2
  have e3 := size_rng A T 4 h.a1.2 h.t1.2
  simp only [Nat.reduceAdd] at e1
  have hw : IntKind.i64.wrap (fromI A T 5 - fromI A T 4) = sizeI A T 4 := by rw [IntKind.wrap_i64]; omega
  have hk : IntKind.i64.wrap 5 = 5 := by rw [IntKind.wrap_i64]; rfl
  clear e1
  by_cases hn : i < 0
  · have q1 : decide (i < 0) = true := by simpa using hn
    have hR : Hid (atI A T 4 i = -1) := atI_no (by omega)
    clear hn
    go_enter Try.func52, Try.ntmps52
    go_wp2_with fail
    go_quiet (exact Calls.quiet_of_same ((none_any _ (h.drewN _)).flip))
    go_wp2_with fail
    go_ret
    exact ⟨ret_int hR.out.symm, below_drewN (Below.refl _ _) _⟩
  · have q1 : decide (i < 0) = false := by simpa using hn
    by_cases hm : sizeI A T 4 ≤ i
    · have q2 : decide (sizeI A T 4 ≤ i) = true := by simpa using hm
      have hR : Hid (atI A T 4 i = -1) := atI_no (by omega)
      clear hn hm
      go_enter Try.func52, Try.ntmps52
      go_wp2_with fail
      go_quiet (exact Calls.quiet_of_same ((none_any _ (h.drewN _)).flip))
      go_wp2_with fail
      go_ret
      exact ⟨ret_int hR.out.symm, below_drewN (Below.refl _ _) _⟩
    · have q2 : decide (sizeI A T 4 ≤ i) = false := by simpa using hm
      have hR : Hid (atI A T 4 i = fromI A T 4 + i) := atI_yes (by omega) (by omega)
      have hw3 : IntKind.i64.wrap (fromI A T 4 + i) = fromI A T 4 + i := by rw [IntKind.wrap_i64]; omega
      clear hn hm
      go_enter Try.func52, Try.ntmps52
      go_wp2_with fail
      go_quiet (exact Calls.quiet_of_same ((none_any _ (h.drewN _)).flip))
      go_wp2_with fail
      go_ret
      exact ⟨ret_int hR.out.symm, below_drewN (Below.refl _ _) _⟩
set_option maxRecDepth 100000 in
set_option maxHeartbeats 3200000 in
theorem at_5 {o oc g gb gr A T : Nat} {L : List (Int × Int)} {bs rs : List (List Value)} (i : Int) (w : World) (h : MemAt w o oc g gb gr A T L bs rs) (i0 : -9223372036854775808 ≤ i) (i1 : i ≤ 9223372036854775807) :
    Calls Try.prog 52 #[.pointer (some ⟨o, 0, none⟩), .int .i64 5, .int .i64 i] w fun e w' => e = .returned (.int .i64 (atI A T 5 i)) ∧ Below w.heap.size w w' := by
  have c1 : w.cell? ⟨o, 6, none⟩ = some (.int .i64 (fromI A T 5)) := h.head.at 6 rfl
  have c2 : w.cell? ⟨o, 7, none⟩ = some (.int .i64 (fromI A T 6)) := h.head.at 7 rfl
  have e1 := from_succ A T 5 (by omega)
  have e2 := from_rng A T 5 h.a1.2 h.t1.2
  have e3 := size_rng A T 5 h.a1.2 h.t1.2
  simp only [Nat.reduceAdd] at e1
  have hw : IntKind.i64.wrap (fromI A T 6 - fromI A T 5) = sizeI A T 5 := by rw [IntKind.wrap_i64]; omega
  have hk : IntKind.i64.wrap 6 = 6 := by rw [IntKind.wrap_i64]; rfl
  clear e1
  by_cases hn : i < 0
  · have q1 : decide (i < 0) = true := by simpa using hn
    have hR : Hid (atI A T 5 i = -1) := atI_no (by omega)
    clear hn
    go_enter Try.func52, Try.ntmps52
    go_wp2_with fail
    go_quiet (exact Calls.quiet_of_same ((none_any _ (h.drewN _)).flip))
    go_wp2_with fail
    go_ret
    exact ⟨ret_int hR.out.symm, below_drewN (Below.refl _ _) _⟩
  · have q1 : decide (i < 0) = false := by simpa using hn
    by_cases hm : sizeI A T 5 ≤ i
    · have q2 : decide (sizeI A T 5 ≤ i) = true := by simpa using hm
      have hR : Hid (atI A T 5 i = -1) := atI_no (by omega)
      clear hn hm
      go_enter Try.func52, Try.ntmps52
      go_wp2_with fail
      go_quiet (exact Calls.quiet_of_same ((none_any _ (h.drewN _)).flip))
      go_wp2_with fail
      go_ret
      exact ⟨ret_int hR.out.symm, below_drewN (Below.refl _ _) _⟩
    · have q2 : decide (sizeI A T 5 ≤ i) = false := by simpa using hm
      have hR : Hid (atI A T 5 i = fromI A T 5 + i) := atI_yes (by omega) (by omega)
      have hw3 : IntKind.i64.wrap (fromI A T 5 + i) = fromI A T 5 + i := by rw [IntKind.wrap_i64]; omega
      clear hn hm
      go_enter Try.func52, Try.ntmps52
      go_wp2_with fail
      go_quiet (exact Calls.quiet_of_same ((none_any _ (h.drewN _)).flip))
      go_wp2_with fail
      go_ret
      exact ⟨ret_int hR.out.symm, below_drewN (Below.refl _ _) _⟩
set_option maxRecDepth 100000 in
set_option maxHeartbeats 3200000 in
theorem at_6 {o oc g gb gr A T : Nat} {L : List (Int × Int)} {bs rs : List (List Value)} (i : Int) (w : World) (h : MemAt w o oc g gb gr A T L bs rs) (i0 : -9223372036854775808 ≤ i) (i1 : i ≤ 9223372036854775807) :
    Calls Try.prog 52 #[.pointer (some ⟨o, 0, none⟩), .int .i64 6, .int .i64 i] w fun e w' => e = .returned (.int .i64 (atI A T 6 i)) ∧ Below w.heap.size w w' := by
  have c1 : w.cell? ⟨o, 7, none⟩ = some (.int .i64 (fromI A T 6)) := h.head.at 7 rfl
  have c2 : w.cell? ⟨o, 8, none⟩ = some (.int .i64 (fromI A T 7)) := h.head.at 8 rfl
  have e1 := from_succ A T 6 (by omega)
  have e2 := from_rng A T 6 h.a1.2 h.t1.2
  have e3 := size_rng A T 6 h.a1.2 h.t1.2
  simp only [Nat.reduceAdd] at e1
  have hw : IntKind.i64.wrap (fromI A T 7 - fromI A T 6) = sizeI A T 6 := by rw [IntKind.wrap_i64]; omega
  have hk : IntKind.i64.wrap 7 = 7 := by rw [IntKind.wrap_i64]; rfl
  clear e1
  by_cases hn : i < 0
  · have q1 : decide (i < 0) = true := by simpa using hn
    have hR : Hid (atI A T 6 i = -1) := atI_no (by omega)
    clear hn
    go_enter Try.func52, Try.ntmps52
    go_wp2_with fail
    go_quiet (exact Calls.quiet_of_same ((none_any _ (h.drewN _)).flip))
    go_wp2_with fail
    go_ret
    exact ⟨ret_int hR.out.symm, below_drewN (Below.refl _ _) _⟩
  · have q1 : decide (i < 0) = false := by simpa using hn
    by_cases hm : sizeI A T 6 ≤ i
    · have q2 : decide (sizeI A T 6 ≤ i) = true := by simpa using hm
      have hR : Hid (atI A T 6 i = -1) := atI_no (by omega)
      clear hn hm
      go_enter Try.func52, Try.ntmps52
      go_wp2_with fail
      go_quiet (exact Calls.quiet_of_same ((none_any _ (h.drewN _)).flip))
      go_wp2_with fail
      go_ret
      exact ⟨ret_int hR.out.symm, below_drewN (Below.refl _ _) _⟩
    · have q2 : decide (sizeI A T 6 ≤ i) = false := by simpa using hm
      have hR : Hid (atI A T 6 i = fromI A T 6 + i) := atI_yes (by omega) (by omega)
      have hw3 : IntKind.i64.wrap (fromI A T 6 + i) = fromI A T 6 + i := by rw [IntKind.wrap_i64]; omega
      clear hn hm
      go_enter Try.func52, Try.ntmps52
      go_wp2_with fail
      go_quiet (exact Calls.quiet_of_same ((none_any _ (h.drewN _)).flip))
      go_wp2_with fail
      go_ret
      exact ⟨ret_int hR.out.symm, below_drewN (Below.refl _ _) _⟩
set_option maxHeartbeats 800000 in
theorem node_any {o oc g gb gr A T : Nat} {L : List (Int × Int)} {bs rs : List (List Value)} (i : Int) (w : World) (h : MemAt w o oc g gb gr A T L bs rs) (i0 : -9223372036854775808 ≤ i) (i1 : i ≤ 9223372036854775807) :
    Calls Try.prog 22 #[.pointer (some ⟨o, 0, none⟩), .int .i64 i] w fun e w' => e = .returned (.int .i64 (atI A T 0 i)) ∧ Below w.heap.size w w' := by
  go_enter Try.func22, Try.ntmps22
  go_wp2_with fail
  refine (at_0 i _ h i0 i1).mono ?_
  rintro e w1 ⟨rfl, hb1⟩
  go_wp2_with fail
  go_ret
  exact ⟨rfl, hb1⟩
set_option maxHeartbeats 800000 in
theorem node_nil (i : Int) (w : World) : Calls Try.prog 22 #[.pointer none, .int .i64 i] w fun e w' => e = .returned (.int .i64 (-1)) ∧ Below w.heap.size w w' := by
  go_enter Try.func22, Try.ntmps22
  go_wp2_with fail
  refine (at_nil _ i _).mono ?_
  rintro e w1 ⟨rfl, hb1⟩
  go_wp2_with fail
  go_ret
  exact ⟨rfl, hb1⟩
set_option maxHeartbeats 800000 in
theorem node_zero (o : Nat) (i : Int) (w : World) (h : NoMem w o) : Calls Try.prog 22 #[.pointer (some ⟨o, 0, none⟩), .int .i64 i] w fun e w' => e = .returned (.int .i64 (-1)) ∧ Below w.heap.size w w' := by
  go_enter Try.func22, Try.ntmps22
  go_wp2_with fail
  refine (at_zero _ _ i _ h).mono ?_
  rintro e w1 ⟨rfl, hb1⟩
  go_wp2_with fail
  go_ret
  exact ⟨rfl, hb1⟩
set_option maxHeartbeats 800000 in
theorem muse_any {o oc g gb gr A T : Nat} {L : List (Int × Int)} {bs rs : List (List Value)} (i : Int) (w : World) (h : MemAt w o oc g gb gr A T L bs rs) (i0 : -9223372036854775808 ≤ i) (i1 : i ≤ 9223372036854775807) :
    Calls Try.prog 20 #[.pointer (some ⟨o, 0, none⟩), .int .i64 i] w fun e w' => e = .returned (.int .i64 (atI A T 1 i)) ∧ Below w.heap.size w w' := by
  go_enter Try.func20, Try.ntmps20
  go_wp2_with fail
  refine (at_1 i _ h i0 i1).mono ?_
  rintro e w1 ⟨rfl, hb1⟩
  go_wp2_with fail
  go_ret
  exact ⟨rfl, hb1⟩
set_option maxHeartbeats 800000 in
theorem muse_nil (i : Int) (w : World) : Calls Try.prog 20 #[.pointer none, .int .i64 i] w fun e w' => e = .returned (.int .i64 (-1)) ∧ Below w.heap.size w w' := by
  go_enter Try.func20, Try.ntmps20
  go_wp2_with fail
  refine (at_nil _ i _).mono ?_
  rintro e w1 ⟨rfl, hb1⟩
  go_wp2_with fail
  go_ret
  exact ⟨rfl, hb1⟩
set_option maxHeartbeats 800000 in
theorem muse_zero (o : Nat) (i : Int) (w : World) (h : NoMem w o) : Calls Try.prog 20 #[.pointer (some ⟨o, 0, none⟩), .int .i64 i] w fun e w' => e = .returned (.int .i64 (-1)) ∧ Below w.heap.size w w' := by
  go_enter Try.func20, Try.ntmps20
  go_wp2_with fail
  refine (at_zero _ _ i _ h).mono ?_
  rintro e w1 ⟨rfl, hb1⟩
  go_wp2_with fail
  go_ret
  exact ⟨rfl, hb1⟩
set_option maxHeartbeats 800000 in
theorem announce_any {o oc g gb gr A T : Nat} {L : List (Int × Int)} {bs rs : List (List Value)} (i : Int) (w : World) (h : MemAt w o oc g gb gr A T L bs rs) (i0 : -9223372036854775808 ≤ i) (i1 : i ≤ 9223372036854775807) :
    Calls Try.prog 23 #[.pointer (some ⟨o, 0, none⟩), .int .i64 i] w fun e w' => e = .returned (.int .i64 (atI A T 2 i)) ∧ Below w.heap.size w w' := by
  go_enter Try.func23, Try.ntmps23
  go_wp2_with fail
  refine (at_2 i _ h i0 i1).mono ?_
  rintro e w1 ⟨rfl, hb1⟩
  go_wp2_with fail
  go_ret
  exact ⟨rfl, hb1⟩
set_option maxHeartbeats 800000 in
theorem announce_nil (i : Int) (w : World) : Calls Try.prog 23 #[.pointer none, .int .i64 i] w fun e w' => e = .returned (.int .i64 (-1)) ∧ Below w.heap.size w w' := by
  go_enter Try.func23, Try.ntmps23
  go_wp2_with fail
  refine (at_nil _ i _).mono ?_
  rintro e w1 ⟨rfl, hb1⟩
  go_wp2_with fail
  go_ret
  exact ⟨rfl, hb1⟩
set_option maxHeartbeats 800000 in
theorem announce_zero (o : Nat) (i : Int) (w : World) (h : NoMem w o) : Calls Try.prog 23 #[.pointer (some ⟨o, 0, none⟩), .int .i64 i] w fun e w' => e = .returned (.int .i64 (-1)) ∧ Below w.heap.size w w' := by
  go_enter Try.func23, Try.ntmps23
  go_wp2_with fail
  refine (at_zero _ _ i _ h).mono ?_
  rintro e w1 ⟨rfl, hb1⟩
  go_wp2_with fail
  go_ret
  exact ⟨rfl, hb1⟩
set_option maxHeartbeats 800000 in
theorem done_any {o oc g gb gr A T : Nat} {L : List (Int × Int)} {bs rs : List (List Value)} (i : Int) (w : World) (h : MemAt w o oc g gb gr A T L bs rs) (i0 : -9223372036854775808 ≤ i) (i1 : i ≤ 9223372036854775807) :
    Calls Try.prog 24 #[.pointer (some ⟨o, 0, none⟩), .int .i64 i] w fun e w' => e = .returned (.int .i64 (atI A T 3 i)) ∧ Below w.heap.size w w' := by
  go_enter Try.func24, Try.ntmps24
  go_wp2_with fail
  refine (at_3 i _ h i0 i1).mono ?_
  rintro e w1 ⟨rfl, hb1⟩
  go_wp2_with fail
  go_ret
  exact ⟨rfl, hb1⟩
set_option maxHeartbeats 800000 in
theorem done_nil (i : Int) (w : World) : Calls Try.prog 24 #[.pointer none, .int .i64 i] w fun e w' => e = .returned (.int .i64 (-1)) ∧ Below w.heap.size w w' := by
  go_enter Try.func24, Try.ntmps24
  go_wp2_with fail
  refine (at_nil _ i _).mono ?_
  rintro e w1 ⟨rfl, hb1⟩
  go_wp2_with fail
  go_ret
  exact ⟨rfl, hb1⟩
set_option maxHeartbeats 800000 in
theorem done_zero (o : Nat) (i : Int) (w : World) (h : NoMem w o) : Calls Try.prog 24 #[.pointer (some ⟨o, 0, none⟩), .int .i64 i] w fun e w' => e = .returned (.int .i64 (-1)) ∧ Below w.heap.size w w' := by
  go_enter Try.func24, Try.ntmps24
  go_wp2_with fail
  refine (at_zero _ _ i _ h).mono ?_
  rintro e w1 ⟨rfl, hb1⟩
  go_wp2_with fail
  go_ret
  exact ⟨rfl, hb1⟩
set_option maxHeartbeats 800000 in
theorem phase_any {o oc g gb gr A T : Nat} {L : List (Int × Int)} {bs rs : List (List Value)} (i : Int) (w : World) (h : MemAt w o oc g gb gr A T L bs rs) (i0 : -9223372036854775808 ≤ i) (i1 : i ≤ 9223372036854775807) :
    Calls Try.prog 25 #[.pointer (some ⟨o, 0, none⟩), .int .i64 i] w fun e w' => e = .returned (.int .i64 (atI A T 4 i)) ∧ Below w.heap.size w w' := by
  go_enter Try.func25, Try.ntmps25
  go_wp2_with fail
  refine (at_4 i _ h i0 i1).mono ?_
  rintro e w1 ⟨rfl, hb1⟩
  go_wp2_with fail
  go_ret
  exact ⟨rfl, hb1⟩
set_option maxHeartbeats 800000 in
theorem phase_nil (i : Int) (w : World) : Calls Try.prog 25 #[.pointer none, .int .i64 i] w fun e w' => e = .returned (.int .i64 (-1)) ∧ Below w.heap.size w w' := by
  go_enter Try.func25, Try.ntmps25
  go_wp2_with fail
  refine (at_nil _ i _).mono ?_
  rintro e w1 ⟨rfl, hb1⟩
  go_wp2_with fail
  go_ret
  exact ⟨rfl, hb1⟩
set_option maxHeartbeats 800000 in
theorem phase_zero (o : Nat) (i : Int) (w : World) (h : NoMem w o) : Calls Try.prog 25 #[.pointer (some ⟨o, 0, none⟩), .int .i64 i] w fun e w' => e = .returned (.int .i64 (-1)) ∧ Below w.heap.size w w' := by
  go_enter Try.func25, Try.ntmps25
  go_wp2_with fail
  refine (at_zero _ _ i _ h).mono ?_
  rintro e w1 ⟨rfl, hb1⟩
  go_wp2_with fail
  go_ret
  exact ⟨rfl, hb1⟩
/-- the gate's cell -/
def gateI (A T : Nat) : Int := 2 * A + 5 * T
theorem gate_at (A T : Nat) : atI A T 6 0 = gateI A T := by
  rw [atI_yes (by omega) (by simp [sizeI])]; simp [fromI, gateI]
set_option maxHeartbeats 800000 in
theorem gate_any {o oc g gb gr A T : Nat} {L : List (Int × Int)} {bs rs : List (List Value)} (w : World) (h : MemAt w o oc g gb gr A T L bs rs) :
    Calls Try.prog 18 #[.pointer (some ⟨o, 0, none⟩)] w fun e w' => e = .returned (.int .i64 (gateI A T)) ∧ Below w.heap.size w w' := by
  have hg := gate_at A T
  have ha := at_6 0 w h (by omega) (by omega)
  rw [hg] at ha
  clear hg
  go_enter Try.func18, Try.ntmps18
  go_wp2_with fail
  refine ha.mono ?_
  rintro e w1 ⟨rfl, hb1⟩
  go_wp2_with fail
  go_ret
  exact ⟨rfl, hb1⟩
set_option maxHeartbeats 800000 in
theorem gate_nil (w : World) : Calls Try.prog 18 #[.pointer none] w fun e w' => e = .returned (.int .i64 (-1)) ∧ Below w.heap.size w w' := by
  go_enter Try.func18, Try.ntmps18
  go_wp2_with fail
  refine (at_nil _ _ _).mono ?_
  rintro e w1 ⟨rfl, hb1⟩
  go_wp2_with fail
  go_ret
  exact ⟨rfl, hb1⟩
set_option maxHeartbeats 800000 in
theorem gate_zero (o : Nat) (w : World) (h : NoMem w o) : Calls Try.prog 18 #[.pointer (some ⟨o, 0, none⟩)] w fun e w' => e = .returned (.int .i64 (-1)) ∧ Below w.heap.size w w' := by
  go_enter Try.func18, Try.ntmps18
  go_wp2_with fail
  refine (at_zero _ _ _ _ h).mono ?_
  rintro e w1 ⟨rfl, hb1⟩
  go_wp2_with fail
  go_ret
  exact ⟨rfl, hb1⟩
set_option maxHeartbeats 800000 in
theorem arena_any {o oc g gb gr A T : Nat} {L : List (Int × Int)} {bs rs : List (List Value)} (w : World) (h : MemAt w o oc g gb gr A T L bs rs) :
    Calls Try.prog 16 #[.pointer (some ⟨o, 0, none⟩)] w fun e w' => e = .returned (.int .i64 A) ∧ w = w' := by
  have c0 : w.cell? ⟨o, 9, none⟩ = some (.slice (some ⟨gb, 0, none⟩) A A) := h.head.at 9 rfl
  go_enter Try.func16, Try.ntmps16
  go_wp2_with fail
  refine (none_any _ h).mono ?_
  rintro e w1 ⟨rfl, rfl⟩
  go_wp2_with fail
  go_ret
  exact ⟨rfl, rfl⟩
set_option maxHeartbeats 800000 in
theorem arena_nil (w : World) : Calls Try.prog 16 #[.pointer none] w fun e w' => e = .returned (.int .i64 0) ∧ w = w' := by
  go_enter Try.func16, Try.ntmps16
  go_wp2_with fail
  refine (none_nil _).mono ?_
  rintro e w1 ⟨rfl, rfl⟩
  go_wp2_with fail
  go_ret
  exact ⟨rfl, rfl⟩
set_option maxHeartbeats 800000 in
theorem arena_zero (o : Nat) (w : World) (h : NoMem w o) : Calls Try.prog 16 #[.pointer (some ⟨o, 0, none⟩)] w fun e w' => e = .returned (.int .i64 0) ∧ w = w' := by
  go_enter Try.func16, Try.ntmps16
  go_wp2_with fail
  refine (none_zero _ _ h).mono ?_
  rintro e w1 ⟨rfl, rfl⟩
  go_wp2_with fail
  go_ret
  exact ⟨rfl, rfl⟩
set_option maxHeartbeats 800000 in
theorem threads_any {o oc g gb gr A T : Nat} {L : List (Int × Int)} {bs rs : List (List Value)} (w : World) (h : MemAt w o oc g gb gr A T L bs rs) :
    Calls Try.prog 17 #[.pointer (some ⟨o, 0, none⟩)] w fun e w' => e = .returned (.int .i64 T) ∧ w = w' := by
  have c0 : w.cell? ⟨o, 10, none⟩ = some (.slice (some ⟨gr, 0, none⟩) T T) := h.head.at 10 rfl
  go_enter Try.func17, Try.ntmps17
  go_wp2_with fail
  refine (none_any _ h).mono ?_
  rintro e w1 ⟨rfl, rfl⟩
  go_wp2_with fail
  go_ret
  exact ⟨rfl, rfl⟩
set_option maxHeartbeats 800000 in
theorem threads_nil (w : World) : Calls Try.prog 17 #[.pointer none] w fun e w' => e = .returned (.int .i64 0) ∧ w = w' := by
  go_enter Try.func17, Try.ntmps17
  go_wp2_with fail
  refine (none_nil _).mono ?_
  rintro e w1 ⟨rfl, rfl⟩
  go_wp2_with fail
  go_ret
  exact ⟨rfl, rfl⟩
set_option maxHeartbeats 800000 in
theorem threads_zero (o : Nat) (w : World) (h : NoMem w o) : Calls Try.prog 17 #[.pointer (some ⟨o, 0, none⟩)] w fun e w' => e = .returned (.int .i64 0) ∧ w = w' := by
  go_enter Try.func17, Try.ntmps17
  go_wp2_with fail
  refine (none_zero _ _ h).mono ?_
  rintro e w1 ⟨rfl, rfl⟩
  go_wp2_with fail
  go_ret
  exact ⟨rfl, rfl⟩
set_option maxHeartbeats 800000 in
theorem mlen_any {o oc g gb gr A T : Nat} {L : List (Int × Int)} {bs rs : List (List Value)} (w : World) (h : MemAt w o oc g gb gr A T L bs rs) :
    Calls Try.prog 15 #[.pointer (some ⟨o, 0, none⟩)] w fun e w' => e = .returned (.int .i64 L.length) ∧ w = w' := by
  have c0 := h.ptr
  go_enter Try.func15, Try.ntmps15
  go_wp2_with fail
  refine (none_any _ h).mono ?_
  rintro e w1 ⟨rfl, rfl⟩
  go_wp2_with fail
  refine (len_any _ _ _ _ h.cells).mono ?_
  rintro e w1 ⟨rfl, rfl⟩
  go_wp2_with fail
  go_ret
  exact ⟨rfl, rfl⟩
set_option maxHeartbeats 800000 in
theorem mlen_nil (w : World) : Calls Try.prog 15 #[.pointer none] w fun e w' => e = .returned (.int .i64 0) ∧ w = w' := by
  go_enter Try.func15, Try.ntmps15
  go_wp2_with fail
  refine (none_nil _).mono ?_
  rintro e w1 ⟨rfl, rfl⟩
  go_wp2_with fail
  go_ret
  exact ⟨rfl, rfl⟩
set_option maxHeartbeats 800000 in
theorem mlen_zero (o : Nat) (w : World) (h : NoMem w o) : Calls Try.prog 15 #[.pointer (some ⟨o, 0, none⟩)] w fun e w' => e = .returned (.int .i64 0) ∧ w = w' := by
  go_enter Try.func15, Try.ntmps15
  go_wp2_with fail
  refine (none_zero _ _ h).mono ?_
  rintro e w1 ⟨rfl, rfl⟩
  go_wp2_with fail
  go_ret
  exact ⟨rfl, rfl⟩
set_option maxHeartbeats 800000 in
theorem mload_any {o oc g gb gr A T : Nat} {L : List (Int × Int)} {bs rs : List (List Value)} (i : Int) (w : World) (h : MemAt w o oc g gb gr A T L bs rs) :
    Calls Try.prog 14 #[.pointer (some ⟨o, 0, none⟩), .int .i64 i] w fun e w' => e = .returned (.tuple #[.int .u64 (loadW L i), .int .u64 (loadV L i), .bool (inB L.length i)]) ∧ Below w.heap.size w w' := by
  have c0 := h.ptr
  go_enter Try.func14, Try.ntmps14
  go_wp2_with fail
  refine (none_any _ h).mono ?_
  rintro e w1 ⟨rfl, rfl⟩
  go_wp2_with fail
  refine (load_any _ _ _ _ _ h.cells).mono ?_
  rintro e w1 ⟨rfl, hb1⟩
  go_wp2_with fail
  go_ret3
  exact ⟨rfl, hb1⟩
set_option maxHeartbeats 800000 in
theorem mload_nil (i : Int) (w : World) : Calls Try.prog 14 #[.pointer none, .int .i64 i] w fun e w' => e = .returned (.tuple #[.int .u64 0, .int .u64 0, .bool false]) ∧ w = w' := by
  go_enter Try.func14, Try.ntmps14
  go_wp2_with fail
  refine (none_nil _).mono ?_
  rintro e w1 ⟨rfl, rfl⟩
  go_wp2_with fail
  go_ret3
  exact ⟨rfl, rfl⟩
set_option maxHeartbeats 800000 in
theorem mload_zero (o : Nat) (i : Int) (w : World) (h : NoMem w o) : Calls Try.prog 14 #[.pointer (some ⟨o, 0, none⟩), .int .i64 i] w fun e w' => e = .returned (.tuple #[.int .u64 0, .int .u64 0, .bool false]) ∧ w = w' := by
  go_enter Try.func14, Try.ntmps14
  go_wp2_with fail
  refine (none_zero _ _ h).mono ?_
  rintro e w1 ⟨rfl, rfl⟩
  go_wp2_with fail
  go_ret3
  exact ⟨rfl, rfl⟩
/-- a hazard's cell -/
def hazI (A T : Nat) (t k : Int) : Int := if 0 ≤ k ∧ k < 2 ∧ 0 ≤ t ∧ t < T then 2 * A + 3 * T + (2 * t + k) else -1
theorem hazI_no {A T : Nat} {t k : Int} (h : ¬ (0 ≤ k ∧ k < 2 ∧ 0 ≤ t ∧ t < T)) : hazI A T t k = -1 := if_neg h
theorem hazI_yes {A T : Nat} {t k : Int} (h : 0 ≤ k ∧ k < 2 ∧ 0 ≤ t ∧ t < T) : atI A T 5 (t * 2 + k) = hazI A T t k := by
  unfold hazI
  rw [if_pos h, atI_yes (by omega) (by simp [sizeI]; omega)]
  simp [fromI]; omega
set_option maxHeartbeats 1600000 in
theorem haz_any {o oc g gb gr A T : Nat} {L : List (Int × Int)} {bs rs : List (List Value)} (t k : Int) (w : World) (h : MemAt w o oc g gb gr A T L bs rs) :
    Calls Try.prog 19 #[.pointer (some ⟨o, 0, none⟩), .int .i64 t, .int .i64 k] w fun e w' => e = .returned (.int .i64 (hazI A T t k)) ∧ Below w.heap.size w w' := by
  have hT := h.t1
  by_cases h1 : k < 0
  · have q1 : decide (k < 0) = true := by simpa using h1
    have hR : Hid (hazI A T t k = -1) := hazI_no (by omega)
    clear h1
    go_enter Try.func19, Try.ntmps19
    go_wp2_with fail
    go_ret
    exact ⟨ret_int hR.out.symm, Below.refl _ _⟩
  have q1 : decide (k < 0) = false := by simpa using h1
  by_cases h2 : 2 ≤ k
  · have q2 : decide (2 ≤ k) = true := by simpa using h2
    have hR : Hid (hazI A T t k = -1) := hazI_no (by omega)
    clear h1 h2
    go_enter Try.func19, Try.ntmps19
    go_wp2_with fail
    go_ret
    exact ⟨ret_int hR.out.symm, Below.refl _ _⟩
  have q2 : decide (2 ≤ k) = false := by simpa using h2
  by_cases h3 : t < 0
  · have q3 : decide (t < 0) = true := by simpa using h3
    have hR : Hid (hazI A T t k = -1) := hazI_no (by omega)
    clear h1 h2 h3
    go_enter Try.func19, Try.ntmps19
    go_wp2_with fail
    go_ret
    exact ⟨ret_int hR.out.symm, Below.refl _ _⟩
  have q3 : decide (t < 0) = false := by simpa using h3
  by_cases h4 : (T : Int) ≤ t
  · have q4 : decide ((T : Int) ≤ t) = true := by simpa using h4
    have hR : Hid (hazI A T t k = -1) := hazI_no (by omega)
    clear h1 h2 h3 h4
    go_enter Try.func19, Try.ntmps19
    go_wp2_with fail
    refine (threads_any _ h).mono ?_
    rintro e w1 ⟨rfl, rfl⟩
    go_wp2_with fail
    go_ret
    exact ⟨ret_int hR.out.symm, Below.refl _ _⟩
  have q4 : decide ((T : Int) ≤ t) = false := by simpa using h4
  have hy := hazI_yes (A := A) (show 0 ≤ k ∧ k < 2 ∧ 0 ≤ t ∧ t < (T : Int) by omega)
  have ha := at_5 (t * 2 + k) w h (by omega) (by omega)
  rw [hy] at ha
  have hw1 : IntKind.i64.wrap (t * 2) = t * 2 := by rw [IntKind.wrap_i64]; omega
  have hw2 : IntKind.i64.wrap (t * 2 + k) = t * 2 + k := by rw [IntKind.wrap_i64]; omega
  have hb1 : -9223372036854775808 ≤ t * 2 ∧ t * 2 ≤ 9223372036854775807 := by omega
  have hb2 : -9223372036854775808 ≤ t * 2 + k ∧ t * 2 + k ≤ 9223372036854775807 := by omega
  clear h1 h2 h3 h4 hy
  go_enter Try.func19, Try.ntmps19
  go_wp2_with fail
  refine (threads_any _ h).mono ?_
  rintro e w1 ⟨rfl, rfl⟩
  go_wp2_with fail
  refine ha.mono ?_
  rintro e w1 ⟨rfl, hb1⟩
  go_wp2_with fail
  go_ret
  exact ⟨rfl, hb1⟩
end Go.Proofs.Ytpempcefgfmniaa.MemP

/-
  Accesses of cells: contracts of clear, write and Do (load, store, write by version).
-/
namespace Go.Proofs.Ytpempcefgfmniaa.MemP
open Go.RowKit RefP CellP
set_option linter.unusedVariables false
set_option linter.unusedSimpArgs false

/-- blocks behind a write of a use's cell -/
def clearL (bs : List (List Value)) (A : Nat) (c : Int) : List (List Value) := if (A : Int) ≤ c ∧ c < 2 * A then bs.set (c - A).toNat zb else bs
theorem clearL_no {bs : List (List Value)} {A : Nat} {c : Int} (h : ¬ ((A : Int) ≤ c ∧ c < 2 * A)) : clearL bs A c = bs := if_neg h
theorem clearL_yes {bs : List (List Value)} {A : Nat} {c : Int} (h : (A : Int) ≤ c ∧ c < 2 * A) : clearL bs A c = bs.set (c - A).toNat zb := if_pos h
theorem clearL_length (bs : List (List Value)) (A : Nat) (c : Int) : (clearL bs A c).length = bs.length := by unfold clearL; split <;> simp
theorem MemAt.cleared {w : World} {o oc g gb gr A T : Nat} {L : List (Int × Int)} {bs rs : List (List Value)} (h : MemAt w o oc g gb gr A T L bs rs) (k : Nat) (hk : k < A) :
    MemAt (put17 w gb k (.int .i64 0) (.int .i64 0) (.string ⟨#[]⟩) (.string ⟨#[]⟩) (.bool false) (.int .i64 0) (.slice none 0 0) (.slice none 0 0) (.slice none 0 0) (.int .i64 0) (.int .i64 0) (.string ⟨#[]⟩) (.int .u64 0) (.slice none 0 0) (.slice none 0 0) (.slice none 0 0) (.slice none 0 0)) o oc g gb gr A T L (bs.set k zb) rs ∧
    Fr [gb] w (put17 w gb k (.int .i64 0) (.int .i64 0) (.string ⟨#[]⟩) (.string ⟨#[]⟩) (.bool false) (.int .i64 0) (.slice none 0 0) (.slice none 0 0) (.slice none 0 0) (.int .i64 0) (.int .i64 0) (.string ⟨#[]⟩) (.int .u64 0) (.slice none 0 0) (.slice none 0 0) (.slice none 0 0) (.slice none 0 0)) := by
  have hB := blk_put17 h.blocks k (by rw [h.lb]; exact hk) (.int .i64 0) (.int .i64 0) (.string ⟨#[]⟩) (.string ⟨#[]⟩) (.bool false) (.int .i64 0) (.slice none 0 0) (.slice none 0 0) (.slice none 0 0) (.int .i64 0) (.int .i64 0) (.string ⟨#[]⟩) (.int .u64 0) (.slice none 0 0) (.slice none 0 0) (.slice none 0 0) (.slice none 0 0)
  have hF := fr_put17 w gb k (.int .i64 0) (.int .i64 0) (.string ⟨#[]⟩) (.string ⟨#[]⟩) (.bool false) (.int .i64 0) (.slice none 0 0) (.slice none 0 0) (.slice none 0 0) (.int .i64 0) (.int .i64 0) (.string ⟨#[]⟩) (.int .u64 0) (.slice none 0 0) (.slice none 0 0) (.slice none 0 0) (.slice none 0 0)
  have n := h.ne
  refine ⟨⟨hF.blk h.head (by simp; omega), ⟨hF.blk h.cells.head (by simp; omega), hF.blk h.cells.rows (by simp; omega), h.cells.ne, h.cells.rng, h.cells.len⟩, hB, hF.blk h.records (by simp; omega), h.len, by simpa using h.lb, h.lr, h.a1, h.t1, h.ne⟩, hF⟩
set_option maxRecDepth 100000 in
set_option maxHeartbeats 3200000 in
theorem clear_any {o oc g gb gr A T : Nat} {L : List (Int × Int)} {bs rs : List (List Value)} (c : Int) (w : World) (h : MemAt w o oc g gb gr A T L bs rs) (c0 : 0 ≤ c) (c1 : c ≤ 20000) :
    Calls Try.prog 69 #[.pointer (some ⟨o, 0, none⟩), .int .i64 c] w fun e w' => e = .returned (.tuple #[]) ∧ MemAt w' o oc g gb gr A T L (clearL bs A c) rs ∧ Fr [gb] w w' := by
  have hA := h.a1
  have d2 : w.cell? ⟨o, 2, none⟩ = some (.int .i64 A) := h.head.at 2 rfl
  have d9 : w.cell? ⟨o, 9, none⟩ = some (.slice (some ⟨gb, 0, none⟩) A A) := h.head.at 9 rfl
  obtain ⟨d, hd⟩ : ∃ d, d = c - (A : Int) := ⟨_, rfl⟩
  have hw : IntKind.i64.wrap (c - (A : Int)) = d := by rw [IntKind.wrap_i64]; omega
  by_cases h1 : d < 0
  · have q1 : decide (0 ≤ d) = false := by simp; omega
    have hL := clearL_no (bs := bs) (show ¬ ((A : Int) ≤ c ∧ c < 2 * A) by omega)
    clear h1 hd
    go_enter Try.func69, Try.ntmps69
    go_wp2_with fail
    go_end0
    exact ⟨rfl, by rw [hL]; exact h, Fr.refl _ _⟩
  · have q1 : decide (0 ≤ d) = true := by simp; omega
    by_cases h2 : d < A
    · have q2 : decide (d < (A : Int)) = true := by simpa using h2
      have hL := clearL_yes (bs := bs) (show (A : Int) ≤ c ∧ c < 2 * A by omega)
      obtain ⟨k, hk⟩ := Int.eq_ofNat_of_zero_le (show 0 ≤ d by omega)
      have hkA : k < A := by omega
      have hkA' : (k : Int) < (A : Int) := by omega
      rw [← hd, hk, Int.toNat_natCast] at hL
      subst hk
      obtain ⟨hM, hF⟩ := h.cleared k hkA
      have hkl : k < bs.length := by rw [h.lb]; exact hkA
      have hB := h.blocks
      have e0 := hB.at (k * 17) (raw_at _ k 0 hkl (by omega))
      have f0 := hB.free (k * 17)
      have e1 := hB.at (k * 17 + 1) (raw_at _ k 1 hkl (by omega))
      have f1 := hB.free (k * 17 + 1)
      have e2 := hB.at (k * 17 + 2) (raw_at _ k 2 hkl (by omega))
      have f2 := hB.free (k * 17 + 2)
      have e3 := hB.at (k * 17 + 3) (raw_at _ k 3 hkl (by omega))
      have f3 := hB.free (k * 17 + 3)
      have e4 := hB.at (k * 17 + 4) (raw_at _ k 4 hkl (by omega))
      have f4 := hB.free (k * 17 + 4)
      have e5 := hB.at (k * 17 + 5) (raw_at _ k 5 hkl (by omega))
      have f5 := hB.free (k * 17 + 5)
      have e6 := hB.at (k * 17 + 6) (raw_at _ k 6 hkl (by omega))
      have f6 := hB.free (k * 17 + 6)
      have e7 := hB.at (k * 17 + 7) (raw_at _ k 7 hkl (by omega))
      have f7 := hB.free (k * 17 + 7)
      have e8 := hB.at (k * 17 + 8) (raw_at _ k 8 hkl (by omega))
      have f8 := hB.free (k * 17 + 8)
      have e9 := hB.at (k * 17 + 9) (raw_at _ k 9 hkl (by omega))
      have f9 := hB.free (k * 17 + 9)
      have e10 := hB.at (k * 17 + 10) (raw_at _ k 10 hkl (by omega))
      have f10 := hB.free (k * 17 + 10)
      have e11 := hB.at (k * 17 + 11) (raw_at _ k 11 hkl (by omega))
      have f11 := hB.free (k * 17 + 11)
      have e12 := hB.at (k * 17 + 12) (raw_at _ k 12 hkl (by omega))
      have f12 := hB.free (k * 17 + 12)
      have e13 := hB.at (k * 17 + 13) (raw_at _ k 13 hkl (by omega))
      have f13 := hB.free (k * 17 + 13)
      have e14 := hB.at (k * 17 + 14) (raw_at _ k 14 hkl (by omega))
      have f14 := hB.free (k * 17 + 14)
      have e15 := hB.at (k * 17 + 15) (raw_at _ k 15 hkl (by omega))
      have f15 := hB.free (k * 17 + 15)
      have e16 := hB.at (k * 17 + 16) (raw_at _ k 16 hkl (by omega))
      have f16 := hB.free (k * 17 + 16)
      clear h1 h2 hd
      go_enter Try.func69, Try.ntmps69
      go_wp2_with fail
      go_end0
      exact ⟨rfl, by rw [hL]; exact hM, hF⟩
    · have q2 : decide (d < (A : Int)) = false := by simpa using h2
      have hL := clearL_no (bs := bs) (show ¬ ((A : Int) ≤ c ∧ c < 2 * A) by omega)
      clear h1 h2 hd
      go_enter Try.func69, Try.ntmps69
      go_wp2_with fail
      go_end0
      exact ⟨rfl, by rw [hL]; exact h, Fr.refl _ _⟩
theorem MemAt.celled {w w' : World} {o oc g gb gr A T : Nat} {L L' : List (Int × Int)} {bs rs : List (List Value)} (h : MemAt w o oc g gb gr A T L bs rs) (hg : w.grownBy w' (some g)) (hC : CellsAt w' oc g L') (hl : L'.length = L.length) : MemAt w' o oc g gb gr A T L' bs rs := by
  have n := h.ne
  have hF : Fr [g] w w' := Fr.of_grown hg (by simp)
  exact ⟨hF.blk h.head (by simp; omega), hC, hF.blk h.blocks (by simp; omega), hF.blk h.records (by simp; omega), by rw [hl]; exact h.len, h.lb, h.lr, h.a1, h.t1, h.ne⟩
def storeB (L : List (Int × Int)) (bs : List (List Value)) (A : Nat) (i : Int) : List (List Value) := if inB L.length i = true then clearL bs A i else bs
def casBs (L : List (Int × Int)) (bs : List (List Value)) (A : Nat) (i ver : Int) : List (List Value) := if casB L i ver = true then clearL bs A i else bs
theorem storeB_yes {L : List (Int × Int)} (bs : List (List Value)) (A : Nat) {i : Int} (h : inB L.length i = true) : storeB L bs A i = clearL bs A i := if_pos h
theorem storeB_no {L : List (Int × Int)} (bs : List (List Value)) (A : Nat) {i : Int} (h : inB L.length i = false) : storeB L bs A i = bs := if_neg (by simp [h])
theorem casBs_yes {L : List (Int × Int)} (bs : List (List Value)) (A : Nat) {i ver : Int} (h : casB L i ver = true) : casBs L bs A i ver = clearL bs A i := if_pos h
theorem casBs_no {L : List (Int × Int)} (bs : List (List Value)) (A : Nat) {i ver : Int} (h : casB L i ver = false) : casBs L bs A i ver = bs := if_neg (by simp [h])
theorem casB_in {L : List (Int × Int)} {i ver : Int} (h : casB L i ver = true) : inB L.length i = true := by
  simp only [casB, Bool.and_eq_true] at h; exact h.1
theorem fr_two {g gb : Nat} {w w1 w2 : World} (h : w.grownBy w1 (some g)) (k : Fr [gb] w1 w2) : Fr [g, gb] w w2 :=
  ((Fr.of_grown (S := [g]) h (by simp)).more (by simp)).trans (k.more (by simp))
theorem MemAt.off {w w' : World} {S : List Nat} {o oc g gb gr A T : Nat} {L : List (Int × Int)} {bs rs : List (List Value)} (h : MemAt w o oc g gb gr A T L bs rs) (F : Fr S w w') (hn : o ∉ S ∧ oc ∉ S ∧ g ∉ S ∧ gb ∉ S ∧ gr ∉ S) : MemAt w' o oc g gb gr A T L bs rs :=
  ⟨F.blk h.head hn.1, ⟨F.blk h.cells.head hn.2.1, F.blk h.cells.rows hn.2.2.1, h.cells.ne, h.cells.rng, h.cells.len⟩, F.blk h.blocks hn.2.2.2.1, F.blk h.records hn.2.2.2.2, h.len, h.lb, h.lr, h.a1, h.t1, h.ne⟩
theorem Blk.row {w : World} {b : Nat} {cs : Array Value} {T : TypeId} (k : Blk w b cs T) (cs' : Array Value) : Blk (w.setRow b cs') b cs' T := by
  have hlt := k.lt
  have h' : w.heap[b] = .cells cs T (0, 0) := by simpa [Array.getElem?_eq_getElem hlt] using k.h
  refine ⟨?_⟩
  show (w.heap.modify b _)[b]? = _
  rw [Array.getElem?_eq_getElem (by simpa using hlt), Array.getElem_modify_self, h']
theorem Fr.row {S : List Nat} {w : World} (b : Nat) (cs' : Array Value) (hb : b ∈ S) : Fr S w (w.setRow b cs') := by
  have h := below_setRow (Below.refl b w) (Nat.le_refl _) cs'
  refine ⟨h.os, h.tape, h.output, h.size, fun k hk hn => ?_⟩
  have hne : k ≠ b := fun e => hn (e ▸ hb)
  show (w.heap.modify b _)[k]? = _
  rw [Array.getElem?_modify, if_neg (fun e => hne e.symm)]
/-- blocks that were not there do not count -/
theorem Fr.less {w w' : World} {g gb : Nat} (h : Fr [g, gb, w.heap.size + 1] w w') : Fr [g, gb] w w' :=
  ⟨h.os, h.tape, h.output, h.size, fun b hb hn => h.block b hb (by simp at hn ⊢; omega)⟩
set_option maxRecDepth 100000 in
set_option maxHeartbeats 6400000 in
theorem write_store {o oc g gb gr A T : Nat} {L : List (Int × Int)} {bs rs : List (List Value)} (i ver word : Int) (c4 c5 c6 c7 c8 c9 c10 c11 c12 c13 c14 c15 c16 c17 c18 c19 c20 c21 c22 c23 c24 c25 : Value) (w : World) (h : MemAt w o oc g gb gr A T L bs rs) (x0 : 0 ≤ word) (x1 : word ≤ 18446744073709551615) :
    Calls Try.prog 47 #[.pointer (some ⟨o, 0, none⟩), .agg #[.int .i64 2, .int .i64 i, .int .u64 ver, .int .u64 word, c4, c5, c6, c7, c8, c9, c10, c11, c12, c13, c14, c15, c16, c17, c18, c19, c20, c21, c22, c23, c24, c25]] w fun e w' => e = .returned (.agg #[.bool (inB L.length i), .int .u64 0, .int .u64 0, .int .i64 0, .int .i64 0, .string ⟨#[]⟩, .string ⟨#[]⟩, .bool false, .int .i64 0, .slice none 0 0, .slice none 0 0, .slice none 0 0, .int .i64 0, .int .i64 0, .string ⟨#[]⟩, .int .u64 0, .slice none 0 0, .slice none 0 0, .slice none 0 0, .slice none 0 0, .int .i64 0, .string ⟨#[]⟩, .string ⟨#[]⟩, .int .u64 0, .int .i64 0]) ∧ MemAt w' o oc g gb gr A T (storeL L i word) (storeB L bs A i) rs ∧ Fr [g, gb] w w' := by
  have hb2 : Below w.heap.size w ((w.alloc (.cells #[.int .i64 2, .int .i64 i, .int .u64 ver, .int .u64 word, c4, c5, c6, c7, c8, c9, c10, c11, c12, c13, c14, c15, c16, c17, c18, c19, c20, c21, c22, c23, c24, c25] 39)).alloc (.cells #[.bool false, .int .u64 0, .int .u64 0, .int .i64 0, .int .i64 0, .string ⟨#[]⟩, .string ⟨#[]⟩, .bool false, .int .i64 0, .slice none 0 0, .slice none 0 0, .slice none 0 0, .int .i64 0, .int .i64 0, .string ⟨#[]⟩, .int .u64 0, .slice none 0 0, .slice none 0 0, .slice none 0 0, .slice none 0 0, .int .i64 0, .string ⟨#[]⟩, .string ⟨#[]⟩, .int .u64 0, .int .i64 0] 50)) := by (repeat (first | exact Below.refl _ _ | assumption | refine below_alloc2 ?_ (by first | exact Nat.le_refl _ | omega) _ | refine Below.drew ?_ | refine below_drewN ?_ _ | refine below_push2 ?_ ‹_› (by first | exact Nat.le_refl _ | omega) | refine Below.setCell ?_ (by first | (simp; done) | (simp; omega) | omega) _))
  have h2 := h.below hb2
  have BX := (Blk.new w #[.int .i64 2, .int .i64 i, .int .u64 ver, .int .u64 word, c4, c5, c6, c7, c8, c9, c10, c11, c12, c13, c14, c15, c16, c17, c18, c19, c20, c21, c22, c23, c24, c25] 39).alloc (.cells #[.bool false, .int .u64 0, .int .u64 0, .int .i64 0, .int .i64 0, .string ⟨#[]⟩, .string ⟨#[]⟩, .bool false, .int .i64 0, .slice none 0 0, .slice none 0 0, .slice none 0 0, .int .i64 0, .int .i64 0, .string ⟨#[]⟩, .int .u64 0, .slice none 0 0, .slice none 0 0, .slice none 0 0, .slice none 0 0, .int .i64 0, .string ⟨#[]⟩, .string ⟨#[]⟩, .int .u64 0, .int .i64 0] 50)
  have BR : Blk ((w.alloc (.cells #[.int .i64 2, .int .i64 i, .int .u64 ver, .int .u64 word, c4, c5, c6, c7, c8, c9, c10, c11, c12, c13, c14, c15, c16, c17, c18, c19, c20, c21, c22, c23, c24, c25] 39)).alloc (.cells #[.bool false, .int .u64 0, .int .u64 0, .int .i64 0, .int .i64 0, .string ⟨#[]⟩, .string ⟨#[]⟩, .bool false, .int .i64 0, .slice none 0 0, .slice none 0 0, .slice none 0 0, .int .i64 0, .int .i64 0, .string ⟨#[]⟩, .int .u64 0, .slice none 0 0, .slice none 0 0, .slice none 0 0, .slice none 0 0, .int .i64 0, .string ⟨#[]⟩, .string ⟨#[]⟩, .int .u64 0, .int .i64 0] 50)) (w.heap.size + 1) #[.bool false, .int .u64 0, .int .u64 0, .int .i64 0, .int .i64 0, .string ⟨#[]⟩, .string ⟨#[]⟩, .bool false, .int .i64 0, .slice none 0 0, .slice none 0 0, .slice none 0 0, .int .i64 0, .int .i64 0, .string ⟨#[]⟩, .int .u64 0, .slice none 0 0, .slice none 0 0, .slice none 0 0, .slice none 0 0, .int .i64 0, .string ⟨#[]⟩, .string ⟨#[]⟩, .int .u64 0, .int .i64 0] 50 := by
    have := Blk.new (w.alloc (.cells #[.int .i64 2, .int .i64 i, .int .u64 ver, .int .u64 word, c4, c5, c6, c7, c8, c9, c10, c11, c12, c13, c14, c15, c16, c17, c18, c19, c20, c21, c22, c23, c24, c25] 39)) #[.bool false, .int .u64 0, .int .u64 0, .int .i64 0, .int .i64 0, .string ⟨#[]⟩, .string ⟨#[]⟩, .bool false, .int .i64 0, .slice none 0 0, .slice none 0 0, .slice none 0 0, .int .i64 0, .int .i64 0, .string ⟨#[]⟩, .int .u64 0, .slice none 0 0, .slice none 0 0, .slice none 0 0, .slice none 0 0, .int .i64 0, .string ⟨#[]⟩, .string ⟨#[]⟩, .int .u64 0, .int .i64 0] 50
    simpa using this
  have hgl := h.cells.rows.lt
  have hgbl := h.blocks.lt
  have hol := h.head.lt
  have hocl := h.cells.head.lt
  have hgrl := h.records.lt
  have hin := h.len
  have hA := h.a1
  have hT := h.t1
  generalize hW : ((w.alloc (.cells #[.int .i64 2, .int .i64 i, .int .u64 ver, .int .u64 word, c4, c5, c6, c7, c8, c9, c10, c11, c12, c13, c14, c15, c16, c17, c18, c19, c20, c21, c22, c23, c24, c25] 39)).alloc (.cells #[.bool false, .int .u64 0, .int .u64 0, .int .i64 0, .int .i64 0, .string ⟨#[]⟩, .string ⟨#[]⟩, .bool false, .int .i64 0, .slice none 0 0, .slice none 0 0, .slice none 0 0, .int .i64 0, .int .i64 0, .string ⟨#[]⟩, .int .u64 0, .slice none 0 0, .slice none 0 0, .slice none 0 0, .slice none 0 0, .int .i64 0, .string ⟨#[]⟩, .string ⟨#[]⟩, .int .u64 0, .int .i64 0] 50)) = wq at hb2 h2 BX BR
  have hdr : Below wq.heap.size wq wq.drew := (Below.refl _ _).drew
  have p0 := h2.ptr
  have b0 := BX.at 0 rfl
  have b1 := BX.at 1 rfl
  have b3 := BX.at 3 rfl
  go_enter Try.func47, Try.ntmps47
  go_upto_region 3 with (fail)
  clear hW
  go_still_tail 8, (by kernel_rfl)
  go_wp2_with fail
  refine (store_any _ _ _ _ _ _ (h2.below hdr).cells x0 x1).mono ?_
  rintro e w3 ⟨rfl, hC3, hg3⟩
  have h3 := (h2.below hdr).celled hg3 hC3 (storeL_length _ _ _)
  have BX3 := BX.drew.grown hg3 (by intro e; injection e; omega)
  have BR3 := BR.drew.grown hg3 (by intro e; injection e; omega)
  have hF3 : Fr [g] w w3 := ((Fr.of_below hb2).trans (Fr.of_below hdr)).trans (Fr.of_grown hg3 (by simp))
  clear p0 b0 b1 b3 hC3 hg3 BX BR hdr
  have hF := hF3.more (S' := [g, gb, w.heap.size + 1]) (by simp)
  cases hi : inB L.length i
  · have hS := Lib.hid (storeB_no bs A hi)
    go_wp2_with (refine wpList_store_row rfl 50 _ _ rfl (w.heap.size + 1) _ rfl rfl 50 _ (BR3).h (by kernel_rfl) (by rfl) (by kernel_rfl) ?_)
    refine bodyPost_ret (results_cell_row rfl _ _ (w.heap.size + 1) 50 #[.bool false, .int .u64 0, .int .u64 0, .int .i64 0, .int .i64 0, .string ⟨#[]⟩, .string ⟨#[]⟩, .bool false, .int .i64 0, .slice none 0 0, .slice none 0 0, .slice none 0 0, .int .i64 0, .int .i64 0, .string ⟨#[]⟩, .int .u64 0, .slice none 0 0, .slice none 0 0, .slice none 0 0, .slice none 0 0, .int .i64 0, .string ⟨#[]⟩, .string ⟨#[]⟩, .int .u64 0, .int .i64 0] (0, 0) _ rfl (Blk.row BR3 #[.bool false, .int .u64 0, .int .u64 0, .int .i64 0, .int .i64 0, .string ⟨#[]⟩, .string ⟨#[]⟩, .bool false, .int .i64 0, .slice none 0 0, .slice none 0 0, .slice none 0 0, .int .i64 0, .int .i64 0, .string ⟨#[]⟩, .int .u64 0, .slice none 0 0, .slice none 0 0, .slice none 0 0, .slice none 0 0, .int .i64 0, .string ⟨#[]⟩, .string ⟨#[]⟩, .int .u64 0, .int .i64 0]).h Try.underlying50 rfl (by kernel_rfl)) rfl ⟨by rw [hi], ?_, ?_⟩
    · rw [hS.out]
      exact h3.off (Fr.row (S := [w.heap.size + 1]) _ _ (by simp)) (by simp; omega)
    · exact (hF.trans (Fr.row _ _ (by simp))).less
  · obtain ⟨j0, j1⟩ := inB_yes hi
    have hS := Lib.hid (storeB_yes bs A hi)
    have b1 := BX3.at 1 rfl
    go_wp2_with fail
    refine (clear_any i _ h3 j0 (by omega)).mono ?_
    rintro e w4 ⟨rfl, h4, hF4⟩
    have BR4 := hF4.blk BR3 (by simp; omega)
    have hG := hF.trans (hF4.more (S' := [g, gb, w.heap.size + 1]) (by simp))
    clear b1 BX3 BR3 hF3 hF4
    go_wp2_with (refine wpList_store_row rfl 50 _ _ rfl (w.heap.size + 1) _ rfl rfl 50 _ (BR4).h (by kernel_rfl) (by rfl) (by kernel_rfl) ?_)
    refine bodyPost_ret (results_cell_row rfl _ _ (w.heap.size + 1) 50 #[.bool true, .int .u64 0, .int .u64 0, .int .i64 0, .int .i64 0, .string ⟨#[]⟩, .string ⟨#[]⟩, .bool false, .int .i64 0, .slice none 0 0, .slice none 0 0, .slice none 0 0, .int .i64 0, .int .i64 0, .string ⟨#[]⟩, .int .u64 0, .slice none 0 0, .slice none 0 0, .slice none 0 0, .slice none 0 0, .int .i64 0, .string ⟨#[]⟩, .string ⟨#[]⟩, .int .u64 0, .int .i64 0] (0, 0) _ rfl (Blk.row BR4 #[.bool true, .int .u64 0, .int .u64 0, .int .i64 0, .int .i64 0, .string ⟨#[]⟩, .string ⟨#[]⟩, .bool false, .int .i64 0, .slice none 0 0, .slice none 0 0, .slice none 0 0, .int .i64 0, .int .i64 0, .string ⟨#[]⟩, .int .u64 0, .slice none 0 0, .slice none 0 0, .slice none 0 0, .slice none 0 0, .int .i64 0, .string ⟨#[]⟩, .string ⟨#[]⟩, .int .u64 0, .int .i64 0]).h Try.underlying50 rfl (by kernel_rfl)) rfl ⟨by rw [hi], ?_, ?_⟩
    · rw [hS.out]
      exact h4.off (Fr.row (S := [w.heap.size + 1]) _ _ (by simp)) (by simp; omega)
    · exact (hG.trans (Fr.row _ _ (by simp))).less
set_option maxRecDepth 100000 in
set_option maxHeartbeats 6400000 in
theorem write_cas {o oc g gb gr A T : Nat} {L : List (Int × Int)} {bs rs : List (List Value)} (i ver word : Int) (c4 c5 c6 c7 c8 c9 c10 c11 c12 c13 c14 c15 c16 c17 c18 c19 c20 c21 c22 c23 c24 c25 : Value) (w : World) (h : MemAt w o oc g gb gr A T L bs rs) (v0 : 0 ≤ ver) (v1 : ver ≤ 18446744073709551615) (x0 : 0 ≤ word) (x1 : word ≤ 18446744073709551615) :
    Calls Try.prog 47 #[.pointer (some ⟨o, 0, none⟩), .agg #[.int .i64 3, .int .i64 i, .int .u64 ver, .int .u64 word, c4, c5, c6, c7, c8, c9, c10, c11, c12, c13, c14, c15, c16, c17, c18, c19, c20, c21, c22, c23, c24, c25]] w fun e w' => e = .returned (.agg #[.bool (casB L i ver), .int .u64 0, .int .u64 0, .int .i64 0, .int .i64 0, .string ⟨#[]⟩, .string ⟨#[]⟩, .bool false, .int .i64 0, .slice none 0 0, .slice none 0 0, .slice none 0 0, .int .i64 0, .int .i64 0, .string ⟨#[]⟩, .int .u64 0, .slice none 0 0, .slice none 0 0, .slice none 0 0, .slice none 0 0, .int .i64 0, .string ⟨#[]⟩, .string ⟨#[]⟩, .int .u64 0, .int .i64 0]) ∧ MemAt w' o oc g gb gr A T (casL L i ver word) (casBs L bs A i ver) rs ∧ Fr [g, gb] w w' := by
  have hb2 : Below w.heap.size w ((w.alloc (.cells #[.int .i64 3, .int .i64 i, .int .u64 ver, .int .u64 word, c4, c5, c6, c7, c8, c9, c10, c11, c12, c13, c14, c15, c16, c17, c18, c19, c20, c21, c22, c23, c24, c25] 39)).alloc (.cells #[.bool false, .int .u64 0, .int .u64 0, .int .i64 0, .int .i64 0, .string ⟨#[]⟩, .string ⟨#[]⟩, .bool false, .int .i64 0, .slice none 0 0, .slice none 0 0, .slice none 0 0, .int .i64 0, .int .i64 0, .string ⟨#[]⟩, .int .u64 0, .slice none 0 0, .slice none 0 0, .slice none 0 0, .slice none 0 0, .int .i64 0, .string ⟨#[]⟩, .string ⟨#[]⟩, .int .u64 0, .int .i64 0] 50)) := by (repeat (first | exact Below.refl _ _ | assumption | refine below_alloc2 ?_ (by first | exact Nat.le_refl _ | omega) _ | refine Below.drew ?_ | refine below_drewN ?_ _ | refine below_push2 ?_ ‹_› (by first | exact Nat.le_refl _ | omega) | refine Below.setCell ?_ (by first | (simp; done) | (simp; omega) | omega) _))
  have h2 := h.below hb2
  have BX := (Blk.new w #[.int .i64 3, .int .i64 i, .int .u64 ver, .int .u64 word, c4, c5, c6, c7, c8, c9, c10, c11, c12, c13, c14, c15, c16, c17, c18, c19, c20, c21, c22, c23, c24, c25] 39).alloc (.cells #[.bool false, .int .u64 0, .int .u64 0, .int .i64 0, .int .i64 0, .string ⟨#[]⟩, .string ⟨#[]⟩, .bool false, .int .i64 0, .slice none 0 0, .slice none 0 0, .slice none 0 0, .int .i64 0, .int .i64 0, .string ⟨#[]⟩, .int .u64 0, .slice none 0 0, .slice none 0 0, .slice none 0 0, .slice none 0 0, .int .i64 0, .string ⟨#[]⟩, .string ⟨#[]⟩, .int .u64 0, .int .i64 0] 50)
  have BR : Blk ((w.alloc (.cells #[.int .i64 3, .int .i64 i, .int .u64 ver, .int .u64 word, c4, c5, c6, c7, c8, c9, c10, c11, c12, c13, c14, c15, c16, c17, c18, c19, c20, c21, c22, c23, c24, c25] 39)).alloc (.cells #[.bool false, .int .u64 0, .int .u64 0, .int .i64 0, .int .i64 0, .string ⟨#[]⟩, .string ⟨#[]⟩, .bool false, .int .i64 0, .slice none 0 0, .slice none 0 0, .slice none 0 0, .int .i64 0, .int .i64 0, .string ⟨#[]⟩, .int .u64 0, .slice none 0 0, .slice none 0 0, .slice none 0 0, .slice none 0 0, .int .i64 0, .string ⟨#[]⟩, .string ⟨#[]⟩, .int .u64 0, .int .i64 0] 50)) (w.heap.size + 1) #[.bool false, .int .u64 0, .int .u64 0, .int .i64 0, .int .i64 0, .string ⟨#[]⟩, .string ⟨#[]⟩, .bool false, .int .i64 0, .slice none 0 0, .slice none 0 0, .slice none 0 0, .int .i64 0, .int .i64 0, .string ⟨#[]⟩, .int .u64 0, .slice none 0 0, .slice none 0 0, .slice none 0 0, .slice none 0 0, .int .i64 0, .string ⟨#[]⟩, .string ⟨#[]⟩, .int .u64 0, .int .i64 0] 50 := by
    have := Blk.new (w.alloc (.cells #[.int .i64 3, .int .i64 i, .int .u64 ver, .int .u64 word, c4, c5, c6, c7, c8, c9, c10, c11, c12, c13, c14, c15, c16, c17, c18, c19, c20, c21, c22, c23, c24, c25] 39)) #[.bool false, .int .u64 0, .int .u64 0, .int .i64 0, .int .i64 0, .string ⟨#[]⟩, .string ⟨#[]⟩, .bool false, .int .i64 0, .slice none 0 0, .slice none 0 0, .slice none 0 0, .int .i64 0, .int .i64 0, .string ⟨#[]⟩, .int .u64 0, .slice none 0 0, .slice none 0 0, .slice none 0 0, .slice none 0 0, .int .i64 0, .string ⟨#[]⟩, .string ⟨#[]⟩, .int .u64 0, .int .i64 0] 50
    simpa using this
  have hgl := h.cells.rows.lt
  have hgbl := h.blocks.lt
  have hol := h.head.lt
  have hocl := h.cells.head.lt
  have hgrl := h.records.lt
  have hin := h.len
  have hA := h.a1
  have hT := h.t1
  generalize hW : ((w.alloc (.cells #[.int .i64 3, .int .i64 i, .int .u64 ver, .int .u64 word, c4, c5, c6, c7, c8, c9, c10, c11, c12, c13, c14, c15, c16, c17, c18, c19, c20, c21, c22, c23, c24, c25] 39)).alloc (.cells #[.bool false, .int .u64 0, .int .u64 0, .int .i64 0, .int .i64 0, .string ⟨#[]⟩, .string ⟨#[]⟩, .bool false, .int .i64 0, .slice none 0 0, .slice none 0 0, .slice none 0 0, .int .i64 0, .int .i64 0, .string ⟨#[]⟩, .int .u64 0, .slice none 0 0, .slice none 0 0, .slice none 0 0, .slice none 0 0, .int .i64 0, .string ⟨#[]⟩, .string ⟨#[]⟩, .int .u64 0, .int .i64 0] 50)) = wq at hb2 h2 BX BR
  have hdr : Below wq.heap.size wq wq.drew := (Below.refl _ _).drew
  have p0 := h2.ptr
  have b0 := BX.at 0 rfl
  have b1 := BX.at 1 rfl
  have b2 := BX.at 2 rfl
  have b3 := BX.at 3 rfl
  go_enter Try.func47, Try.ntmps47
  go_upto_region 4 with (fail)
  clear hW
  go_still_tail 10, (by kernel_rfl)
  go_wp2_with fail
  refine (cas_any _ _ _ _ _ _ _ (h2.below hdr).cells v0 v1 x0 x1).mono ?_
  rintro e w3 ⟨rfl, hC3, hg3⟩
  have h3 := (h2.below hdr).celled hg3 hC3 (casL_length _ _ _ _)
  have BX3 := BX.drew.grown hg3 (by intro e; injection e; omega)
  have BR3 := BR.drew.grown hg3 (by intro e; injection e; omega)
  have hF3 : Fr [g] w w3 := ((Fr.of_below hb2).trans (Fr.of_below hdr)).trans (Fr.of_grown hg3 (by simp))
  clear p0 b0 b1 b2 b3 hC3 hg3 BX BR hdr
  have hF := hF3.more (S' := [g, gb, w.heap.size + 1]) (by simp)
  cases hi : casB L i ver
  · have hS := Lib.hid (casBs_no bs A hi)
    go_wp2_with (refine wpList_store_row rfl 50 _ _ rfl (w.heap.size + 1) _ rfl rfl 50 _ (BR3).h (by kernel_rfl) (by rfl) (by kernel_rfl) ?_)
    refine bodyPost_ret (results_cell_row rfl _ _ (w.heap.size + 1) 50 #[.bool false, .int .u64 0, .int .u64 0, .int .i64 0, .int .i64 0, .string ⟨#[]⟩, .string ⟨#[]⟩, .bool false, .int .i64 0, .slice none 0 0, .slice none 0 0, .slice none 0 0, .int .i64 0, .int .i64 0, .string ⟨#[]⟩, .int .u64 0, .slice none 0 0, .slice none 0 0, .slice none 0 0, .slice none 0 0, .int .i64 0, .string ⟨#[]⟩, .string ⟨#[]⟩, .int .u64 0, .int .i64 0] (0, 0) _ rfl (Blk.row BR3 #[.bool false, .int .u64 0, .int .u64 0, .int .i64 0, .int .i64 0, .string ⟨#[]⟩, .string ⟨#[]⟩, .bool false, .int .i64 0, .slice none 0 0, .slice none 0 0, .slice none 0 0, .int .i64 0, .int .i64 0, .string ⟨#[]⟩, .int .u64 0, .slice none 0 0, .slice none 0 0, .slice none 0 0, .slice none 0 0, .int .i64 0, .string ⟨#[]⟩, .string ⟨#[]⟩, .int .u64 0, .int .i64 0]).h Try.underlying50 rfl (by kernel_rfl)) rfl ⟨by rw [hi], ?_, ?_⟩
    · rw [hS.out]
      exact h3.off (Fr.row (S := [w.heap.size + 1]) _ _ (by simp)) (by simp; omega)
    · exact (hF.trans (Fr.row _ _ (by simp))).less
  · obtain ⟨j0, j1⟩ := inB_yes (casB_in hi)
    have hS := Lib.hid (casBs_yes bs A hi)
    have b1 := BX3.at 1 rfl
    go_wp2_with fail
    refine (clear_any i _ h3 j0 (by omega)).mono ?_
    rintro e w4 ⟨rfl, h4, hF4⟩
    have BR4 := hF4.blk BR3 (by simp; omega)
    have hG := hF.trans (hF4.more (S' := [g, gb, w.heap.size + 1]) (by simp))
    clear b1 BX3 BR3 hF3 hF4
    go_wp2_with (refine wpList_store_row rfl 50 _ _ rfl (w.heap.size + 1) _ rfl rfl 50 _ (BR4).h (by kernel_rfl) (by rfl) (by kernel_rfl) ?_)
    refine bodyPost_ret (results_cell_row rfl _ _ (w.heap.size + 1) 50 #[.bool true, .int .u64 0, .int .u64 0, .int .i64 0, .int .i64 0, .string ⟨#[]⟩, .string ⟨#[]⟩, .bool false, .int .i64 0, .slice none 0 0, .slice none 0 0, .slice none 0 0, .int .i64 0, .int .i64 0, .string ⟨#[]⟩, .int .u64 0, .slice none 0 0, .slice none 0 0, .slice none 0 0, .slice none 0 0, .int .i64 0, .string ⟨#[]⟩, .string ⟨#[]⟩, .int .u64 0, .int .i64 0] (0, 0) _ rfl (Blk.row BR4 #[.bool true, .int .u64 0, .int .u64 0, .int .i64 0, .int .i64 0, .string ⟨#[]⟩, .string ⟨#[]⟩, .bool false, .int .i64 0, .slice none 0 0, .slice none 0 0, .slice none 0 0, .int .i64 0, .int .i64 0, .string ⟨#[]⟩, .int .u64 0, .slice none 0 0, .slice none 0 0, .slice none 0 0, .slice none 0 0, .int .i64 0, .string ⟨#[]⟩, .string ⟨#[]⟩, .int .u64 0, .int .i64 0]).h Try.underlying50 rfl (by kernel_rfl)) rfl ⟨by rw [hi], ?_, ?_⟩
    · rw [hS.out]
      exact h4.off (Fr.row (S := [w.heap.size + 1]) _ _ (by simp)) (by simp; omega)
    · exact (hG.trans (Fr.row _ _ (by simp))).less
end Go.Proofs.Ytpempcefgfmniaa.MemP

/-
  memory.Do: contracts, of accesses to cells.
-/
namespace Go.Proofs.Ytpempcefgfmniaa.MemP
open Go.RowKit RefP CellP
set_option linter.unusedVariables false
set_option linter.unusedSimpArgs false
set_option maxRecDepth 100000 in
set_option maxHeartbeats 3200000 in
theorem do_nil (k i ver word : Int) (c4 c5 c6 c7 c8 c9 c10 c11 c12 c13 c14 c15 c16 c17 c18 c19 c20 c21 c22 c23 c24 c25 : Value) (w : World) :
    Calls Try.prog 12 #[.pointer none, .agg #[.int .i64 k, .int .i64 i, .int .u64 ver, .int .u64 word, c4, c5, c6, c7, c8, c9, c10, c11, c12, c13, c14, c15, c16, c17, c18, c19, c20, c21, c22, c23, c24, c25]] w fun e w' => e = .returned (.agg #[.bool false, .int .u64 0, .int .u64 0, .int .i64 0, .int .i64 0, .string ⟨#[]⟩, .string ⟨#[]⟩, .bool false, .int .i64 0, .slice none 0 0, .slice none 0 0, .slice none 0 0, .int .i64 0, .int .i64 0, .string ⟨#[]⟩, .int .u64 0, .slice none 0 0, .slice none 0 0, .slice none 0 0, .slice none 0 0, .int .i64 0, .string ⟨#[]⟩, .string ⟨#[]⟩, .int .u64 0, .int .i64 0]) ∧ Below w.heap.size w w' := by
  have hb2 : Below w.heap.size w ((w.alloc (.cells #[.int .i64 k, .int .i64 i, .int .u64 ver, .int .u64 word, c4, c5, c6, c7, c8, c9, c10, c11, c12, c13, c14, c15, c16, c17, c18, c19, c20, c21, c22, c23, c24, c25] 39)).alloc (.cells #[.bool false, .int .u64 0, .int .u64 0, .int .i64 0, .int .i64 0, .string ⟨#[]⟩, .string ⟨#[]⟩, .bool false, .int .i64 0, .slice none 0 0, .slice none 0 0, .slice none 0 0, .int .i64 0, .int .i64 0, .string ⟨#[]⟩, .int .u64 0, .slice none 0 0, .slice none 0 0, .slice none 0 0, .slice none 0 0, .int .i64 0, .string ⟨#[]⟩, .string ⟨#[]⟩, .int .u64 0, .int .i64 0] 50)) := by (repeat (first | exact Below.refl _ _ | assumption | refine below_alloc2 ?_ (by first | exact Nat.le_refl _ | omega) _ | refine Below.drew ?_ | refine below_drewN ?_ _ | refine below_push2 ?_ ‹_› (by first | exact Nat.le_refl _ | omega) | refine Below.setCell ?_ (by first | (simp; done) | (simp; omega) | omega) _))
  have BX := (Blk.new w #[.int .i64 k, .int .i64 i, .int .u64 ver, .int .u64 word, c4, c5, c6, c7, c8, c9, c10, c11, c12, c13, c14, c15, c16, c17, c18, c19, c20, c21, c22, c23, c24, c25] 39).alloc (.cells #[.bool false, .int .u64 0, .int .u64 0, .int .i64 0, .int .i64 0, .string ⟨#[]⟩, .string ⟨#[]⟩, .bool false, .int .i64 0, .slice none 0 0, .slice none 0 0, .slice none 0 0, .int .i64 0, .int .i64 0, .string ⟨#[]⟩, .int .u64 0, .slice none 0 0, .slice none 0 0, .slice none 0 0, .slice none 0 0, .int .i64 0, .string ⟨#[]⟩, .string ⟨#[]⟩, .int .u64 0, .int .i64 0] 50)
  have BR : Blk ((w.alloc (.cells #[.int .i64 k, .int .i64 i, .int .u64 ver, .int .u64 word, c4, c5, c6, c7, c8, c9, c10, c11, c12, c13, c14, c15, c16, c17, c18, c19, c20, c21, c22, c23, c24, c25] 39)).alloc (.cells #[.bool false, .int .u64 0, .int .u64 0, .int .i64 0, .int .i64 0, .string ⟨#[]⟩, .string ⟨#[]⟩, .bool false, .int .i64 0, .slice none 0 0, .slice none 0 0, .slice none 0 0, .int .i64 0, .int .i64 0, .string ⟨#[]⟩, .int .u64 0, .slice none 0 0, .slice none 0 0, .slice none 0 0, .slice none 0 0, .int .i64 0, .string ⟨#[]⟩, .string ⟨#[]⟩, .int .u64 0, .int .i64 0] 50)) (w.heap.size + 1) #[.bool false, .int .u64 0, .int .u64 0, .int .i64 0, .int .i64 0, .string ⟨#[]⟩, .string ⟨#[]⟩, .bool false, .int .i64 0, .slice none 0 0, .slice none 0 0, .slice none 0 0, .int .i64 0, .int .i64 0, .string ⟨#[]⟩, .int .u64 0, .slice none 0 0, .slice none 0 0, .slice none 0 0, .slice none 0 0, .int .i64 0, .string ⟨#[]⟩, .string ⟨#[]⟩, .int .u64 0, .int .i64 0] 50 := by
    have := Blk.new (w.alloc (.cells #[.int .i64 k, .int .i64 i, .int .u64 ver, .int .u64 word, c4, c5, c6, c7, c8, c9, c10, c11, c12, c13, c14, c15, c16, c17, c18, c19, c20, c21, c22, c23, c24, c25] 39)) #[.bool false, .int .u64 0, .int .u64 0, .int .i64 0, .int .i64 0, .string ⟨#[]⟩, .string ⟨#[]⟩, .bool false, .int .i64 0, .slice none 0 0, .slice none 0 0, .slice none 0 0, .int .i64 0, .int .i64 0, .string ⟨#[]⟩, .int .u64 0, .slice none 0 0, .slice none 0 0, .slice none 0 0, .slice none 0 0, .int .i64 0, .string ⟨#[]⟩, .string ⟨#[]⟩, .int .u64 0, .int .i64 0] 50
    simpa using this
  generalize hW : ((w.alloc (.cells #[.int .i64 k, .int .i64 i, .int .u64 ver, .int .u64 word, c4, c5, c6, c7, c8, c9, c10, c11, c12, c13, c14, c15, c16, c17, c18, c19, c20, c21, c22, c23, c24, c25] 39)).alloc (.cells #[.bool false, .int .u64 0, .int .u64 0, .int .i64 0, .int .i64 0, .string ⟨#[]⟩, .string ⟨#[]⟩, .bool false, .int .i64 0, .slice none 0 0, .slice none 0 0, .slice none 0 0, .int .i64 0, .int .i64 0, .string ⟨#[]⟩, .int .u64 0, .slice none 0 0, .slice none 0 0, .slice none 0 0, .slice none 0 0, .int .i64 0, .string ⟨#[]⟩, .string ⟨#[]⟩, .int .u64 0, .int .i64 0] 50)) = wq at hb2 BX BR
  go_enter Try.func12, Try.ntmps12
  go_wp2_with fail
  refine (none_nil _).mono ?_
  rintro e w1 ⟨rfl, rfl⟩
  clear hW
  go_wp2_with (first
    | (refine wpList_load_row rfl 50 _ rfl (w.heap.size + 1) rfl 50 _ (0, 0) _ (BR).h Try.underlying50 rfl (by kernel_rfl) ?_)
    | (refine wpList_store_row rfl 50 _ _ rfl (w.heap.size + 1) _ rfl rfl 50 _ (BR).h (by kernel_rfl) (by rfl) (by kernel_rfl) ?_))
  refine bodyPost_ret (results_cell_row rfl _ _ (w.heap.size + 1) 50 #[.bool false, .int .u64 0, .int .u64 0, .int .i64 0, .int .i64 0, .string ⟨#[]⟩, .string ⟨#[]⟩, .bool false, .int .i64 0, .slice none 0 0, .slice none 0 0, .slice none 0 0, .int .i64 0, .int .i64 0, .string ⟨#[]⟩, .int .u64 0, .slice none 0 0, .slice none 0 0, .slice none 0 0, .slice none 0 0, .int .i64 0, .string ⟨#[]⟩, .string ⟨#[]⟩, .int .u64 0, .int .i64 0] (0, 0) _ rfl (Blk.row BR #[.bool false, .int .u64 0, .int .u64 0, .int .i64 0, .int .i64 0, .string ⟨#[]⟩, .string ⟨#[]⟩, .bool false, .int .i64 0, .slice none 0 0, .slice none 0 0, .slice none 0 0, .int .i64 0, .int .i64 0, .string ⟨#[]⟩, .int .u64 0, .slice none 0 0, .slice none 0 0, .slice none 0 0, .slice none 0 0, .int .i64 0, .string ⟨#[]⟩, .string ⟨#[]⟩, .int .u64 0, .int .i64 0]).h Try.underlying50 rfl (by kernel_rfl)) rfl ⟨rfl, below_setRow hb2 (by omega) _⟩
set_option maxRecDepth 100000 in
set_option maxHeartbeats 3200000 in
theorem do_zero (o : Nat) (k i ver word : Int) (c4 c5 c6 c7 c8 c9 c10 c11 c12 c13 c14 c15 c16 c17 c18 c19 c20 c21 c22 c23 c24 c25 : Value) (w : World) (h : NoMem w o) :
    Calls Try.prog 12 #[.pointer (some ⟨o, 0, none⟩), .agg #[.int .i64 k, .int .i64 i, .int .u64 ver, .int .u64 word, c4, c5, c6, c7, c8, c9, c10, c11, c12, c13, c14, c15, c16, c17, c18, c19, c20, c21, c22, c23, c24, c25]] w fun e w' => e = .returned (.agg #[.bool false, .int .u64 0, .int .u64 0, .int .i64 0, .int .i64 0, .string ⟨#[]⟩, .string ⟨#[]⟩, .bool false, .int .i64 0, .slice none 0 0, .slice none 0 0, .slice none 0 0, .int .i64 0, .int .i64 0, .string ⟨#[]⟩, .int .u64 0, .slice none 0 0, .slice none 0 0, .slice none 0 0, .slice none 0 0, .int .i64 0, .string ⟨#[]⟩, .string ⟨#[]⟩, .int .u64 0, .int .i64 0]) ∧ Below w.heap.size w w' := by
  have hb2 : Below w.heap.size w ((w.alloc (.cells #[.int .i64 k, .int .i64 i, .int .u64 ver, .int .u64 word, c4, c5, c6, c7, c8, c9, c10, c11, c12, c13, c14, c15, c16, c17, c18, c19, c20, c21, c22, c23, c24, c25] 39)).alloc (.cells #[.bool false, .int .u64 0, .int .u64 0, .int .i64 0, .int .i64 0, .string ⟨#[]⟩, .string ⟨#[]⟩, .bool false, .int .i64 0, .slice none 0 0, .slice none 0 0, .slice none 0 0, .int .i64 0, .int .i64 0, .string ⟨#[]⟩, .int .u64 0, .slice none 0 0, .slice none 0 0, .slice none 0 0, .slice none 0 0, .int .i64 0, .string ⟨#[]⟩, .string ⟨#[]⟩, .int .u64 0, .int .i64 0] 50)) := by (repeat (first | exact Below.refl _ _ | assumption | refine below_alloc2 ?_ (by first | exact Nat.le_refl _ | omega) _ | refine Below.drew ?_ | refine below_drewN ?_ _ | refine below_push2 ?_ ‹_› (by first | exact Nat.le_refl _ | omega) | refine Below.setCell ?_ (by first | (simp; done) | (simp; omega) | omega) _))
  have BX := (Blk.new w #[.int .i64 k, .int .i64 i, .int .u64 ver, .int .u64 word, c4, c5, c6, c7, c8, c9, c10, c11, c12, c13, c14, c15, c16, c17, c18, c19, c20, c21, c22, c23, c24, c25] 39).alloc (.cells #[.bool false, .int .u64 0, .int .u64 0, .int .i64 0, .int .i64 0, .string ⟨#[]⟩, .string ⟨#[]⟩, .bool false, .int .i64 0, .slice none 0 0, .slice none 0 0, .slice none 0 0, .int .i64 0, .int .i64 0, .string ⟨#[]⟩, .int .u64 0, .slice none 0 0, .slice none 0 0, .slice none 0 0, .slice none 0 0, .int .i64 0, .string ⟨#[]⟩, .string ⟨#[]⟩, .int .u64 0, .int .i64 0] 50)
  have BR : Blk ((w.alloc (.cells #[.int .i64 k, .int .i64 i, .int .u64 ver, .int .u64 word, c4, c5, c6, c7, c8, c9, c10, c11, c12, c13, c14, c15, c16, c17, c18, c19, c20, c21, c22, c23, c24, c25] 39)).alloc (.cells #[.bool false, .int .u64 0, .int .u64 0, .int .i64 0, .int .i64 0, .string ⟨#[]⟩, .string ⟨#[]⟩, .bool false, .int .i64 0, .slice none 0 0, .slice none 0 0, .slice none 0 0, .int .i64 0, .int .i64 0, .string ⟨#[]⟩, .int .u64 0, .slice none 0 0, .slice none 0 0, .slice none 0 0, .slice none 0 0, .int .i64 0, .string ⟨#[]⟩, .string ⟨#[]⟩, .int .u64 0, .int .i64 0] 50)) (w.heap.size + 1) #[.bool false, .int .u64 0, .int .u64 0, .int .i64 0, .int .i64 0, .string ⟨#[]⟩, .string ⟨#[]⟩, .bool false, .int .i64 0, .slice none 0 0, .slice none 0 0, .slice none 0 0, .int .i64 0, .int .i64 0, .string ⟨#[]⟩, .int .u64 0, .slice none 0 0, .slice none 0 0, .slice none 0 0, .slice none 0 0, .int .i64 0, .string ⟨#[]⟩, .string ⟨#[]⟩, .int .u64 0, .int .i64 0] 50 := by
    have := Blk.new (w.alloc (.cells #[.int .i64 k, .int .i64 i, .int .u64 ver, .int .u64 word, c4, c5, c6, c7, c8, c9, c10, c11, c12, c13, c14, c15, c16, c17, c18, c19, c20, c21, c22, c23, c24, c25] 39)) #[.bool false, .int .u64 0, .int .u64 0, .int .i64 0, .int .i64 0, .string ⟨#[]⟩, .string ⟨#[]⟩, .bool false, .int .i64 0, .slice none 0 0, .slice none 0 0, .slice none 0 0, .int .i64 0, .int .i64 0, .string ⟨#[]⟩, .int .u64 0, .slice none 0 0, .slice none 0 0, .slice none 0 0, .slice none 0 0, .int .i64 0, .string ⟨#[]⟩, .string ⟨#[]⟩, .int .u64 0, .int .i64 0] 50
    simpa using this
  have h2 := h.below hb2
  generalize hW : ((w.alloc (.cells #[.int .i64 k, .int .i64 i, .int .u64 ver, .int .u64 word, c4, c5, c6, c7, c8, c9, c10, c11, c12, c13, c14, c15, c16, c17, c18, c19, c20, c21, c22, c23, c24, c25] 39)).alloc (.cells #[.bool false, .int .u64 0, .int .u64 0, .int .i64 0, .int .i64 0, .string ⟨#[]⟩, .string ⟨#[]⟩, .bool false, .int .i64 0, .slice none 0 0, .slice none 0 0, .slice none 0 0, .int .i64 0, .int .i64 0, .string ⟨#[]⟩, .int .u64 0, .slice none 0 0, .slice none 0 0, .slice none 0 0, .slice none 0 0, .int .i64 0, .string ⟨#[]⟩, .string ⟨#[]⟩, .int .u64 0, .int .i64 0] 50)) = wq at hb2 BX BR h2
  go_enter Try.func12, Try.ntmps12
  go_wp2_with fail
  refine (none_zero _ _ h2).mono ?_
  rintro e w1 ⟨rfl, rfl⟩
  clear hW
  go_wp2_with (first
    | (refine wpList_load_row rfl 50 _ rfl (w.heap.size + 1) rfl 50 _ (0, 0) _ (BR).h Try.underlying50 rfl (by kernel_rfl) ?_)
    | (refine wpList_store_row rfl 50 _ _ rfl (w.heap.size + 1) _ rfl rfl 50 _ (BR).h (by kernel_rfl) (by rfl) (by kernel_rfl) ?_))
  refine bodyPost_ret (results_cell_row rfl _ _ (w.heap.size + 1) 50 #[.bool false, .int .u64 0, .int .u64 0, .int .i64 0, .int .i64 0, .string ⟨#[]⟩, .string ⟨#[]⟩, .bool false, .int .i64 0, .slice none 0 0, .slice none 0 0, .slice none 0 0, .int .i64 0, .int .i64 0, .string ⟨#[]⟩, .int .u64 0, .slice none 0 0, .slice none 0 0, .slice none 0 0, .slice none 0 0, .int .i64 0, .string ⟨#[]⟩, .string ⟨#[]⟩, .int .u64 0, .int .i64 0] (0, 0) _ rfl (Blk.row BR #[.bool false, .int .u64 0, .int .u64 0, .int .i64 0, .int .i64 0, .string ⟨#[]⟩, .string ⟨#[]⟩, .bool false, .int .i64 0, .slice none 0 0, .slice none 0 0, .slice none 0 0, .int .i64 0, .int .i64 0, .string ⟨#[]⟩, .int .u64 0, .slice none 0 0, .slice none 0 0, .slice none 0 0, .slice none 0 0, .int .i64 0, .string ⟨#[]⟩, .string ⟨#[]⟩, .int .u64 0, .int .i64 0]).h Try.underlying50 rfl (by kernel_rfl)) rfl ⟨rfl, below_setRow hb2 (by omega) _⟩
set_option maxRecDepth 100000 in
set_option maxHeartbeats 3200000 in
theorem do_store {o oc g gb gr A T : Nat} {L : List (Int × Int)} {bs rs : List (List Value)} (i ver word : Int) (c4 c5 c6 c7 c8 c9 c10 c11 c12 c13 c14 c15 c16 c17 c18 c19 c20 c21 c22 c23 c24 c25 : Value) (w : World) (h : MemAt w o oc g gb gr A T L bs rs) (x0 : 0 ≤ word) (x1 : word ≤ 18446744073709551615) :
    Calls Try.prog 12 #[.pointer (some ⟨o, 0, none⟩), .agg #[.int .i64 2, .int .i64 i, .int .u64 ver, .int .u64 word, c4, c5, c6, c7, c8, c9, c10, c11, c12, c13, c14, c15, c16, c17, c18, c19, c20, c21, c22, c23, c24, c25]] w fun e w' => e = .returned (.agg #[.bool (inB L.length i), .int .u64 0, .int .u64 0, .int .i64 0, .int .i64 0, .string ⟨#[]⟩, .string ⟨#[]⟩, .bool false, .int .i64 0, .slice none 0 0, .slice none 0 0, .slice none 0 0, .int .i64 0, .int .i64 0, .string ⟨#[]⟩, .int .u64 0, .slice none 0 0, .slice none 0 0, .slice none 0 0, .slice none 0 0, .int .i64 0, .string ⟨#[]⟩, .string ⟨#[]⟩, .int .u64 0, .int .i64 0]) ∧ MemAt w' o oc g gb gr A T (storeL L i word) (storeB L bs A i) rs ∧ Fr [g, gb] w w' := by
  have hb2 : Below w.heap.size w ((w.alloc (.cells #[.int .i64 2, .int .i64 i, .int .u64 ver, .int .u64 word, c4, c5, c6, c7, c8, c9, c10, c11, c12, c13, c14, c15, c16, c17, c18, c19, c20, c21, c22, c23, c24, c25] 39)).alloc (.cells #[.bool false, .int .u64 0, .int .u64 0, .int .i64 0, .int .i64 0, .string ⟨#[]⟩, .string ⟨#[]⟩, .bool false, .int .i64 0, .slice none 0 0, .slice none 0 0, .slice none 0 0, .int .i64 0, .int .i64 0, .string ⟨#[]⟩, .int .u64 0, .slice none 0 0, .slice none 0 0, .slice none 0 0, .slice none 0 0, .int .i64 0, .string ⟨#[]⟩, .string ⟨#[]⟩, .int .u64 0, .int .i64 0] 50)) := by (repeat (first | exact Below.refl _ _ | assumption | refine below_alloc2 ?_ (by first | exact Nat.le_refl _ | omega) _ | refine Below.drew ?_ | refine below_drewN ?_ _ | refine below_push2 ?_ ‹_› (by first | exact Nat.le_refl _ | omega) | refine Below.setCell ?_ (by first | (simp; done) | (simp; omega) | omega) _))
  have BX := (Blk.new w #[.int .i64 2, .int .i64 i, .int .u64 ver, .int .u64 word, c4, c5, c6, c7, c8, c9, c10, c11, c12, c13, c14, c15, c16, c17, c18, c19, c20, c21, c22, c23, c24, c25] 39).alloc (.cells #[.bool false, .int .u64 0, .int .u64 0, .int .i64 0, .int .i64 0, .string ⟨#[]⟩, .string ⟨#[]⟩, .bool false, .int .i64 0, .slice none 0 0, .slice none 0 0, .slice none 0 0, .int .i64 0, .int .i64 0, .string ⟨#[]⟩, .int .u64 0, .slice none 0 0, .slice none 0 0, .slice none 0 0, .slice none 0 0, .int .i64 0, .string ⟨#[]⟩, .string ⟨#[]⟩, .int .u64 0, .int .i64 0] 50)
  have BR : Blk ((w.alloc (.cells #[.int .i64 2, .int .i64 i, .int .u64 ver, .int .u64 word, c4, c5, c6, c7, c8, c9, c10, c11, c12, c13, c14, c15, c16, c17, c18, c19, c20, c21, c22, c23, c24, c25] 39)).alloc (.cells #[.bool false, .int .u64 0, .int .u64 0, .int .i64 0, .int .i64 0, .string ⟨#[]⟩, .string ⟨#[]⟩, .bool false, .int .i64 0, .slice none 0 0, .slice none 0 0, .slice none 0 0, .int .i64 0, .int .i64 0, .string ⟨#[]⟩, .int .u64 0, .slice none 0 0, .slice none 0 0, .slice none 0 0, .slice none 0 0, .int .i64 0, .string ⟨#[]⟩, .string ⟨#[]⟩, .int .u64 0, .int .i64 0] 50)) (w.heap.size + 1) #[.bool false, .int .u64 0, .int .u64 0, .int .i64 0, .int .i64 0, .string ⟨#[]⟩, .string ⟨#[]⟩, .bool false, .int .i64 0, .slice none 0 0, .slice none 0 0, .slice none 0 0, .int .i64 0, .int .i64 0, .string ⟨#[]⟩, .int .u64 0, .slice none 0 0, .slice none 0 0, .slice none 0 0, .slice none 0 0, .int .i64 0, .string ⟨#[]⟩, .string ⟨#[]⟩, .int .u64 0, .int .i64 0] 50 := by
    have := Blk.new (w.alloc (.cells #[.int .i64 2, .int .i64 i, .int .u64 ver, .int .u64 word, c4, c5, c6, c7, c8, c9, c10, c11, c12, c13, c14, c15, c16, c17, c18, c19, c20, c21, c22, c23, c24, c25] 39)) #[.bool false, .int .u64 0, .int .u64 0, .int .i64 0, .int .i64 0, .string ⟨#[]⟩, .string ⟨#[]⟩, .bool false, .int .i64 0, .slice none 0 0, .slice none 0 0, .slice none 0 0, .int .i64 0, .int .i64 0, .string ⟨#[]⟩, .int .u64 0, .slice none 0 0, .slice none 0 0, .slice none 0 0, .slice none 0 0, .int .i64 0, .string ⟨#[]⟩, .string ⟨#[]⟩, .int .u64 0, .int .i64 0] 50
    simpa using this
  have h2 := h.below hb2
  have hgl := h.cells.rows.lt
  have hgbl := h.blocks.lt
  have hol := h.head.lt
  have hocl := h.cells.head.lt
  have hgrl := h.records.lt
  generalize hW : ((w.alloc (.cells #[.int .i64 2, .int .i64 i, .int .u64 ver, .int .u64 word, c4, c5, c6, c7, c8, c9, c10, c11, c12, c13, c14, c15, c16, c17, c18, c19, c20, c21, c22, c23, c24, c25] 39)).alloc (.cells #[.bool false, .int .u64 0, .int .u64 0, .int .i64 0, .int .i64 0, .string ⟨#[]⟩, .string ⟨#[]⟩, .bool false, .int .i64 0, .slice none 0 0, .slice none 0 0, .slice none 0 0, .int .i64 0, .int .i64 0, .string ⟨#[]⟩, .int .u64 0, .slice none 0 0, .slice none 0 0, .slice none 0 0, .slice none 0 0, .int .i64 0, .string ⟨#[]⟩, .string ⟨#[]⟩, .int .u64 0, .int .i64 0] 50)) = wq at hb2 h2 BX BR
  have b0 := BX.at 0 rfl
  go_enter Try.func12, Try.ntmps12
  go_wp2_with fail
  refine (none_any _ h2).mono ?_
  rintro e w1 ⟨rfl, rfl⟩
  clear hW
  go_wp2_with (refine wpList_load_row rfl 39 _ rfl w.heap.size rfl 39 _ (0, 0) _ BX.h Try.underlying39 rfl (by kernel_rfl) ?_)
  refine (write_store i ver word c4 c5 c6 c7 c8 c9 c10 c11 c12 c13 c14 c15 c16 c17 c18 c19 c20 c21 c22 c23 c24 c25 _ h2 x0 x1).mono ?_
  rintro e w3 ⟨rfl, h3, hF3⟩
  have hsz := hb2.size
  have BR3 := hF3.blk BR (by simp; omega)
  clear h2 BX BR
  go_wp2_with (first
    | (refine wpList_load_row rfl 50 _ rfl (w.heap.size + 1) rfl 50 _ (0, 0) _ (BR3).h Try.underlying50 rfl (by kernel_rfl) ?_)
    | (refine wpList_store_row rfl 50 _ _ rfl (w.heap.size + 1) _ rfl rfl 50 _ (BR3).h (by kernel_rfl) (by rfl) (by kernel_rfl) ?_))
  refine bodyPost_ret (results_cell_row rfl _ _ (w.heap.size + 1) 50 #[.bool (inB L.length i), .int .u64 0, .int .u64 0, .int .i64 0, .int .i64 0, .string ⟨#[]⟩, .string ⟨#[]⟩, .bool false, .int .i64 0, .slice none 0 0, .slice none 0 0, .slice none 0 0, .int .i64 0, .int .i64 0, .string ⟨#[]⟩, .int .u64 0, .slice none 0 0, .slice none 0 0, .slice none 0 0, .slice none 0 0, .int .i64 0, .string ⟨#[]⟩, .string ⟨#[]⟩, .int .u64 0, .int .i64 0] (0, 0) _ rfl (Blk.row BR3 #[.bool (inB L.length i), .int .u64 0, .int .u64 0, .int .i64 0, .int .i64 0, .string ⟨#[]⟩, .string ⟨#[]⟩, .bool false, .int .i64 0, .slice none 0 0, .slice none 0 0, .slice none 0 0, .int .i64 0, .int .i64 0, .string ⟨#[]⟩, .int .u64 0, .slice none 0 0, .slice none 0 0, .slice none 0 0, .slice none 0 0, .int .i64 0, .string ⟨#[]⟩, .string ⟨#[]⟩, .int .u64 0, .int .i64 0]).h Try.underlying50 rfl (by kernel_rfl)) rfl ⟨rfl, ?_, ?_⟩
  · exact h3.off (Fr.row (S := [w.heap.size + 1]) _ _ (by simp)) (by simp; omega)
  · exact ((((Fr.of_below hb2).trans hF3).more (S' := [g, gb, w.heap.size + 1]) (by simp)).trans (Fr.row _ _ (by simp))).less
set_option maxRecDepth 100000 in
set_option maxHeartbeats 3200000 in
theorem do_cas {o oc g gb gr A T : Nat} {L : List (Int × Int)} {bs rs : List (List Value)} (i ver word : Int) (c4 c5 c6 c7 c8 c9 c10 c11 c12 c13 c14 c15 c16 c17 c18 c19 c20 c21 c22 c23 c24 c25 : Value) (w : World) (h : MemAt w o oc g gb gr A T L bs rs) (v0 : 0 ≤ ver) (v1 : ver ≤ 18446744073709551615) (x0 : 0 ≤ word) (x1 : word ≤ 18446744073709551615) :
    Calls Try.prog 12 #[.pointer (some ⟨o, 0, none⟩), .agg #[.int .i64 3, .int .i64 i, .int .u64 ver, .int .u64 word, c4, c5, c6, c7, c8, c9, c10, c11, c12, c13, c14, c15, c16, c17, c18, c19, c20, c21, c22, c23, c24, c25]] w fun e w' => e = .returned (.agg #[.bool (casB L i ver), .int .u64 0, .int .u64 0, .int .i64 0, .int .i64 0, .string ⟨#[]⟩, .string ⟨#[]⟩, .bool false, .int .i64 0, .slice none 0 0, .slice none 0 0, .slice none 0 0, .int .i64 0, .int .i64 0, .string ⟨#[]⟩, .int .u64 0, .slice none 0 0, .slice none 0 0, .slice none 0 0, .slice none 0 0, .int .i64 0, .string ⟨#[]⟩, .string ⟨#[]⟩, .int .u64 0, .int .i64 0]) ∧ MemAt w' o oc g gb gr A T (casL L i ver word) (casBs L bs A i ver) rs ∧ Fr [g, gb] w w' := by
  have hb2 : Below w.heap.size w ((w.alloc (.cells #[.int .i64 3, .int .i64 i, .int .u64 ver, .int .u64 word, c4, c5, c6, c7, c8, c9, c10, c11, c12, c13, c14, c15, c16, c17, c18, c19, c20, c21, c22, c23, c24, c25] 39)).alloc (.cells #[.bool false, .int .u64 0, .int .u64 0, .int .i64 0, .int .i64 0, .string ⟨#[]⟩, .string ⟨#[]⟩, .bool false, .int .i64 0, .slice none 0 0, .slice none 0 0, .slice none 0 0, .int .i64 0, .int .i64 0, .string ⟨#[]⟩, .int .u64 0, .slice none 0 0, .slice none 0 0, .slice none 0 0, .slice none 0 0, .int .i64 0, .string ⟨#[]⟩, .string ⟨#[]⟩, .int .u64 0, .int .i64 0] 50)) := by (repeat (first | exact Below.refl _ _ | assumption | refine below_alloc2 ?_ (by first | exact Nat.le_refl _ | omega) _ | refine Below.drew ?_ | refine below_drewN ?_ _ | refine below_push2 ?_ ‹_› (by first | exact Nat.le_refl _ | omega) | refine Below.setCell ?_ (by first | (simp; done) | (simp; omega) | omega) _))
  have BX := (Blk.new w #[.int .i64 3, .int .i64 i, .int .u64 ver, .int .u64 word, c4, c5, c6, c7, c8, c9, c10, c11, c12, c13, c14, c15, c16, c17, c18, c19, c20, c21, c22, c23, c24, c25] 39).alloc (.cells #[.bool false, .int .u64 0, .int .u64 0, .int .i64 0, .int .i64 0, .string ⟨#[]⟩, .string ⟨#[]⟩, .bool false, .int .i64 0, .slice none 0 0, .slice none 0 0, .slice none 0 0, .int .i64 0, .int .i64 0, .string ⟨#[]⟩, .int .u64 0, .slice none 0 0, .slice none 0 0, .slice none 0 0, .slice none 0 0, .int .i64 0, .string ⟨#[]⟩, .string ⟨#[]⟩, .int .u64 0, .int .i64 0] 50)
  have BR : Blk ((w.alloc (.cells #[.int .i64 3, .int .i64 i, .int .u64 ver, .int .u64 word, c4, c5, c6, c7, c8, c9, c10, c11, c12, c13, c14, c15, c16, c17, c18, c19, c20, c21, c22, c23, c24, c25] 39)).alloc (.cells #[.bool false, .int .u64 0, .int .u64 0, .int .i64 0, .int .i64 0, .string ⟨#[]⟩, .string ⟨#[]⟩, .bool false, .int .i64 0, .slice none 0 0, .slice none 0 0, .slice none 0 0, .int .i64 0, .int .i64 0, .string ⟨#[]⟩, .int .u64 0, .slice none 0 0, .slice none 0 0, .slice none 0 0, .slice none 0 0, .int .i64 0, .string ⟨#[]⟩, .string ⟨#[]⟩, .int .u64 0, .int .i64 0] 50)) (w.heap.size + 1) #[.bool false, .int .u64 0, .int .u64 0, .int .i64 0, .int .i64 0, .string ⟨#[]⟩, .string ⟨#[]⟩, .bool false, .int .i64 0, .slice none 0 0, .slice none 0 0, .slice none 0 0, .int .i64 0, .int .i64 0, .string ⟨#[]⟩, .int .u64 0, .slice none 0 0, .slice none 0 0, .slice none 0 0, .slice none 0 0, .int .i64 0, .string ⟨#[]⟩, .string ⟨#[]⟩, .int .u64 0, .int .i64 0] 50 := by
    have := Blk.new (w.alloc (.cells #[.int .i64 3, .int .i64 i, .int .u64 ver, .int .u64 word, c4, c5, c6, c7, c8, c9, c10, c11, c12, c13, c14, c15, c16, c17, c18, c19, c20, c21, c22, c23, c24, c25] 39)) #[.bool false, .int .u64 0, .int .u64 0, .int .i64 0, .int .i64 0, .string ⟨#[]⟩, .string ⟨#[]⟩, .bool false, .int .i64 0, .slice none 0 0, .slice none 0 0, .slice none 0 0, .int .i64 0, .int .i64 0, .string ⟨#[]⟩, .int .u64 0, .slice none 0 0, .slice none 0 0, .slice none 0 0, .slice none 0 0, .int .i64 0, .string ⟨#[]⟩, .string ⟨#[]⟩, .int .u64 0, .int .i64 0] 50
    simpa using this
  have h2 := h.below hb2
  have hgl := h.cells.rows.lt
  have hgbl := h.blocks.lt
  have hol := h.head.lt
  have hocl := h.cells.head.lt
  have hgrl := h.records.lt
  generalize hW : ((w.alloc (.cells #[.int .i64 3, .int .i64 i, .int .u64 ver, .int .u64 word, c4, c5, c6, c7, c8, c9, c10, c11, c12, c13, c14, c15, c16, c17, c18, c19, c20, c21, c22, c23, c24, c25] 39)).alloc (.cells #[.bool false, .int .u64 0, .int .u64 0, .int .i64 0, .int .i64 0, .string ⟨#[]⟩, .string ⟨#[]⟩, .bool false, .int .i64 0, .slice none 0 0, .slice none 0 0, .slice none 0 0, .int .i64 0, .int .i64 0, .string ⟨#[]⟩, .int .u64 0, .slice none 0 0, .slice none 0 0, .slice none 0 0, .slice none 0 0, .int .i64 0, .string ⟨#[]⟩, .string ⟨#[]⟩, .int .u64 0, .int .i64 0] 50)) = wq at hb2 h2 BX BR
  have b0 := BX.at 0 rfl
  go_enter Try.func12, Try.ntmps12
  go_wp2_with fail
  refine (none_any _ h2).mono ?_
  rintro e w1 ⟨rfl, rfl⟩
  clear hW
  go_wp2_with (refine wpList_load_row rfl 39 _ rfl w.heap.size rfl 39 _ (0, 0) _ BX.h Try.underlying39 rfl (by kernel_rfl) ?_)
  refine (write_cas i ver word c4 c5 c6 c7 c8 c9 c10 c11 c12 c13 c14 c15 c16 c17 c18 c19 c20 c21 c22 c23 c24 c25 _ h2 v0 v1 x0 x1).mono ?_
  rintro e w3 ⟨rfl, h3, hF3⟩
  have hsz := hb2.size
  have BR3 := hF3.blk BR (by simp; omega)
  clear h2 BX BR
  go_wp2_with (first
    | (refine wpList_load_row rfl 50 _ rfl (w.heap.size + 1) rfl 50 _ (0, 0) _ (BR3).h Try.underlying50 rfl (by kernel_rfl) ?_)
    | (refine wpList_store_row rfl 50 _ _ rfl (w.heap.size + 1) _ rfl rfl 50 _ (BR3).h (by kernel_rfl) (by rfl) (by kernel_rfl) ?_))
  refine bodyPost_ret (results_cell_row rfl _ _ (w.heap.size + 1) 50 #[.bool (casB L i ver), .int .u64 0, .int .u64 0, .int .i64 0, .int .i64 0, .string ⟨#[]⟩, .string ⟨#[]⟩, .bool false, .int .i64 0, .slice none 0 0, .slice none 0 0, .slice none 0 0, .int .i64 0, .int .i64 0, .string ⟨#[]⟩, .int .u64 0, .slice none 0 0, .slice none 0 0, .slice none 0 0, .slice none 0 0, .int .i64 0, .string ⟨#[]⟩, .string ⟨#[]⟩, .int .u64 0, .int .i64 0] (0, 0) _ rfl (Blk.row BR3 #[.bool (casB L i ver), .int .u64 0, .int .u64 0, .int .i64 0, .int .i64 0, .string ⟨#[]⟩, .string ⟨#[]⟩, .bool false, .int .i64 0, .slice none 0 0, .slice none 0 0, .slice none 0 0, .int .i64 0, .int .i64 0, .string ⟨#[]⟩, .int .u64 0, .slice none 0 0, .slice none 0 0, .slice none 0 0, .slice none 0 0, .int .i64 0, .string ⟨#[]⟩, .string ⟨#[]⟩, .int .u64 0, .int .i64 0]).h Try.underlying50 rfl (by kernel_rfl)) rfl ⟨rfl, ?_, ?_⟩
  · exact h3.off (Fr.row (S := [w.heap.size + 1]) _ _ (by simp)) (by simp; omega)
  · exact ((((Fr.of_below hb2).trans hF3).more (S' := [g, gb, w.heap.size + 1]) (by simp)).trans (Fr.row _ _ (by simp))).less
set_option maxRecDepth 100000 in
set_option maxHeartbeats 3200000 in
theorem do_load {o oc g gb gr A T : Nat} {L : List (Int × Int)} {bs rs : List (List Value)} (i ver word : Int) (c4 c5 c6 c7 c8 c9 c10 c11 c12 c13 c14 c15 c16 c17 c18 c19 c20 c21 c22 c23 c24 c25 : Value) (w : World) (h : MemAt w o oc g gb gr A T L bs rs) :
    Calls Try.prog 12 #[.pointer (some ⟨o, 0, none⟩), .agg #[.int .i64 1, .int .i64 i, .int .u64 ver, .int .u64 word, c4, c5, c6, c7, c8, c9, c10, c11, c12, c13, c14, c15, c16, c17, c18, c19, c20, c21, c22, c23, c24, c25]] w fun e w' => e = .returned (.agg #[.bool (inB L.length i), .int .u64 (loadW L i), .int .u64 (loadV L i), .int .i64 0, .int .i64 0, .string ⟨#[]⟩, .string ⟨#[]⟩, .bool false, .int .i64 0, .slice none 0 0, .slice none 0 0, .slice none 0 0, .int .i64 0, .int .i64 0, .string ⟨#[]⟩, .int .u64 0, .slice none 0 0, .slice none 0 0, .slice none 0 0, .slice none 0 0, .int .i64 0, .string ⟨#[]⟩, .string ⟨#[]⟩, .int .u64 0, .int .i64 0]) ∧ Below w.heap.size w w' := by
  have hb2 : Below w.heap.size w ((w.alloc (.cells #[.int .i64 1, .int .i64 i, .int .u64 ver, .int .u64 word, c4, c5, c6, c7, c8, c9, c10, c11, c12, c13, c14, c15, c16, c17, c18, c19, c20, c21, c22, c23, c24, c25] 39)).alloc (.cells #[.bool false, .int .u64 0, .int .u64 0, .int .i64 0, .int .i64 0, .string ⟨#[]⟩, .string ⟨#[]⟩, .bool false, .int .i64 0, .slice none 0 0, .slice none 0 0, .slice none 0 0, .int .i64 0, .int .i64 0, .string ⟨#[]⟩, .int .u64 0, .slice none 0 0, .slice none 0 0, .slice none 0 0, .slice none 0 0, .int .i64 0, .string ⟨#[]⟩, .string ⟨#[]⟩, .int .u64 0, .int .i64 0] 50)) := by (repeat (first | exact Below.refl _ _ | assumption | refine below_alloc2 ?_ (by first | exact Nat.le_refl _ | omega) _ | refine Below.drew ?_ | refine below_drewN ?_ _ | refine below_push2 ?_ ‹_› (by first | exact Nat.le_refl _ | omega) | refine Below.setCell ?_ (by first | (simp; done) | (simp; omega) | omega) _))
  have BX := (Blk.new w #[.int .i64 1, .int .i64 i, .int .u64 ver, .int .u64 word, c4, c5, c6, c7, c8, c9, c10, c11, c12, c13, c14, c15, c16, c17, c18, c19, c20, c21, c22, c23, c24, c25] 39).alloc (.cells #[.bool false, .int .u64 0, .int .u64 0, .int .i64 0, .int .i64 0, .string ⟨#[]⟩, .string ⟨#[]⟩, .bool false, .int .i64 0, .slice none 0 0, .slice none 0 0, .slice none 0 0, .int .i64 0, .int .i64 0, .string ⟨#[]⟩, .int .u64 0, .slice none 0 0, .slice none 0 0, .slice none 0 0, .slice none 0 0, .int .i64 0, .string ⟨#[]⟩, .string ⟨#[]⟩, .int .u64 0, .int .i64 0] 50)
  have BR : Blk ((w.alloc (.cells #[.int .i64 1, .int .i64 i, .int .u64 ver, .int .u64 word, c4, c5, c6, c7, c8, c9, c10, c11, c12, c13, c14, c15, c16, c17, c18, c19, c20, c21, c22, c23, c24, c25] 39)).alloc (.cells #[.bool false, .int .u64 0, .int .u64 0, .int .i64 0, .int .i64 0, .string ⟨#[]⟩, .string ⟨#[]⟩, .bool false, .int .i64 0, .slice none 0 0, .slice none 0 0, .slice none 0 0, .int .i64 0, .int .i64 0, .string ⟨#[]⟩, .int .u64 0, .slice none 0 0, .slice none 0 0, .slice none 0 0, .slice none 0 0, .int .i64 0, .string ⟨#[]⟩, .string ⟨#[]⟩, .int .u64 0, .int .i64 0] 50)) (w.heap.size + 1) #[.bool false, .int .u64 0, .int .u64 0, .int .i64 0, .int .i64 0, .string ⟨#[]⟩, .string ⟨#[]⟩, .bool false, .int .i64 0, .slice none 0 0, .slice none 0 0, .slice none 0 0, .int .i64 0, .int .i64 0, .string ⟨#[]⟩, .int .u64 0, .slice none 0 0, .slice none 0 0, .slice none 0 0, .slice none 0 0, .int .i64 0, .string ⟨#[]⟩, .string ⟨#[]⟩, .int .u64 0, .int .i64 0] 50 := by
    have := Blk.new (w.alloc (.cells #[.int .i64 1, .int .i64 i, .int .u64 ver, .int .u64 word, c4, c5, c6, c7, c8, c9, c10, c11, c12, c13, c14, c15, c16, c17, c18, c19, c20, c21, c22, c23, c24, c25] 39)) #[.bool false, .int .u64 0, .int .u64 0, .int .i64 0, .int .i64 0, .string ⟨#[]⟩, .string ⟨#[]⟩, .bool false, .int .i64 0, .slice none 0 0, .slice none 0 0, .slice none 0 0, .int .i64 0, .int .i64 0, .string ⟨#[]⟩, .int .u64 0, .slice none 0 0, .slice none 0 0, .slice none 0 0, .slice none 0 0, .int .i64 0, .string ⟨#[]⟩, .string ⟨#[]⟩, .int .u64 0, .int .i64 0] 50
    simpa using this
  have h2 := h.below hb2
  generalize hW : ((w.alloc (.cells #[.int .i64 1, .int .i64 i, .int .u64 ver, .int .u64 word, c4, c5, c6, c7, c8, c9, c10, c11, c12, c13, c14, c15, c16, c17, c18, c19, c20, c21, c22, c23, c24, c25] 39)).alloc (.cells #[.bool false, .int .u64 0, .int .u64 0, .int .i64 0, .int .i64 0, .string ⟨#[]⟩, .string ⟨#[]⟩, .bool false, .int .i64 0, .slice none 0 0, .slice none 0 0, .slice none 0 0, .int .i64 0, .int .i64 0, .string ⟨#[]⟩, .int .u64 0, .slice none 0 0, .slice none 0 0, .slice none 0 0, .slice none 0 0, .int .i64 0, .string ⟨#[]⟩, .string ⟨#[]⟩, .int .u64 0, .int .i64 0] 50)) = wq at hb2 h2 BX BR
  have b0 := BX.at 0 rfl
  have b1 := BX.at 1 rfl
  go_enter Try.func12, Try.ntmps12
  go_wp2_with fail
  refine (none_any _ h2).mono ?_
  rintro e w1 ⟨rfl, rfl⟩
  clear hW
  go_wp2_with fail
  refine (mload_any i _ h2).mono ?_
  rintro e w3 ⟨rfl, hb3⟩
  have hB3 := below_push2 hb2 hb3 (Nat.le_refl _)
  have BR3 := BR.below hb3
  clear h2 BX BR b0 b1
  have g0 := BR3.at 0 rfl
  have g1 := BR3.at 1 rfl
  have g2 := BR3.at 2 rfl
  have f0 := BR3.free 0
  have f1 := BR3.free 1
  have f2 := BR3.free 2
  have BR4 := ((BR3.set 1 (.int .u64 (loadW L i))).set 2 (.int .u64 (loadV L i))).set 0 (.bool (inB L.length i))
  simp only [List.setIfInBounds_toArray, List.set_cons_succ, List.set_cons_zero] at BR4
  go_wp2_with (first
    | (refine wpList_load_row rfl 50 _ rfl (w.heap.size + 1) rfl 50 _ (0, 0) _ (BR4).h Try.underlying50 rfl (by kernel_rfl) ?_)
    | (refine wpList_store_row rfl 50 _ _ rfl (w.heap.size + 1) _ rfl rfl 50 _ (BR4).h (by kernel_rfl) (by rfl) (by kernel_rfl) ?_))
  refine bodyPost_ret (results_cell_row rfl _ _ (w.heap.size + 1) 50 #[.bool (inB L.length i), .int .u64 (loadW L i), .int .u64 (loadV L i), .int .i64 0, .int .i64 0, .string ⟨#[]⟩, .string ⟨#[]⟩, .bool false, .int .i64 0, .slice none 0 0, .slice none 0 0, .slice none 0 0, .int .i64 0, .int .i64 0, .string ⟨#[]⟩, .int .u64 0, .slice none 0 0, .slice none 0 0, .slice none 0 0, .slice none 0 0, .int .i64 0, .string ⟨#[]⟩, .string ⟨#[]⟩, .int .u64 0, .int .i64 0] (0, 0) _ rfl (Blk.row BR4 #[.bool (inB L.length i), .int .u64 (loadW L i), .int .u64 (loadV L i), .int .i64 0, .int .i64 0, .string ⟨#[]⟩, .string ⟨#[]⟩, .bool false, .int .i64 0, .slice none 0 0, .slice none 0 0, .slice none 0 0, .int .i64 0, .int .i64 0, .string ⟨#[]⟩, .int .u64 0, .slice none 0 0, .slice none 0 0, .slice none 0 0, .slice none 0 0, .int .i64 0, .string ⟨#[]⟩, .string ⟨#[]⟩, .int .u64 0, .int .i64 0]).h Try.underlying50 rfl (by kernel_rfl)) rfl ⟨rfl, ?_⟩
  exact below_setRow (((hB3.setCell (by simp) _).setCell (by simp) _).setCell (by simp) _) (by omega) _
end Go.Proofs.Ytpempcefgfmniaa.MemP

/-
  The plain things of package api, and how they lie in cells: nodes, answers, plans, blocks, operations, accesses.
-/
namespace Go.Proofs.Ytpempcefgfmniaa.Dp
open Go.RowKit RefP
set_option linter.unusedVariables false
set_option linter.unusedSimpArgs false

structure PairV where
  key : ByteArray
  val : Int
deriving DecidableEq
structure NodeV where
  level : Int
  low : ByteArray
  high : ByteArray
  last : Bool
  next : Int
  keys : List ByteArray
  vals : List Int
  kids : List Int
deriving DecidableEq
structure AnsV where
  code : Int
  key : ByteArray
  val : Int
  pairs : List PairV
deriving DecidableEq
structure StepV where
  cell : Int
  ver : Int
  old : Int
  new : Int
  lin : Bool
deriving DecidableEq
structure PlanV where
  thread : Int
  ans : AnsV
  steps : List StepV
  extra : List Int
deriving DecidableEq
structure BlockV where
  kind : Int
  node : NodeV
  plan : PlanV
  pairs : List PairV
deriving DecidableEq
structure OpV where
  kind : Int
  key : ByteArray
  upto : ByteArray
  val : Int
  limit : Int
deriving DecidableEq
structure AccV where
  kind : Int
  at_ : Int
  ver : Int
  word : Int
  block : BlockV
  op : OpV
structure ReplyV where
  ok : Bool
  word : Int
  ver : Int
  block : BlockV
  op : OpV
structure ChangeV where
  cell : Int
  from_ : Int
  word : Int
  ver : Int
  empty : Bool
  lin : Bool
  node : NodeV

/-- the head of a slice but for its length -/
structure Hd where
  a : Option Addr
  c : Nat
def Hd.v (h : Hd) (n : Nat) : Value := .slice h.a n h.c
def Hd.nil : Hd := ⟨none, 0⟩
/-- a row under a head -/
structure HRow {α : Type} (E : Cod α) (w : World) (S : List Nat) (h : Hd) (xs : List α) : Prop where
  le : xs.length ≤ h.c
  cap : h.c ≤ maxLen
  row : RowRep E w S h.a xs
theorem HRow.keep {α : Type} {E : Cod α} {w w' : World} {S : List Nat} {h : Hd} {xs : List α} (H : HRow E w S h xs) (k : Keeps S w w') : HRow E w' S h xs := ⟨H.le, H.cap, H.row.keep k⟩
theorem HRow.more {α : Type} {E : Cod α} {w : World} {S S' : List Nat} {h : Hd} {xs : List α} (H : HRow E w S h xs) (k : ∀ b ∈ S', b ∈ S ∨ w.heap.size ≤ b) : HRow E w S' h xs := ⟨H.le, H.cap, H.row.more k⟩
theorem HRow.nil {α : Type} (E : Cod α) (w : World) (S : List Nat) : HRow E w S Hd.nil [] := ⟨Nat.le_refl _, Nat.zero_le _, RowRep.nil _ _ _ _⟩
theorem rowC_of {α : Type} {E : Cod α} {w : World} {S : List Nat} {cs : List Value} {xs : List α} (h : (rowC E).rep w S cs xs) : ∃ q : Hd, cs = [q.v xs.length] ∧ HRow E w S q xs := by
  obtain ⟨a, c, e, h1, h2, h3⟩ := h
  exact ⟨⟨a, c⟩, e, h1, h2, h3⟩
theorem rowC_mk {α : Type} {E : Cod α} {w : World} {S : List Nat} {q : Hd} {xs : List α} (h : HRow E w S q xs) : (rowC E).rep w S [q.v xs.length] xs := ⟨q.a, q.c, rfl, h.le, h.cap, h.row⟩

abbrev i64C : Cod Int := intC .i64
abbrev u64C : Cod Int := intC .u64
def I64 (n : Int) : Prop := -9223372036854775808 ≤ n ∧ n ≤ 9223372036854775807
def U64 (n : Int) : Prop := 0 ≤ n ∧ n ≤ 18446744073709551615
theorem I64.of {n : Int} (h : (Lit.int .i64 n).wf = true) : I64 n := Lift.i64_range h
theorem U64.of {n : Int} (h : (Lit.int .u64 n).wf = true) : U64 n := Lift.u64_range h

def pairT : Cod PairV := isoC (pairC strC (pairC u64C unitC)) (fun x => (x.key, x.val, ()))
def stepT : Cod StepV := isoC (pairC i64C (pairC u64C (pairC u64C (pairC u64C (pairC boolC unitC))))) (fun x => (x.cell, x.ver, x.old, x.new, x.lin, ()))
def nodeT : Cod NodeV := isoC (pairC i64C (pairC strC (pairC strC (pairC boolC (pairC i64C (pairC (rowC strC) (pairC (rowC u64C) (pairC (rowC i64C) unitC)))))))) (fun x => (x.level, x.low, x.high, x.last, x.next, x.keys, x.vals, x.kids, ()))
def ansT : Cod AnsV := isoC (pairC i64C (pairC strC (pairC u64C (pairC (rowC pairT) unitC)))) (fun x => (x.code, x.key, x.val, x.pairs, ()))
def planT : Cod PlanV := isoC (pairC i64C (pairC ansT (pairC (rowC stepT) (pairC (rowC u64C) unitC)))) (fun x => (x.thread, x.ans, x.steps, x.extra, ()))
def blockT : Cod BlockV := isoC (pairC i64C (pairC nodeT (pairC planT (pairC (rowC pairT) unitC)))) (fun x => (x.kind, x.node, x.plan, x.pairs, ()))
def opT : Cod OpV := isoC (pairC i64C (pairC strC (pairC strC (pairC u64C (pairC i64C unitC))))) (fun x => (x.kind, x.key, x.upto, x.val, x.limit, ()))
def accT : Cod AccV := isoC (pairC i64C (pairC i64C (pairC u64C (pairC u64C (pairC blockT (pairC opT unitC)))))) (fun x => (x.kind, x.at_, x.ver, x.word, x.block, x.op, ()))
def changeT : Cod ChangeV := isoC (pairC i64C (pairC i64C (pairC u64C (pairC u64C (pairC boolC (pairC boolC (pairC nodeT unitC))))))) (fun x => (x.cell, x.from_, x.word, x.ver, x.empty, x.lin, x.node, ()))

/-! written out -/
def pairL (x : PairV) : List Value := [.string x.key, .int .u64 x.val]
structure PairOk (x : PairV) : Prop where
  key : x.key.size ≤ maxLen
  val : U64 x.val
def stepL (x : StepV) : List Value := [.int .i64 x.cell, .int .u64 x.ver, .int .u64 x.old, .int .u64 x.new, .bool x.lin]
structure StepOk (x : StepV) : Prop where
  cell : I64 x.cell
  ver : U64 x.ver
  old : U64 x.old
  new : U64 x.new
structure NodeH where
  keys : Hd
  vals : Hd
  kids : Hd
def nodeL (h : NodeH) (x : NodeV) : List Value := [.int .i64 x.level, .string x.low, .string x.high, .bool x.last, .int .i64 x.next, h.keys.v x.keys.length, h.vals.v x.vals.length, h.kids.v x.kids.length]
structure NodeOk (w : World) (S : List Nat) (h : NodeH) (x : NodeV) : Prop where
  level : I64 x.level
  low : x.low.size ≤ maxLen
  high : x.high.size ≤ maxLen
  next : I64 x.next
  keys : HRow strC w S h.keys x.keys
  vals : HRow u64C w S h.vals x.vals
  kids : HRow i64C w S h.kids x.kids
def ansL (h : Hd) (x : AnsV) : List Value := [.int .i64 x.code, .string x.key, .int .u64 x.val, h.v x.pairs.length]
structure AnsOk (w : World) (S : List Nat) (h : Hd) (x : AnsV) : Prop where
  code : I64 x.code
  key : x.key.size ≤ maxLen
  val : U64 x.val
  pairs : HRow pairT w S h x.pairs
structure PlanH where
  pairs : Hd
  steps : Hd
  extra : Hd
def planL (h : PlanH) (x : PlanV) : List Value := .int .i64 x.thread :: (ansL h.pairs x.ans ++ [h.steps.v x.steps.length, h.extra.v x.extra.length])
structure PlanOk (w : World) (S : List Nat) (h : PlanH) (x : PlanV) : Prop where
  thread : I64 x.thread
  ans : AnsOk w S h.pairs x.ans
  steps : HRow stepT w S h.steps x.steps
  extra : HRow u64C w S h.extra x.extra
structure BlockH where
  node : NodeH
  plan : PlanH
  pairs : Hd
def blockL (h : BlockH) (x : BlockV) : List Value := .int .i64 x.kind :: (nodeL h.node x.node ++ (planL h.plan x.plan ++ [h.pairs.v x.pairs.length]))
structure BlockOk (w : World) (S : List Nat) (h : BlockH) (x : BlockV) : Prop where
  kind : I64 x.kind
  node : NodeOk w S h.node x.node
  plan : PlanOk w S h.plan x.plan
  pairs : HRow pairT w S h.pairs x.pairs
def opL (x : OpV) : List Value := [.int .i64 x.kind, .string x.key, .string x.upto, .int .u64 x.val, .int .i64 x.limit]
structure OpOk (x : OpV) : Prop where
  kind : I64 x.kind
  key : x.key.size ≤ maxLen
  upto : x.upto.size ≤ maxLen
  val : U64 x.val
  limit : I64 x.limit
def accL (h : BlockH) (x : AccV) : List Value := [.int .i64 x.kind, .int .i64 x.at_, .int .u64 x.ver, .int .u64 x.word] ++ (blockL h x.block ++ opL x.op)
structure AccOk (w : World) (S : List Nat) (h : BlockH) (x : AccV) : Prop where
  kind : I64 x.kind
  at_ : I64 x.at_
  ver : U64 x.ver
  word : U64 x.word
  block : BlockOk w S h x.block
  op : OpOk x.op
def changeL (h : NodeH) (x : ChangeV) : List Value := [.int .i64 x.cell, .int .i64 x.from_, .int .u64 x.word, .int .u64 x.ver, .bool x.empty, .bool x.lin] ++ nodeL h x.node
structure ChangeOk (w : World) (S : List Nat) (h : NodeH) (x : ChangeV) : Prop where
  cell : I64 x.cell
  from_ : I64 x.from_
  word : U64 x.word
  ver : U64 x.ver
  node : NodeOk w S h x.node
theorem wf_i64 {n : Int} (h : I64 n) : (Lit.int .i64 n).wf = true := by
  obtain ⟨h0, h1⟩ := h
  simp [Lit.wf, IntKind.min, IntKind.max, IntKind.bits, IntKind.signed]
  omega
theorem wf_u64 {n : Int} (h : U64 n) : (Lit.int .u64 n).wf = true := by
  obtain ⟨h0, h1⟩ := h
  simp [Lit.wf, IntKind.min, IntKind.max, IntKind.bits, IntKind.signed]
  omega
theorem pairT_of {w : World} {S : List Nat} {cs : List Value} {x : PairV} (h : pairT.rep w S cs x) : cs = pairL x ∧ PairOk x := by
  obtain ⟨_, _, rfl, ⟨rfl, h0⟩, _, _, rfl, ⟨rfl, h1⟩, rfl⟩ := h
  exact ⟨rfl, h0, U64.of h1⟩
theorem pairT_mk {w : World} {S : List Nat} {x : PairV} (h : PairOk x) : pairT.rep w S (pairL x) x :=
  ⟨[_], [_], rfl, ⟨rfl, h.key⟩, [_], [], rfl, ⟨rfl, wf_u64 h.val⟩, rfl⟩
theorem stepT_of {w : World} {S : List Nat} {cs : List Value} {x : StepV} (h : stepT.rep w S cs x) : cs = stepL x ∧ StepOk x := by
  obtain ⟨_, _, rfl, ⟨rfl, h0⟩, _, _, rfl, ⟨rfl, h1⟩, _, _, rfl, ⟨rfl, h2⟩, _, _, rfl, ⟨rfl, h3⟩, _, _, rfl, rfl, rfl⟩ := h
  exact ⟨rfl, I64.of h0, U64.of h1, U64.of h2, U64.of h3⟩
theorem stepT_mk {w : World} {S : List Nat} {x : StepV} (h : StepOk x) : stepT.rep w S (stepL x) x :=
  ⟨[_], _, rfl, ⟨rfl, wf_i64 h.cell⟩, [_], _, rfl, ⟨rfl, wf_u64 h.ver⟩, [_], _, rfl, ⟨rfl, wf_u64 h.old⟩, [_], _, rfl, ⟨rfl, wf_u64 h.new⟩, [_], [], rfl, rfl, rfl⟩
theorem nodeT_of {w : World} {S : List Nat} {cs : List Value} {x : NodeV} (h : nodeT.rep w S cs x) : ∃ q, cs = nodeL q x ∧ NodeOk w S q x := by
  obtain ⟨_, _, rfl, ⟨rfl, h0⟩, _, _, rfl, ⟨rfl, h1⟩, _, _, rfl, ⟨rfl, h2⟩, _, _, rfl, rfl, _, _, rfl, ⟨rfl, h4⟩, _, _, rfl, h5, _, _, rfl, h6, _, _, rfl, h7, rfl⟩ := h
  obtain ⟨q5, rfl, r5⟩ := rowC_of h5
  obtain ⟨q6, rfl, r6⟩ := rowC_of h6
  obtain ⟨q7, rfl, r7⟩ := rowC_of h7
  exact ⟨⟨q5, q6, q7⟩, rfl, I64.of h0, h1, h2, I64.of h4, r5, r6, r7⟩
theorem nodeT_mk {w : World} {S : List Nat} {q : NodeH} {x : NodeV} (h : NodeOk w S q x) : nodeT.rep w S (nodeL q x) x :=
  ⟨[_], _, rfl, ⟨rfl, wf_i64 h.level⟩, [_], _, rfl, ⟨rfl, h.low⟩, [_], _, rfl, ⟨rfl, h.high⟩, [_], _, rfl, rfl, [_], _, rfl, ⟨rfl, wf_i64 h.next⟩, [_], _, rfl, rowC_mk h.keys, [_], _, rfl, rowC_mk h.vals, [_], [], rfl, rowC_mk h.kids, rfl⟩
theorem ansT_of {w : World} {S : List Nat} {cs : List Value} {x : AnsV} (h : ansT.rep w S cs x) : ∃ q, cs = ansL q x ∧ AnsOk w S q x := by
  obtain ⟨_, _, rfl, ⟨rfl, h0⟩, _, _, rfl, ⟨rfl, h1⟩, _, _, rfl, ⟨rfl, h2⟩, _, _, rfl, h3, rfl⟩ := h
  obtain ⟨q3, rfl, r3⟩ := rowC_of h3
  exact ⟨q3, rfl, I64.of h0, h1, U64.of h2, r3⟩
theorem ansT_mk {w : World} {S : List Nat} {q : Hd} {x : AnsV} (h : AnsOk w S q x) : ansT.rep w S (ansL q x) x :=
  ⟨[_], _, rfl, ⟨rfl, wf_i64 h.code⟩, [_], _, rfl, ⟨rfl, h.key⟩, [_], _, rfl, ⟨rfl, wf_u64 h.val⟩, [_], [], rfl, rowC_mk h.pairs, rfl⟩
theorem planT_of {w : World} {S : List Nat} {cs : List Value} {x : PlanV} (h : planT.rep w S cs x) : ∃ q, cs = planL q x ∧ PlanOk w S q x := by
  obtain ⟨_, _, rfl, ⟨rfl, h0⟩, _, _, rfl, h1, _, _, rfl, h2, _, _, rfl, h3, rfl⟩ := h
  obtain ⟨q1, rfl, r1⟩ := ansT_of h1
  obtain ⟨q2, rfl, r2⟩ := rowC_of h2
  obtain ⟨q3, rfl, r3⟩ := rowC_of h3
  exact ⟨⟨q1, q2, q3⟩, rfl, I64.of h0, r1, r2, r3⟩
theorem planT_mk {w : World} {S : List Nat} {q : PlanH} {x : PlanV} (h : PlanOk w S q x) : planT.rep w S (planL q x) x :=
  ⟨[_], _, rfl, ⟨rfl, wf_i64 h.thread⟩, _, _, rfl, ansT_mk h.ans, [_], _, rfl, rowC_mk h.steps, [_], [], rfl, rowC_mk h.extra, rfl⟩
theorem blockT_of {w : World} {S : List Nat} {cs : List Value} {x : BlockV} (h : blockT.rep w S cs x) : ∃ q, cs = blockL q x ∧ BlockOk w S q x := by
  obtain ⟨_, _, rfl, ⟨rfl, h0⟩, _, _, rfl, h1, _, _, rfl, h2, _, _, rfl, h3, rfl⟩ := h
  obtain ⟨q1, rfl, r1⟩ := nodeT_of h1
  obtain ⟨q2, rfl, r2⟩ := planT_of h2
  obtain ⟨q3, rfl, r3⟩ := rowC_of h3
  exact ⟨⟨q1, q2, q3⟩, rfl, I64.of h0, r1, r2, r3⟩
theorem blockT_mk {w : World} {S : List Nat} {q : BlockH} {x : BlockV} (h : BlockOk w S q x) : blockT.rep w S (blockL q x) x :=
  ⟨[_], _, rfl, ⟨rfl, wf_i64 h.kind⟩, _, _, rfl, nodeT_mk h.node, _, _, rfl, planT_mk h.plan, [_], [], rfl, rowC_mk h.pairs, rfl⟩
theorem opT_of {w : World} {S : List Nat} {cs : List Value} {x : OpV} (h : opT.rep w S cs x) : cs = opL x ∧ OpOk x := by
  obtain ⟨_, _, rfl, ⟨rfl, h0⟩, _, _, rfl, ⟨rfl, h1⟩, _, _, rfl, ⟨rfl, h2⟩, _, _, rfl, ⟨rfl, h3⟩, _, _, rfl, ⟨rfl, h4⟩, rfl⟩ := h
  exact ⟨rfl, I64.of h0, h1, h2, U64.of h3, I64.of h4⟩
theorem opT_mk {w : World} {S : List Nat} {x : OpV} (h : OpOk x) : opT.rep w S (opL x) x :=
  ⟨[_], _, rfl, ⟨rfl, wf_i64 h.kind⟩, [_], _, rfl, ⟨rfl, h.key⟩, [_], _, rfl, ⟨rfl, h.upto⟩, [_], _, rfl, ⟨rfl, wf_u64 h.val⟩, [_], [], rfl, ⟨rfl, wf_i64 h.limit⟩, rfl⟩
theorem accT_of {w : World} {S : List Nat} {cs : List Value} {x : AccV} (h : accT.rep w S cs x) : ∃ q, cs = accL q x ∧ AccOk w S q x := by
  obtain ⟨_, _, rfl, ⟨rfl, h0⟩, _, _, rfl, ⟨rfl, h1⟩, _, _, rfl, ⟨rfl, h2⟩, _, _, rfl, ⟨rfl, h3⟩, _, _, rfl, h4, _, _, rfl, h5, rfl⟩ := h
  obtain ⟨q4, rfl, r4⟩ := blockT_of h4
  obtain ⟨rfl, r5⟩ := opT_of h5
  refine ⟨q4, ?_, I64.of h0, I64.of h1, U64.of h2, U64.of h3, r4, r5⟩
  simp [accL]
theorem changeT_of {w : World} {S : List Nat} {cs : List Value} {x : ChangeV} (h : changeT.rep w S cs x) : ∃ q, cs = changeL q x ∧ ChangeOk w S q x := by
  obtain ⟨_, _, rfl, ⟨rfl, h0⟩, _, _, rfl, ⟨rfl, h1⟩, _, _, rfl, ⟨rfl, h2⟩, _, _, rfl, ⟨rfl, h3⟩, _, _, rfl, rfl, _, _, rfl, rfl, _, _, rfl, h6, rfl⟩ := h
  obtain ⟨q6, rfl, r6⟩ := nodeT_of h6
  refine ⟨q6, ?_, I64.of h0, I64.of h1, U64.of h2, U64.of h3, r6⟩
  simp [changeL]
theorem NodeOk.keep {w w' : World} {S : List Nat} {q : NodeH} {x : NodeV} (h : NodeOk w S q x) (k : Keeps S w w') : NodeOk w' S q x := ⟨h.level, h.low, h.high, h.next, h.keys.keep k, h.vals.keep k, h.kids.keep k⟩
theorem AnsOk.keep {w w' : World} {S : List Nat} {q : Hd} {x : AnsV} (h : AnsOk w S q x) (k : Keeps S w w') : AnsOk w' S q x := ⟨h.code, h.key, h.val, h.pairs.keep k⟩
theorem PlanOk.keep {w w' : World} {S : List Nat} {q : PlanH} {x : PlanV} (h : PlanOk w S q x) (k : Keeps S w w') : PlanOk w' S q x := ⟨h.thread, h.ans.keep k, h.steps.keep k, h.extra.keep k⟩
theorem BlockOk.keep {w w' : World} {S : List Nat} {q : BlockH} {x : BlockV} (h : BlockOk w S q x) (k : Keeps S w w') : BlockOk w' S q x := ⟨h.kind, h.node.keep k, h.plan.keep k, h.pairs.keep k⟩
theorem AccOk.keep {w w' : World} {S : List Nat} {q : BlockH} {x : AccV} (h : AccOk w S q x) (k : Keeps S w w') : AccOk w' S q x := ⟨h.kind, h.at_, h.ver, h.word, h.block.keep k, h.op⟩
end Go.Proofs.Ytpempcefgfmniaa.Dp

/-
  Light of a node (chapter 10's law), and of a row of accesses (chapter 26's): contracts.
-/
namespace Go.Proofs.Ytpempcefgfmniaa.Dp
open Go.RowKit RefP
set_option linter.unusedVariables false
set_option linter.unusedSimpArgs false
/-- is a node small? -/
def lightN (x : NodeV) : Bool := x.keys.all (fun k => decide (k.size ≤ 100)) && (decide (x.keys.length ≤ 80) && (decide (x.vals.length ≤ 80) && (decide (x.kids.length ≤ 80) && (decide (x.low.size ≤ 100) && decide (x.high.size ≤ 100)))))
/-- a string of a row -/
theorem str_cell {w : World} {S : List Nat} {h : Hd} {xs : List ByteArray} (H : HRow strC w S h xs) (k : Nat) (hk : k < xs.length) : ∃ b off, h.a = some ⟨b, off, none⟩ ∧ b < w.heap.size ∧ w.cell? ⟨b, off + k, none⟩ = some (.string xs[k]) := by
  obtain ⟨b, off, e, hb, _, hc⟩ := H.row (by omega)
  obtain ⟨cs, ⟨rfl, _⟩, hv⟩ := hc k xs[k] (List.getElem?_eq_getElem hk)
  refine ⟨b, off, e, hb, ?_⟩
  have := hv 0 _ rfl
  rw [show strC.k = 1 from rfl, Nat.mul_one, Nat.add_zero] at this
  exact this
abbrev nodeA (h : NodeH) (x : NodeV) : Array Value := #[.int .i64 x.level, .string x.low, .string x.high, .bool x.last, .int .i64 x.next, .slice h.keys.a x.keys.length h.keys.c, .slice h.vals.a x.vals.length h.vals.c, .slice h.kids.a x.kids.length h.kids.c]
theorem light_part {x : NodeV} {k : Nat} (hk : k < x.keys.length) (h : ¬ (x.keys[k]).size ≤ 100) : lightN x = false := by
  have : x.keys.all (fun k => decide (k.size ≤ 100)) = false := by
    rw [Bool.eq_false_iff]
    intro e
    rw [List.all_eq_true] at e
    exact h (of_decide_eq_true (e _ (List.getElem_mem hk)))
  simp [lightN, this]
set_option maxRecDepth 100000 in
set_option maxHeartbeats 3200000 in
theorem light10_any (S : List Nat) (h : NodeH) (x : NodeV) (w : World) (H : NodeOk w S h x) : Calls Try.prog 45 #[.agg (nodeA h x)] w fun e w' => e = .returned (.bool (lightN x)) ∧ Below w.heap.size w w' := by
  have hb0 : Below w.heap.size w (w.alloc (.cells (nodeA h x) 27)) := by (repeat (first | exact Below.refl _ _ | assumption | refine below_alloc2 ?_ (by first | exact Nat.le_refl _ | omega) _ | refine Below.drew ?_ | refine below_drewN ?_ _ | refine below_push2 ?_ ‹_› (by first | exact Nat.le_refl _ | omega) | refine Below.setCell ?_ (by first | (simp; done) | (simp; omega) | omega) _))
  have BX := Blk.new w (nodeA h x) 27
  have hcap := H.keys.cap
  have hle := H.keys.le
  have hm : (maxLen : Nat) = 9223372036854775807 := by unfold maxLen; rfl
  go_enter Try.func45, Try.ntmps45
  go_wp2_with fail
  go_loopw [8] (fun i wr => ∃ k : Nat, k ≤ x.keys.length ∧ i = .int .i64 k ∧ wr = w.alloc (.cells (nodeA h x) 27) ∧ (x.keys.take k).all (fun k => decide (k.size ≤ 100)) = true) (fun i _ => x.keys.length - (intOf i).toNat)
  case atStart => exact ⟨0, Nat.zero_le _, rfl, rfl, by simp⟩
  case round =>
    obtain ⟨k, hk, rfl, rfl, hall⟩ := hrel
    by_cases hlt : k < x.keys.length
    · have hlt' : (k : Int) < (x.keys.length : Int) := by omega
      obtain ⟨b, off, ha, hbl, hc⟩ := str_cell (H.keys.keep (Keeps.of_below hb0)) k hlt
      rw [ha]
      have hsz : x.keys[k].size ≤ maxLen := by
        obtain ⟨b, off, e, hb, _, hc⟩ := H.keys.row (by omega)
        obtain ⟨cs, ⟨_, h2⟩, _⟩ := hc k x.keys[k] (List.getElem?_eq_getElem hlt)
        exact h2
      by_cases hs : x.keys[k].size ≤ 100
      · have q1 : decide (100 < (x.keys[k].size : Int)) = false := by simp; omega
        have hall2 : (x.keys.take (k + 1)).all (fun k => decide (k.size ≤ 100)) = true := by
          rw [List.take_succ_eq_append_getElem hlt, List.all_append, hall]; simp [hs]
        generalize x.keys[k] = s at hc q1
        clear hs hsz
        go_wp2_with fail
        go_roundw
        case rel => exact ⟨k + 1, by omega, by go_num, trivial, hall2⟩
        case measure => simp [intOf]; omega
      · have q1 : decide (100 < (x.keys[k].size : Int)) = true := by simp; omega
        have hR := Lib.hid (light_part hlt hs)
        generalize x.keys[k] = s at hc q1
        clear hs hsz
        go_wp2_with fail
        go_ret
        exact ⟨by rw [hR.out]; rfl, hb0⟩
    · obtain rfl : k = x.keys.length := by omega
      rw [List.take_length] at hall
      have l1 := H.vals.le
      have l2 := H.vals.cap
      have l3 := H.kids.le
      have l4 := H.kids.cap
      have l5 := H.low
      have l6 := H.high
      have hR : Hid (lightN x = (decide (x.keys.length ≤ 80) && (decide (x.vals.length ≤ 80) && (decide (x.kids.length ≤ 80) && (decide (x.low.size ≤ 100) && decide (x.high.size ≤ 100)))))) := by simp [Hid, lightN, hall]
      clear hall
      by_cases g1 : x.keys.length ≤ 80
      · have q1 : decide ((x.keys.length : Int) ≤ 80) = true := by simp; omega
        by_cases g2 : x.vals.length ≤ 80
        · have q2 : decide ((x.vals.length : Int) ≤ 80) = true := by simp; omega
          by_cases g3 : x.kids.length ≤ 80
          · have q3 : decide ((x.kids.length : Int) ≤ 80) = true := by simp; omega
            by_cases g4 : x.low.size ≤ 100
            · have q4 : decide ((x.low.size : Int) ≤ 100) = true := by simp; omega
              have q5 : decide ((x.high.size : Int) ≤ 100) = decide (x.high.size ≤ 100) := by simp; omega
              have hE := Lib.hid (show lightN x = decide (x.high.size ≤ 100) by rw [hR.out]; simp [g1, g2, g3, g4])
              clear g1 g2 g3 g4 hR
              go_wp2_with fail
              go_ret
              exact ⟨by rw [hE.out]; rfl, hb0⟩
            · have q4 : decide ((x.low.size : Int) ≤ 100) = false := by simp; omega
              have hE := Lib.hid (show lightN x = false by rw [hR.out]; simp [g4])
              clear g1 g2 g3 g4 hR
              go_wp2_with fail
              go_ret
              exact ⟨by rw [hE.out]; rfl, hb0⟩
          · have q3 : decide ((x.kids.length : Int) ≤ 80) = false := by simp; omega
            have hE := Lib.hid (show lightN x = false by rw [hR.out]; simp [g3])
            clear g1 g2 g3 hR
            go_wp2_with fail
            go_ret
            exact ⟨by rw [hE.out]; rfl, hb0⟩
        · have q2 : decide ((x.vals.length : Int) ≤ 80) = false := by simp; omega
          have hE := Lib.hid (show lightN x = false by rw [hR.out]; simp [g2])
          clear g1 g2 hR
          go_wp2_with fail
          go_ret
          exact ⟨by rw [hE.out]; rfl, hb0⟩
      · have q1 : decide ((x.keys.length : Int) ≤ 80) = false := by simp; omega
        have hE := Lib.hid (show lightN x = false by rw [hR.out]; simp [g1])
        clear g1 hR
        go_wp2_with fail
        go_ret
        exact ⟨by rw [hE.out]; rfl, hb0⟩
end Go.Proofs.Ytpempcefgfmniaa.Dp

/-
  Elements that lie flat (no rows in them): their cells in a row, rows of records of them and back.
-/
namespace Go.Proofs.Ytpempcefgfmniaa.Dp
open Go.RowKit RefP
set_option linter.unusedVariables false
set_option linter.unusedSimpArgs false
/-- a codec whose things lie flat -/
structure Flat {α : Type} (C : Cod α) (L : α → List Value) : Prop where
  eq : ∀ {w S cs x}, C.rep w S cs x → cs = L x
  any : ∀ {w S w' S' cs x}, C.rep w S cs x → C.rep w' S' cs x
  pos : 0 < C.k
  len : ∀ x, (L x).length = C.k
  one : ∀ x, ∀ v ∈ L x, v.oneCell' = true
theorem flat_str : Flat strC (fun s => [.string s]) := ⟨fun h => h.1, fun h => h, by decide, fun _ => rfl, fun x v hv => by simp at hv; subst hv; rfl⟩
theorem flat_u64 : Flat u64C (fun n => [.int .u64 n]) := ⟨fun h => h.1, fun h => h, by decide, fun _ => rfl, fun x v hv => by simp at hv; subst hv; rfl⟩
theorem flat_i64 : Flat i64C (fun n => [.int .i64 n]) := ⟨fun h => h.1, fun h => h, by decide, fun _ => rfl, fun x v hv => by simp at hv; subst hv; rfl⟩
theorem flat_pair : Flat pairT pairL := ⟨fun h => (pairT_of h).1, fun h => by obtain ⟨rfl, o⟩ := pairT_of h; exact pairT_mk o, by decide, fun _ => rfl, fun x v hv => by simp [pairL] at hv; rcases hv with rfl | rfl <;> rfl⟩
theorem flat_step : Flat stepT stepL := ⟨fun h => (stepT_of h).1, fun h => by obtain ⟨rfl, o⟩ := stepT_of h; exact stepT_mk o, by decide, fun _ => rfl, fun x v hv => by simp [stepL] at hv; rcases hv with rfl | rfl | rfl | rfl | rfl <;> rfl⟩
section
variable {α : Type} {C : Cod α} {L : α → List Value}
/-- a cell of a row -/
theorem Flat.cell (F : Flat C L) {w : World} {S : List Nat} {h : Hd} {xs : List α} (H : HRow C w S h xs) (i : Nat) (hi : i < xs.length) :
    ∃ b off, h.a = some ⟨b, off, none⟩ ∧ b < w.heap.size ∧ ∀ j v, (L xs[i])[j]? = some v → w.cell? ⟨b, off + i * C.k + j, none⟩ = some v := by
  obtain ⟨b, off, e, hb, _, hc⟩ := H.row (by omega)
  obtain ⟨cs, hr, hv⟩ := hc i xs[i] (List.getElem?_eq_getElem hi)
  rw [F.eq hr] at hv
  exact ⟨b, off, e, hb, hv⟩
/-- the one block of a row -/
theorem Flat.cells (F : Flat C L) {w : World} {S : List Nat} {h : Hd} {xs : List α} (H : HRow C w S h xs) (h0 : 0 < xs.length) :
    ∃ b off, h.a = some ⟨b, off, none⟩ ∧ b < w.heap.size ∧ ∀ i (hi : i < xs.length) j v, (L xs[i])[j]? = some v → w.cell? ⟨b, off + i * C.k + j, none⟩ = some v := by
  obtain ⟨b, off, e, hb, _, hc⟩ := H.row h0
  refine ⟨b, off, e, hb, fun i hi j v hj => ?_⟩
  obtain ⟨cs, hr, hv⟩ := hc i xs[i] (List.getElem?_eq_getElem hi)
  rw [F.eq hr] at hv
  exact hv j v hj
abbrev flatF (L : α → List Value) (x : α) (j : Nat) : Value := (L x).getD j undef
theorem Flat.getD (F : Flat C L) (x : α) (j : Nat) (hj : j < C.k) : (L x)[j]? = some (flatF L x j) := by
  have : j < (L x).length := by rw [F.len]; exact hj
  simp [flatF, List.getD, this]
theorem Flat.oneF (F : Flat C L) (x : α) (j : Nat) (hj : j < C.k) : (flatF L x j).oneCell' = true :=
  F.one x _ (List.mem_of_getElem? (F.getD x j hj))
/-- a row is a row of records -/
theorem Flat.recs (F : Flat C L) {w : World} {S : List Nat} {h : Hd} {xs : List α} (d : α) (H : HRow C w S h xs) : RecS C.k (flatF L) d w h.a xs := by
  by_cases h0 : 0 < xs.length
  · obtain ⟨b, off, e, hb, hc⟩ := F.cells H h0
    refine ⟨⟨fun hm => ⟨b, off, e, hb, fun m hm => ?_⟩⟩⟩
    have hi := rec_div hm
    have hj := Nat.mod_lt m F.pos
    have e1 : m = m / C.k * C.k + m % C.k := by rw [Nat.mul_comm]; exact (Nat.div_add_mod m C.k).symm
    have := hc (m / C.k) hi (m % C.k) _ (F.getD _ _ hj)
    rw [Nat.add_assoc, ← e1] at this
    rw [this]
    simp [recF, List.getD_eq_getElem?_getD, hi]
  · obtain rfl : xs = [] := List.eq_nil_of_length_eq_zero (by omega)
    exact RecS.nil _ _ _ _ _
/-- what the elements of a row are -/
theorem HRow.all {w : World} {S : List Nat} {h : Hd} {xs : List α} (H : HRow C w S h xs) : ∀ x ∈ xs, ∃ cs, C.rep w S cs x := by
  intro x hx
  obtain ⟨i, hi, rfl⟩ := List.getElem_of_mem hx
  obtain ⟨b, off, e, hb, _, hc⟩ := H.row (by omega)
  obtain ⟨cs, hr, hv⟩ := hc i xs[i] (List.getElem?_eq_getElem hi)
  exact ⟨cs, hr⟩
/-- and back -/
theorem Flat.back (F : Flat C L) {w w0 : World} {S S0 : List Nat} {d : α} {a : Option Addr} {c : Nat} {xs : List α} (R : RecS C.k (flatF L) d w a xs) (hx : ∀ x ∈ xs, ∃ cs, C.rep w0 S0 cs x) (hS : ∀ b off, a = some ⟨b, off, none⟩ → b ∉ S) (hl : xs.length ≤ c) (hc : c ≤ maxLen) : HRow C w S ⟨a, c⟩ xs := by
  refine ⟨hl, hc, fun h0 => ?_⟩
  obtain ⟨b, off, e, hb, hcell⟩ := R.row.get (by have := rec_lt h0 F.pos; omega)
  refine ⟨b, off, e, hb, hS b off e, fun i x hi => ?_⟩
  have hil : i < xs.length := (List.getElem?_eq_some_iff.1 hi).1
  have hxi : x = xs[i] := by have := (List.getElem?_eq_some_iff.1 hi).2; exact this.symm
  subst hxi
  obtain ⟨cs, hr⟩ := hx _ (List.getElem_mem hil)
  have := F.eq hr
  subst this
  refine ⟨_, F.any hr, fun j v hj => ?_⟩
  have hjk : j < C.k := by rw [← F.len xs[i]]; exact (List.getElem?_eq_some_iff.1 hj).1
  have := hcell (i * C.k + j) (rec_lt hil hjk)
  rw [recF_at _ _ _ _ _ hjk, ← Nat.add_assoc] at this
  rw [this]
  have e2 : xs.getD i d = xs[i] := by simp [List.getD_eq_getElem?_getD, hil]
  rw [e2, ← F.getD xs[i] j hjk, hj]
/-- a block that has the cells of a row -/
theorem Flat.blk (F : Flat C L) {w w0 : World} {S S0 : List Nat} {b : Nat} {xs : List α} {T : TypeId} (d : α) (B : Blk w b (recA C.k (flatF L) d xs) T) (hx : ∀ x ∈ xs, ∃ cs, C.rep w0 S0 cs x) (hS : b ∉ S) (hl : xs.length ≤ maxLen) : HRow C w S ⟨some ⟨b, 0, none⟩, xs.length⟩ xs :=
  F.back (RecS.of_blk B) hx (fun b' off e => by injection e with e; injection e with e1; subst e1; exact hS) (Nat.le_refl _) hl
theorem Flat.hany (F : Flat C L) {w w0 : World} {S S0 : List Nat} {xs : List α} (h : ∀ x ∈ xs, ∃ cs, C.rep w0 S0 cs x) : ∀ x ∈ xs, ∃ cs, C.rep w S cs x := fun x hx => by
  obtain ⟨cs, hr⟩ := h x hx
  exact ⟨cs, F.any hr⟩
end
end Go.Proofs.Ytpempcefgfmniaa.Dp

/-
  Are two deep things the same? slices.Equal, and the Sames of the program and of the document: contracts.
-/
namespace Go.Proofs.Ytpempcefgfmniaa.Dp
open Go.RowKit RefP
set_option linter.unusedVariables false
set_option linter.unusedSimpArgs false
theorem eq_step {α : Type} {xs ys : List α} {k : Nat} (h : xs.take k = ys.take k) (hx : k < xs.length) (hy : k < ys.length) (e : xs[k] = ys[k]) : xs.take (k + 1) = ys.take (k + 1) := by
  rw [List.take_succ_eq_append_getElem hx, List.take_succ_eq_append_getElem hy, h, e]
theorem eq_not {α : Type} {xs ys : List α} {k : Nat} (hx : k < xs.length) (hy : k < ys.length) (e : xs[k] ≠ ys[k]) : xs ≠ ys := fun h => by subst h; exact e rfl
theorem eq_all {α : Type} {xs ys : List α} (h : xs.take xs.length = ys.take xs.length) (hl : xs.length = ys.length) : xs = ys := by
  rw [List.take_length] at h
  rw [h, hl, List.take_length]
theorem eq_len {α : Type} {xs ys : List α} (h : xs.length ≠ ys.length) : xs ≠ ys := fun e => h (by rw [e])
theorem sEq {x y : ByteArray} (h : (!x.toList == y.toList) = false) : x = y := (Lib.bytes_beq_iff x y).1 (by simpa using h)
theorem sNe {x y : ByteArray} (h : (!x.toList == y.toList) = true) : x ≠ y := (Lib.bytes_beq_false_iff x y).1 (by simpa using h)
theorem iEq {x y : Int} (h : (x != y) = false) : x = y := by simpa using h
theorem iNe {x y : Int} (h : (x != y) = true) : x ≠ y := by simpa using h
theorem neqPair (w : World) (x1 y1 : ByteArray) (x2 y2 : Int) : (binOp .neq 64 (.agg #[.string x1, .int .u64 x2]) (.agg #[.string y1, .int .u64 y2])).run Try.prog w = .ok (.bool (!(decide (PairV.mk x1 x2 = PairV.mk y1 y2)))) w := by
  rw [run_neq_struct]
  by_cases h1 : x1 = y1
  · by_cases h2 : x2 = y2
    · subst h1; subst h2
      go_simp
      all_goals simp
    · subst h1
      go_simp
      all_goals simp [h2]
  · have := (Lib.bytes_beq_false_iff x1 y1).2 h1
    go_simp
    all_goals simp [h1]
theorem neqStep (w : World) (x1 y1 x2 y2 x3 y3 x4 y4 : Int) (x5 y5 : Bool) : (binOp .neq 94 (.agg #[.int .i64 x1, .int .u64 x2, .int .u64 x3, .int .u64 x4, .bool x5]) (.agg #[.int .i64 y1, .int .u64 y2, .int .u64 y3, .int .u64 y4, .bool y5])).run Try.prog w = .ok (.bool (!(decide (StepV.mk x1 x2 x3 x4 x5 = StepV.mk y1 y2 y3 y4 y5)))) w := by
  rw [run_neq_struct]
  by_cases h1 : x1 = y1
  · by_cases h2 : x2 = y2
    · by_cases h3 : x3 = y3
      · by_cases h4 : x4 = y4
        · by_cases h5 : x5 = y5
          · subst h1; subst h2; subst h3; subst h4; subst h5
            go_simp
            all_goals simp
          · have : (x5 == y5) = false := by simpa using h5
            subst h1; subst h2; subst h3; subst h4
            go_simp
            all_goals simp [h5]
        · have : (x4 == y4) = false := by simpa using h4
          subst h1; subst h2; subst h3
          go_simp
          all_goals simp [h4]
      · have : (x3 == y3) = false := by simpa using h3
        subst h1; subst h2
        go_simp
        all_goals simp [h3]
    · have : (x2 == y2) = false := by simpa using h2
      subst h1
      go_simp
      all_goals simp [h2]
  · have : (x1 == y1) = false := by simpa using h1
    go_simp
    all_goals simp [h1]
theorem dEq {α : Type} [DecidableEq α] {x y : α} (h : (!decide (x = y)) = false) : x = y := by simpa using h
theorem dNe {α : Type} [DecidableEq α] {x y : α} (h : (!decide (x = y)) = true) : x ≠ y := by simpa using h
theorem pEq {x1 y1 : ByteArray} {x2 y2 : Int} (h : (!decide (x1 = y1)) = false ∧ (!decide (x2 = y2)) = false) : PairV.mk x1 x2 = PairV.mk y1 y2 := by simpa using h
theorem pNe {x1 y1 : ByteArray} {x2 y2 : Int} (h : (!decide (x1 = y1)) = true ∨ (!decide (x2 = y2)) = true) : PairV.mk x1 x2 ≠ PairV.mk y1 y2 := by
  intro e
  injection e with e1 e2
  subst e1; subst e2
  simp at h
theorem tEq {x1 y1 x2 y2 x3 y3 x4 y4 : Int} {x5 y5 : Bool} (h : (!decide (x1 = y1)) = false ∧ (!decide (x2 = y2)) = false ∧ (!decide (x3 = y3)) = false ∧ (!decide (x4 = y4)) = false ∧ (!decide (x5 = y5)) = false) : StepV.mk x1 x2 x3 x4 x5 = StepV.mk y1 y2 y3 y4 y5 := by simpa using h
theorem tNe {x1 y1 x2 y2 x3 y3 x4 y4 : Int} {x5 y5 : Bool} (h : (!decide (x1 = y1)) = true ∨ (!decide (x2 = y2)) = true ∨ (!decide (x3 = y3)) = true ∨ (!decide (x4 = y4)) = true ∨ (!decide (x5 = y5)) = true) : StepV.mk x1 x2 x3 x4 x5 ≠ StepV.mk y1 y2 y3 y4 y5 := by
  intro e
  injection e with e1 e2 e3 e4 e5
  subst e1; subst e2; subst e3; subst e4; subst e5
  simp at h
set_option maxRecDepth 100000 in
set_option maxHeartbeats 1600000 in
theorem eqStr_any (S S' : List Nat) (h h' : Hd) (xs ys : List (ByteArray)) (w : World) (H : HRow strC w S h xs) (H' : HRow strC w S' h' ys) :
    Calls Try.prog 83 #[.slice h.a xs.length h.c, .slice h'.a ys.length h'.c] w fun e w' => e = .returned (.bool (decide (xs = ys))) ∧ Below w.heap.size w w' := by
  by_cases hl : xs.length = ys.length
  · have q0 : ((xs.length : Int) != (ys.length : Int)) = false := by simp; omega
    have hle := H.le
    have hcap := H.cap
    have hm : (maxLen : Nat) = 9223372036854775807 := by unfold maxLen; rfl
    go_enter Try.func83, Try.ntmps83
    go_wp2_with fail
    go_loopw [13] (fun i wr => ∃ k : Nat, k ≤ xs.length ∧ i = .int .i64 k ∧ Below w.heap.size w wr ∧ xs.take k = ys.take k) (fun i _ => xs.length - (intOf i).toNat)
    case atStart => exact ⟨0, Nat.zero_le _, rfl, Below.refl _ _, by simp⟩
    case round =>
      obtain ⟨k, hk, rfl, hB, hall⟩ := hrel
      by_cases hlt : k < xs.length
      · have hlt' : (k : Int) < (xs.length : Int) := by omega
        have hlty : k < ys.length := by omega
        have hlty' : (k : Int) < (ys.length : Int) := by omega
        obtain ⟨b, off, ha, hbl, hc⟩ := (flat_str).cell (H.keep (Keeps.of_below hB)) k hlt
        obtain ⟨b', off', ha', hbl', hc'⟩ := (flat_str).cell (H'.keep (Keeps.of_below hB)) k hlty
        rw [ha, ha']
        have hst := fun e => Lib.hid (eq_step hall hlt hlty e)
        have hno := fun e => Lib.hid (eq_not hlt hlty e)
        generalize hX : xs[k] = x at hc hst hno
        generalize hY : ys[k] = y at hc' hst hno
        clear hX hY hall
        have c0 : wr.cell? ⟨b, off + k, none⟩ = some (.string x) := by simpa [strC] using hc 0 _ rfl
        have d0 : wr.cell? ⟨b', off' + k, none⟩ = some (.string y) := by simpa [strC] using hc' 0 _ rfl
        go_upto_region 6 with (fail)
        go_quiet (fail)
        go_wp2_with fail
        · rename_i hq
          have hN := hno (sNe hq)
          go_ret
          exact ⟨by rw [decide_eq_false hN.out]; rfl, below_drewN hB _⟩
        · rename_i hq
          go_roundw
          case rel => exact ⟨k + 1, by omega, by go_num, below_drewN hB _, (hst (sEq hq)).out⟩
          case measure => simp [intOf]; omega
      · obtain rfl : k = xs.length := by omega
        have hR := Lib.hid (eq_all hall hl)
        clear hall
        go_wp2_with fail
        go_ret
        exact ⟨by rw [decide_eq_true hR.out]; rfl, hB⟩
  · have q0 : ((xs.length : Int) != (ys.length : Int)) = true := by simp; omega
    have hR := Lib.hid (eq_len hl)
    clear hl
    go_enter Try.func83, Try.ntmps83
    go_wp2_with fail
    go_ret
    exact ⟨by rw [decide_eq_false hR.out]; rfl, Below.refl _ _⟩
set_option maxRecDepth 100000 in
set_option maxHeartbeats 1600000 in
theorem eqU64_any (S S' : List Nat) (h h' : Hd) (xs ys : List (Int)) (w : World) (H : HRow u64C w S h xs) (H' : HRow u64C w S' h' ys) :
    Calls Try.prog 84 #[.slice h.a xs.length h.c, .slice h'.a ys.length h'.c] w fun e w' => e = .returned (.bool (decide (xs = ys))) ∧ Below w.heap.size w w' := by
  by_cases hl : xs.length = ys.length
  · have q0 : ((xs.length : Int) != (ys.length : Int)) = false := by simp; omega
    have hle := H.le
    have hcap := H.cap
    have hm : (maxLen : Nat) = 9223372036854775807 := by unfold maxLen; rfl
    go_enter Try.func84, Try.ntmps84
    go_wp2_with fail
    go_loopw [13] (fun i wr => ∃ k : Nat, k ≤ xs.length ∧ i = .int .i64 k ∧ Below w.heap.size w wr ∧ xs.take k = ys.take k) (fun i _ => xs.length - (intOf i).toNat)
    case atStart => exact ⟨0, Nat.zero_le _, rfl, Below.refl _ _, by simp⟩
    case round =>
      obtain ⟨k, hk, rfl, hB, hall⟩ := hrel
      by_cases hlt : k < xs.length
      · have hlt' : (k : Int) < (xs.length : Int) := by omega
        have hlty : k < ys.length := by omega
        have hlty' : (k : Int) < (ys.length : Int) := by omega
        obtain ⟨b, off, ha, hbl, hc⟩ := (flat_u64).cell (H.keep (Keeps.of_below hB)) k hlt
        obtain ⟨b', off', ha', hbl', hc'⟩ := (flat_u64).cell (H'.keep (Keeps.of_below hB)) k hlty
        rw [ha, ha']
        have hst := fun e => Lib.hid (eq_step hall hlt hlty e)
        have hno := fun e => Lib.hid (eq_not hlt hlty e)
        generalize hX : xs[k] = x at hc hst hno
        generalize hY : ys[k] = y at hc' hst hno
        clear hX hY hall
        have c0 : wr.cell? ⟨b, off + k, none⟩ = some (.int .u64 x) := by simpa [intC] using hc 0 _ rfl
        have d0 : wr.cell? ⟨b', off' + k, none⟩ = some (.int .u64 y) := by simpa [intC] using hc' 0 _ rfl
        go_upto_region 6 with (fail)
        go_quiet (fail)
        go_wp2_with fail
        · rename_i hq
          have hN := hno (iNe hq)
          go_ret
          exact ⟨by rw [decide_eq_false hN.out]; rfl, below_drewN hB _⟩
        · rename_i hq
          go_roundw
          case rel => exact ⟨k + 1, by omega, by go_num, below_drewN hB _, (hst (iEq hq)).out⟩
          case measure => simp [intOf]; omega
      · obtain rfl : k = xs.length := by omega
        have hR := Lib.hid (eq_all hall hl)
        clear hall
        go_wp2_with fail
        go_ret
        exact ⟨by rw [decide_eq_true hR.out]; rfl, hB⟩
  · have q0 : ((xs.length : Int) != (ys.length : Int)) = true := by simp; omega
    have hR := Lib.hid (eq_len hl)
    clear hl
    go_enter Try.func84, Try.ntmps84
    go_wp2_with fail
    go_ret
    exact ⟨by rw [decide_eq_false hR.out]; rfl, Below.refl _ _⟩
set_option maxRecDepth 100000 in
set_option maxHeartbeats 1600000 in
theorem eqI64_any (S S' : List Nat) (h h' : Hd) (xs ys : List (Int)) (w : World) (H : HRow i64C w S h xs) (H' : HRow i64C w S' h' ys) :
    Calls Try.prog 85 #[.slice h.a xs.length h.c, .slice h'.a ys.length h'.c] w fun e w' => e = .returned (.bool (decide (xs = ys))) ∧ Below w.heap.size w w' := by
  by_cases hl : xs.length = ys.length
  · have q0 : ((xs.length : Int) != (ys.length : Int)) = false := by simp; omega
    have hle := H.le
    have hcap := H.cap
    have hm : (maxLen : Nat) = 9223372036854775807 := by unfold maxLen; rfl
    go_enter Try.func85, Try.ntmps85
    go_wp2_with fail
    go_loopw [13] (fun i wr => ∃ k : Nat, k ≤ xs.length ∧ i = .int .i64 k ∧ Below w.heap.size w wr ∧ xs.take k = ys.take k) (fun i _ => xs.length - (intOf i).toNat)
    case atStart => exact ⟨0, Nat.zero_le _, rfl, Below.refl _ _, by simp⟩
    case round =>
      obtain ⟨k, hk, rfl, hB, hall⟩ := hrel
      by_cases hlt : k < xs.length
      · have hlt' : (k : Int) < (xs.length : Int) := by omega
        have hlty : k < ys.length := by omega
        have hlty' : (k : Int) < (ys.length : Int) := by omega
        obtain ⟨b, off, ha, hbl, hc⟩ := (flat_i64).cell (H.keep (Keeps.of_below hB)) k hlt
        obtain ⟨b', off', ha', hbl', hc'⟩ := (flat_i64).cell (H'.keep (Keeps.of_below hB)) k hlty
        rw [ha, ha']
        have hst := fun e => Lib.hid (eq_step hall hlt hlty e)
        have hno := fun e => Lib.hid (eq_not hlt hlty e)
        generalize hX : xs[k] = x at hc hst hno
        generalize hY : ys[k] = y at hc' hst hno
        clear hX hY hall
        have c0 : wr.cell? ⟨b, off + k, none⟩ = some (.int .i64 x) := by simpa [intC] using hc 0 _ rfl
        have d0 : wr.cell? ⟨b', off' + k, none⟩ = some (.int .i64 y) := by simpa [intC] using hc' 0 _ rfl
        go_upto_region 6 with (fail)
        go_quiet (fail)
        go_wp2_with fail
        · rename_i hq
          have hN := hno (iNe hq)
          go_ret
          exact ⟨by rw [decide_eq_false hN.out]; rfl, below_drewN hB _⟩
        · rename_i hq
          go_roundw
          case rel => exact ⟨k + 1, by omega, by go_num, below_drewN hB _, (hst (iEq hq)).out⟩
          case measure => simp [intOf]; omega
      · obtain rfl : k = xs.length := by omega
        have hR := Lib.hid (eq_all hall hl)
        clear hall
        go_wp2_with fail
        go_ret
        exact ⟨by rw [decide_eq_true hR.out]; rfl, hB⟩
  · have q0 : ((xs.length : Int) != (ys.length : Int)) = true := by simp; omega
    have hR := Lib.hid (eq_len hl)
    clear hl
    go_enter Try.func85, Try.ntmps85
    go_wp2_with fail
    go_ret
    exact ⟨by rw [decide_eq_false hR.out]; rfl, Below.refl _ _⟩
set_option maxRecDepth 100000 in
set_option maxHeartbeats 1600000 in
theorem eqPair_any (S S' : List Nat) (h h' : Hd) (xs ys : List (PairV)) (w : World) (H : HRow pairT w S h xs) (H' : HRow pairT w S' h' ys) :
    Calls Try.prog 58 #[.slice h.a xs.length h.c, .slice h'.a ys.length h'.c] w fun e w' => e = .returned (.bool (decide (xs = ys))) ∧ Below w.heap.size w w' := by
  by_cases hl : xs.length = ys.length
  · have q0 : ((xs.length : Int) != (ys.length : Int)) = false := by simp; omega
    have hle := H.le
    have hcap := H.cap
    have hm : (maxLen : Nat) = 9223372036854775807 := by unfold maxLen; rfl
    go_enter Try.func58, Try.ntmps58
    go_wp2_with fail
    go_loopw [13] (fun i wr => ∃ k : Nat, k ≤ xs.length ∧ i = .int .i64 k ∧ Below w.heap.size w wr ∧ xs.take k = ys.take k) (fun i _ => xs.length - (intOf i).toNat)
    case atStart => exact ⟨0, Nat.zero_le _, rfl, Below.refl _ _, by simp⟩
    case round =>
      obtain ⟨k, hk, rfl, hB, hall⟩ := hrel
      by_cases hlt : k < xs.length
      · have hlt' : (k : Int) < (xs.length : Int) := by omega
        have hlty : k < ys.length := by omega
        have hlty' : (k : Int) < (ys.length : Int) := by omega
        obtain ⟨b, off, ha, hbl, hc⟩ := (flat_pair).cell (H.keep (Keeps.of_below hB)) k hlt
        obtain ⟨b', off', ha', hbl', hc'⟩ := (flat_pair).cell (H'.keep (Keeps.of_below hB)) k hlty
        rw [ha, ha']
        have hst := fun e => Lib.hid (eq_step hall hlt hlty e)
        have hno := fun e => Lib.hid (eq_not hlt hlty e)
        generalize hX : xs[k] = x at hc hst hno
        generalize hY : ys[k] = y at hc' hst hno
        clear hX hY hall
        obtain ⟨x1, x2⟩ := x
        obtain ⟨y1, y2⟩ := y
        have c0 : wr.cell? ⟨b, off + k * 2, none⟩ = some (.string x1) := hc 0 _ rfl
        have c1 : wr.cell? ⟨b, off + k * 2 + 1, none⟩ = some (.int .u64 x2) := hc 1 _ rfl
        have d0 : wr.cell? ⟨b', off' + k * 2, none⟩ = some (.string y1) := hc' 0 _ rfl
        have d1 : wr.cell? ⟨b', off' + k * 2 + 1, none⟩ = some (.int .u64 y2) := hc' 1 _ rfl
        have hq := fun w => neqPair w x1 y1 x2 y2
        go_upto_region 6 with (fail)
        go_quiet (fail)
        go_wp2_with fail
        · rename_i hq
          have hN := hno (pNe hq)
          go_ret
          exact ⟨by rw [decide_eq_false hN.out]; rfl, below_drewN hB _⟩
        · rename_i hq
          go_roundw
          case rel => exact ⟨k + 1, by omega, by go_num, below_drewN hB _, (hst (pEq hq)).out⟩
          case measure => simp [intOf]; omega
      · obtain rfl : k = xs.length := by omega
        have hR := Lib.hid (eq_all hall hl)
        clear hall
        go_wp2_with fail
        go_ret
        exact ⟨by rw [decide_eq_true hR.out]; rfl, hB⟩
  · have q0 : ((xs.length : Int) != (ys.length : Int)) = true := by simp; omega
    have hR := Lib.hid (eq_len hl)
    clear hl
    go_enter Try.func58, Try.ntmps58
    go_wp2_with fail
    go_ret
    exact ⟨by rw [decide_eq_false hR.out]; rfl, Below.refl _ _⟩
set_option maxRecDepth 100000 in
set_option maxHeartbeats 1600000 in
theorem eqStep_any (S S' : List Nat) (h h' : Hd) (xs ys : List (StepV)) (w : World) (H : HRow stepT w S h xs) (H' : HRow stepT w S' h' ys) :
    Calls Try.prog 86 #[.slice h.a xs.length h.c, .slice h'.a ys.length h'.c] w fun e w' => e = .returned (.bool (decide (xs = ys))) ∧ Below w.heap.size w w' := by
  by_cases hl : xs.length = ys.length
  · have q0 : ((xs.length : Int) != (ys.length : Int)) = false := by simp; omega
    have hle := H.le
    have hcap := H.cap
    have hm : (maxLen : Nat) = 9223372036854775807 := by unfold maxLen; rfl
    go_enter Try.func86, Try.ntmps86
    go_wp2_with fail
    go_loopw [13] (fun i wr => ∃ k : Nat, k ≤ xs.length ∧ i = .int .i64 k ∧ Below w.heap.size w wr ∧ xs.take k = ys.take k) (fun i _ => xs.length - (intOf i).toNat)
    case atStart => exact ⟨0, Nat.zero_le _, rfl, Below.refl _ _, by simp⟩
    case round =>
      obtain ⟨k, hk, rfl, hB, hall⟩ := hrel
      by_cases hlt : k < xs.length
      · have hlt' : (k : Int) < (xs.length : Int) := by omega
        have hlty : k < ys.length := by omega
        have hlty' : (k : Int) < (ys.length : Int) := by omega
        obtain ⟨b, off, ha, hbl, hc⟩ := (flat_step).cell (H.keep (Keeps.of_below hB)) k hlt
        obtain ⟨b', off', ha', hbl', hc'⟩ := (flat_step).cell (H'.keep (Keeps.of_below hB)) k hlty
        rw [ha, ha']
        have hst := fun e => Lib.hid (eq_step hall hlt hlty e)
        have hno := fun e => Lib.hid (eq_not hlt hlty e)
        generalize hX : xs[k] = x at hc hst hno
        generalize hY : ys[k] = y at hc' hst hno
        clear hX hY hall
        obtain ⟨x1, x2, x3, x4, x5⟩ := x
        obtain ⟨y1, y2, y3, y4, y5⟩ := y
        have c0 : wr.cell? ⟨b, off + k * 5, none⟩ = some (.int .i64 x1) := hc 0 _ rfl
        have c1 : wr.cell? ⟨b, off + k * 5 + 1, none⟩ = some (.int .u64 x2) := hc 1 _ rfl
        have c2 : wr.cell? ⟨b, off + k * 5 + 2, none⟩ = some (.int .u64 x3) := hc 2 _ rfl
        have c3 : wr.cell? ⟨b, off + k * 5 + 3, none⟩ = some (.int .u64 x4) := hc 3 _ rfl
        have c4 : wr.cell? ⟨b, off + k * 5 + 4, none⟩ = some (.bool x5) := hc 4 _ rfl
        have d0 : wr.cell? ⟨b', off' + k * 5, none⟩ = some (.int .i64 y1) := hc' 0 _ rfl
        have d1 : wr.cell? ⟨b', off' + k * 5 + 1, none⟩ = some (.int .u64 y2) := hc' 1 _ rfl
        have d2 : wr.cell? ⟨b', off' + k * 5 + 2, none⟩ = some (.int .u64 y3) := hc' 2 _ rfl
        have d3 : wr.cell? ⟨b', off' + k * 5 + 3, none⟩ = some (.int .u64 y4) := hc' 3 _ rfl
        have d4 : wr.cell? ⟨b', off' + k * 5 + 4, none⟩ = some (.bool y5) := hc' 4 _ rfl
        have hq := fun w => neqStep w x1 y1 x2 y2 x3 y3 x4 y4 x5 y5
        go_upto_region 6 with (fail)
        go_quiet (fail)
        go_wp2_with fail
        · rename_i hq
          have hN := hno (tNe hq)
          go_ret
          exact ⟨by rw [decide_eq_false hN.out]; rfl, below_drewN hB _⟩
        · rename_i hq
          go_roundw
          case rel => exact ⟨k + 1, by omega, by go_num, below_drewN hB _, (hst (tEq hq)).out⟩
          case measure => simp [intOf]; omega
      · obtain rfl : k = xs.length := by omega
        have hR := Lib.hid (eq_all hall hl)
        clear hall
        go_wp2_with fail
        go_ret
        exact ⟨by rw [decide_eq_true hR.out]; rfl, hB⟩
  · have q0 : ((xs.length : Int) != (ys.length : Int)) = true := by simp; omega
    have hR := Lib.hid (eq_len hl)
    clear hl
    go_enter Try.func86, Try.ntmps86
    go_wp2_with fail
    go_ret
    exact ⟨by rw [decide_eq_false hR.out]; rfl, Below.refl _ _⟩
end Go.Proofs.Ytpempcefgfmniaa.Dp

/-
  The document's Sames of rows, nodes, answers, blocks: contracts.
-/
namespace Go.Proofs.Ytpempcefgfmniaa.Dp
open Go.RowKit RefP
set_option linter.unusedVariables false
set_option linter.unusedSimpArgs false
set_option maxRecDepth 100000 in
set_option maxHeartbeats 1600000 in
theorem same04_any (S S' : List Nat) (h h' : Hd) (xs ys : List (ByteArray)) (w : World) (H : HRow strC w S h xs) (H' : HRow strC w S' h' ys) :
    Calls Try.prog 80 #[.slice h.a xs.length h.c, .slice h'.a ys.length h'.c] w fun e w' => e = .returned (.bool (decide (xs = ys))) ∧ Below w.heap.size w w' := by
  by_cases hl : xs.length = ys.length
  · have q0 : ((xs.length : Int) != (ys.length : Int)) = false := by simp; omega
    have hle := H.le
    have hcap := H.cap
    have hm : (maxLen : Nat) = 9223372036854775807 := by unfold maxLen; rfl
    go_enter Try.func80, Try.ntmps80
    go_wp2_with fail
    go_loopw [5] (fun i wr => ∃ k : Nat, k ≤ xs.length ∧ i = .int .i64 k ∧ Below w.heap.size w wr ∧ xs.take k = ys.take k) (fun i _ => xs.length - (intOf i).toNat)
    case atStart => exact ⟨0, Nat.zero_le _, rfl, Below.refl _ _, by simp⟩
    case round =>
      obtain ⟨k, hk, rfl, hB, hall⟩ := hrel
      by_cases hlt : k < xs.length
      · have hlt' : (k : Int) < (xs.length : Int) := by omega
        have hlty : k < ys.length := by omega
        have hlty' : (k : Int) < (ys.length : Int) := by omega
        obtain ⟨b, off, ha, hbl, hc⟩ := (flat_str).cell (H.keep (Keeps.of_below hB)) k hlt
        obtain ⟨b', off', ha', hbl', hc'⟩ := (flat_str).cell (H'.keep (Keeps.of_below hB)) k hlty
        rw [ha, ha']
        have hst := fun e => Lib.hid (eq_step hall hlt hlty e)
        have hno := fun e => Lib.hid (eq_not hlt hlty e)
        generalize hX : xs[k] = x at hc hst hno
        generalize hY : ys[k] = y at hc' hst hno
        clear hX hY hall
        have c0 : wr.cell? ⟨b, off + k, none⟩ = some (.string x) := by simpa [strC] using hc 0 _ rfl
        have d0 : wr.cell? ⟨b', off' + k, none⟩ = some (.string y) := by simpa [strC] using hc' 0 _ rfl
        go_upto_region 6 with (fail)
        go_quiet (fail)
        go_wp2_with fail
        · rename_i hq
          have hN := hno (sNe hq)
          go_ret
          exact ⟨by rw [decide_eq_false hN.out]; rfl, below_drewN hB _⟩
        · rename_i hq
          go_roundw
          case rel => exact ⟨k + 1, by omega, by go_num, below_drewN hB _, (hst (sEq hq)).out⟩
          case measure => simp [intOf]; omega
      · obtain rfl : k = xs.length := by omega
        have hR := Lib.hid (eq_all hall hl)
        clear hall
        go_wp2_with fail
        go_ret
        exact ⟨by rw [decide_eq_true hR.out]; rfl, hB⟩
  · have q0 : ((xs.length : Int) != (ys.length : Int)) = true := by simp; omega
    have hR := Lib.hid (eq_len hl)
    clear hl
    go_enter Try.func80, Try.ntmps80
    go_wp2_with fail
    go_ret
    exact ⟨by rw [decide_eq_false hR.out]; rfl, Below.refl _ _⟩
set_option maxRecDepth 100000 in
set_option maxHeartbeats 1600000 in
theorem same06_any (S S' : List Nat) (h h' : Hd) (xs ys : List (PairV)) (w : World) (H : HRow pairT w S h xs) (H' : HRow pairT w S' h' ys) :
    Calls Try.prog 81 #[.slice h.a xs.length h.c, .slice h'.a ys.length h'.c] w fun e w' => e = .returned (.bool (decide (xs = ys))) ∧ Below w.heap.size w w' := by
  by_cases hl : xs.length = ys.length
  · have q0 : ((xs.length : Int) != (ys.length : Int)) = false := by simp; omega
    have hle := H.le
    have hcap := H.cap
    have hm : (maxLen : Nat) = 9223372036854775807 := by unfold maxLen; rfl
    go_enter Try.func81, Try.ntmps81
    go_wp2_with fail
    go_loopw [5] (fun i wr => ∃ k : Nat, k ≤ xs.length ∧ i = .int .i64 k ∧ Below w.heap.size w wr ∧ xs.take k = ys.take k) (fun i _ => xs.length - (intOf i).toNat)
    case atStart => exact ⟨0, Nat.zero_le _, rfl, Below.refl _ _, by simp⟩
    case round =>
      obtain ⟨k, hk, rfl, hB, hall⟩ := hrel
      by_cases hlt : k < xs.length
      · have hlt' : (k : Int) < (xs.length : Int) := by omega
        have hlty : k < ys.length := by omega
        have hlty' : (k : Int) < (ys.length : Int) := by omega
        obtain ⟨b, off, ha, hbl, hc⟩ := (flat_pair).cell (H.keep (Keeps.of_below hB)) k hlt
        obtain ⟨b', off', ha', hbl', hc'⟩ := (flat_pair).cell (H'.keep (Keeps.of_below hB)) k hlty
        rw [ha, ha']
        have hst := fun e => Lib.hid (eq_step hall hlt hlty e)
        have hno := fun e => Lib.hid (eq_not hlt hlty e)
        generalize hX : xs[k] = x at hc hst hno
        generalize hY : ys[k] = y at hc' hst hno
        clear hX hY hall
        obtain ⟨x1, x2⟩ := x
        obtain ⟨y1, y2⟩ := y
        have c0 : wr.cell? ⟨b, off + k * 2, none⟩ = some (.string x1) := hc 0 _ rfl
        have c1 : wr.cell? ⟨b, off + k * 2 + 1, none⟩ = some (.int .u64 x2) := hc 1 _ rfl
        have d0 : wr.cell? ⟨b', off' + k * 2, none⟩ = some (.string y1) := hc' 0 _ rfl
        have d1 : wr.cell? ⟨b', off' + k * 2 + 1, none⟩ = some (.int .u64 y2) := hc' 1 _ rfl
        have hq := fun w => neqPair w x1 y1 x2 y2
        go_upto_region 6 with (fail)
        go_quiet (fail)
        go_wp2_with fail
        · rename_i hq
          have hN := hno (pNe hq)
          go_ret
          exact ⟨by rw [decide_eq_false hN.out]; rfl, below_drewN hB _⟩
        · rename_i hq
          go_roundw
          case rel => exact ⟨k + 1, by omega, by go_num, below_drewN hB _, (hst (pEq hq)).out⟩
          case measure => simp [intOf]; omega
      · obtain rfl : k = xs.length := by omega
        have hR := Lib.hid (eq_all hall hl)
        clear hall
        go_wp2_with fail
        go_ret
        exact ⟨by rw [decide_eq_true hR.out]; rfl, hB⟩
  · have q0 : ((xs.length : Int) != (ys.length : Int)) = true := by simp; omega
    have hR := Lib.hid (eq_len hl)
    clear hl
    go_enter Try.func81, Try.ntmps81
    go_wp2_with fail
    go_ret
    exact ⟨by rw [decide_eq_false hR.out]; rfl, Below.refl _ _⟩
set_option maxRecDepth 100000 in
set_option maxHeartbeats 3200000 in
theorem same10_any (S S' : List Nat) (h h' : NodeH) (x y : NodeV) (w : World) (H : NodeOk w S h x) (H' : NodeOk w S' h' y) :
    Calls Try.prog 54 #[.agg (nodeA h x), .agg (nodeA h' y)] w fun e w' => e = .returned (.bool (decide (x = y))) ∧ Below w.heap.size w w' := by
  have hb : Below w.heap.size w ((w.alloc (.cells (nodeA h x) 27)).alloc (.cells (nodeA h' y) 27)) := by (repeat (first | exact Below.refl _ _ | assumption | refine below_alloc2 ?_ (by first | exact Nat.le_refl _ | omega) _ | refine Below.drew ?_ | refine below_drewN ?_ _ | refine below_push2 ?_ ‹_› (by first | exact Nat.le_refl _ | omega) | refine Below.setCell ?_ (by first | (simp; done) | (simp; omega) | omega) _))
  have BX := (Blk.new w (nodeA h x) 27).alloc (.cells (nodeA h' y) 27)
  have BY : Blk ((w.alloc (.cells (nodeA h x) 27)).alloc (.cells (nodeA h' y) 27)) (w.heap.size + 1) (nodeA h' y) 27 := by
    have := Blk.new (w.alloc (.cells (nodeA h x) 27)) (nodeA h' y) 27
    simpa using this
  generalize hW : (w.alloc (.cells (nodeA h x) 27)).alloc (.cells (nodeA h' y) 27) = w1 at hb BX BY
  replace hW := Lib.hid hW
  have x0 := BX.at 0 rfl
  have x1 := BX.at 1 rfl
  have x2 := BX.at 2 rfl
  have x3 := BX.at 3 rfl
  have x4 := BX.at 4 rfl
  have x5 := BX.at 5 rfl
  have x6 := BX.at 6 rfl
  have x7 := BX.at 7 rfl
  have y0 := BY.at 0 rfl
  have y1 := BY.at 1 rfl
  have y2 := BY.at 2 rfl
  have y3 := BY.at 3 rfl
  have y4 := BY.at 4 rfl
  have y5 := BY.at 5 rfl
  have y6 := BY.at 6 rfl
  have y7 := BY.at 7 rfl
  go_enter Try.func54, Try.ntmps54
  go_upto_region 1 with (fail)
  rw [hW.out]
  go_wp2_with fail
  all_goals first
    | (go_ret
       refine ⟨?_, hb⟩
       have hne : x ≠ y := by
         intro e
         subst e
         clear hb BX BY hW x0 x1 x2 x3 x4 x5 x6 x7 y0 y1 y2 y3 y4 y5 y6 y7 H H'
         simp_all
       rw [decide_eq_false hne]; rfl)
    | skip
  clear hW x0 x1 x2 x3 x4 x5 x6 x7 y0 y1 y2 y3 y4 y5 y6 y7
  have f2 : x.low = y.low := (Lib.bytes_beq_iff _ _).1 (by simpa using (show x.low.toList = y.low.toList by assumption))
  have f3 : x.high = y.high := (Lib.bytes_beq_iff _ _).1 (by simpa using (show x.high.toList = y.high.toList by assumption))
  have f5 : x.next = y.next := by simpa using (show (x.next != y.next) = false by assumption)
  have hE : Hid (x.level = y.level ∧ x.low = y.low ∧ x.high = y.high ∧ x.last = y.last ∧ x.next = y.next) := ⟨by assumption, f2, f3, by assumption, f5⟩
  clear f2 f3 f5
  refine (same04_any S S' h.keys h'.keys x.keys y.keys w1 (H.keys.keep (Keeps.of_below hb)) (H'.keys.keep (Keeps.of_below hb))).mono ?_
  rintro e w2 ⟨rfl, hb2⟩
  have hB := below_push2 hb hb2 (Nat.le_refl _)
  replace BX := BX.below hb2
  replace BY := BY.below hb2
  clear hb hb2
  have x0 := BX.at 0 rfl
  have x1 := BX.at 1 rfl
  have x2 := BX.at 2 rfl
  have x3 := BX.at 3 rfl
  have x4 := BX.at 4 rfl
  have x5 := BX.at 5 rfl
  have x6 := BX.at 6 rfl
  have x7 := BX.at 7 rfl
  have y0 := BY.at 0 rfl
  have y1 := BY.at 1 rfl
  have y2 := BY.at 2 rfl
  have y3 := BY.at 3 rfl
  have y4 := BY.at 4 rfl
  have y5 := BY.at 5 rfl
  have y6 := BY.at 6 rfl
  have y7 := BY.at 7 rfl
  have hm : (maxLen : Nat) = 9223372036854775807 := by unfold maxLen; rfl
  have v1 := H.vals.le
  have v2 := H.vals.cap
  have v3 := H.kids.le
  have v4 := H.kids.cap
  by_cases hk : x.keys = y.keys
  · rw [decide_eq_true hk]
    have hkH := Lib.hid hk
    by_cases hv : x.vals.length = y.vals.length
    · have q1 : ((x.vals.length : Int) != (y.vals.length : Int)) = false := by simp; omega
      by_cases hd : x.kids.length = y.kids.length
      · have q2 : ((x.kids.length : Int) != (y.kids.length : Int)) = false := by simp; omega
        have hv' := Lib.hid hv
        have hd' := Lib.hid hd
        clear hv hd hk
        go_wp2_with fail
        clear q1 q2 x0 x1 x2 x3 x4 x5 x6 x7 y0 y1 y2 y3 y4 y5 y6 y7
        go_loopw [5] (fun i wr => ∃ k : Nat, k ≤ x.vals.length ∧ i = .int .i64 k ∧ Below w.heap.size w wr ∧ Blk wr w.heap.size (nodeA h x) 27 ∧ Blk wr (w.heap.size + 1) (nodeA h' y) 27 ∧ x.vals.take k = y.vals.take k) (fun i _ => x.vals.length - (intOf i).toNat)
        case atStart => exact ⟨0, Nat.zero_le _, rfl, hB, BX, BY, by simp⟩
        clear BX BY hB
        obtain ⟨k, hk, rfl, hB, BX, BY, hall⟩ := hrel
        have x6 := BX.at 6 rfl
        have y6 := BY.at 6 rfl
        by_cases hlt : k < x.vals.length
        · have hlt' : (k : Int) < (x.vals.length : Int) := by omega
          have hlty : k < y.vals.length := by have := (hv').out; omega
          have hlty' : (k : Int) < (y.vals.length : Int) := by omega
          obtain ⟨b, off, ha, hbl, hc⟩ := (flat_u64).cell (H.vals.keep (Keeps.of_below hB)) k hlt
          obtain ⟨b', off', ha', hbl', hc'⟩ := (flat_u64).cell (H'.vals.keep (Keeps.of_below hB)) k hlty
          have hst := fun e => Lib.hid (eq_step hall hlt hlty e)
          have hno := fun e => Lib.hid (eq_not hlt hlty e)
          have c0 : wr.cell? ⟨b, off + k, none⟩ = some (.int .u64 x.vals[k]) := by simpa [intC] using hc 0 _ rfl
          have d0 : wr.cell? ⟨b', off' + k, none⟩ = some (.int .u64 y.vals[k]) := by simpa [intC] using hc' 0 _ rfl
          have p0 : wr.cell? ⟨w.heap.size, 6, none⟩ = some (.slice (some ⟨b, off, none⟩) x.vals.length h.vals.c) := by rw [← ha]; exact x6
          have p1 : wr.cell? ⟨w.heap.size + 1, 6, none⟩ = some (.slice (some ⟨b', off', none⟩) y.vals.length h'.vals.c) := by rw [← ha']; exact y6
          clear hc hc' ha ha' x6 y6 hall
          generalize x.vals[k] = a at c0 hst hno
          generalize y.vals[k] = c at d0 hst hno
          go_upto_region 8 with (fail)
          go_quiet (fail)
          have BX2 := BX.drewN nq
          have BY2 := BY.drewN nq
          go_wp2_with fail
          · rename_i hq
            have hN := Lib.hid (show x ≠ y from fun e => (hno (iNe hq)).out (by rw [e]))
            go_ret
            exact ⟨by rw [decide_eq_false hN.out]; rfl, below_drewN hB _⟩
          · rename_i hq
            go_roundw
            case rel => exact ⟨k + 1, by omega, by go_num, below_drewN hB _, BX2, BY2, (hst (iEq hq)).out⟩
            case measure => simp [intOf]; omega
        obtain rfl : k = x.vals.length := by omega
        have hRvals := Lib.hid (eq_all hall (hv').out)
        clear hall
        go_wp2_with fail
        go_loopw [6] (fun i wr => ∃ k : Nat, k ≤ x.kids.length ∧ i = .int .i64 k ∧ Below w.heap.size w wr ∧ Blk wr w.heap.size (nodeA h x) 27 ∧ Blk wr (w.heap.size + 1) (nodeA h' y) 27 ∧ x.kids.take k = y.kids.take k) (fun i _ => x.kids.length - (intOf i).toNat)
        case atStart => exact ⟨0, Nat.zero_le _, rfl, hB, BX, BY, by simp⟩
        clear BX BY hB
        obtain ⟨k, hk, rfl, hB, BX, BY, hall⟩ := hrel
        have x7 := BX.at 7 rfl
        have y7 := BY.at 7 rfl
        by_cases hlt : k < x.kids.length
        · have hlt' : (k : Int) < (x.kids.length : Int) := by omega
          have hlty : k < y.kids.length := by have := (hd').out; omega
          have hlty' : (k : Int) < (y.kids.length : Int) := by omega
          obtain ⟨b, off, ha, hbl, hc⟩ := (flat_i64).cell (H.kids.keep (Keeps.of_below hB)) k hlt
          obtain ⟨b', off', ha', hbl', hc'⟩ := (flat_i64).cell (H'.kids.keep (Keeps.of_below hB)) k hlty
          have hst := fun e => Lib.hid (eq_step hall hlt hlty e)
          have hno := fun e => Lib.hid (eq_not hlt hlty e)
          have c0 : wr.cell? ⟨b, off + k, none⟩ = some (.int .i64 x.kids[k]) := by simpa [intC] using hc 0 _ rfl
          have d0 : wr.cell? ⟨b', off' + k, none⟩ = some (.int .i64 y.kids[k]) := by simpa [intC] using hc' 0 _ rfl
          have p0 : wr.cell? ⟨w.heap.size, 7, none⟩ = some (.slice (some ⟨b, off, none⟩) x.kids.length h.kids.c) := by rw [← ha]; exact x7
          have p1 : wr.cell? ⟨w.heap.size + 1, 7, none⟩ = some (.slice (some ⟨b', off', none⟩) y.kids.length h'.kids.c) := by rw [← ha']; exact y7
          clear hc hc' ha ha' x7 y7 hall
          generalize x.kids[k] = a at c0 hst hno
          generalize y.kids[k] = c at d0 hst hno
          go_upto_region 13 with (fail)
          go_quiet (fail)
          have BX2 := BX.drewN nq
          have BY2 := BY.drewN nq
          go_wp2_with fail
          · rename_i hq
            have hN := Lib.hid (show x ≠ y from fun e => (hno (iNe hq)).out (by rw [e]))
            go_ret
            exact ⟨by rw [decide_eq_false hN.out]; rfl, below_drewN hB _⟩
          · rename_i hq
            go_roundw
            case rel => exact ⟨k + 1, by omega, by go_num, below_drewN hB _, BX2, BY2, (hst (iEq hq)).out⟩
            case measure => simp [intOf]; omega
        obtain rfl : k = x.kids.length := by omega
        have hRkids := Lib.hid (eq_all hall (hd').out)
        clear hall
        go_wp2_with fail
        go_ret
        exact ⟨by
          obtain ⟨g1, g2, g3, g4, g5⟩ := hE.out
          rw [decide_eq_true (show x = y by cases x; cases y; simp only [NodeV.mk.injEq]; exact ⟨g1, g2, g3, g4, g5, hkH.out, hRvals.out, hRkids.out⟩)]; rfl, hB⟩
      · have q2 : ((x.kids.length : Int) != (y.kids.length : Int)) = true := by simp; omega
        have hN := Lib.hid (show x ≠ y from fun e => hd (by rw [e]))
        clear hv hd hk
        go_wp2_with fail
        go_ret
        exact ⟨by rw [decide_eq_false hN.out]; rfl, hB⟩
    · have q1 : ((x.vals.length : Int) != (y.vals.length : Int)) = true := by simp; omega
      have hN := Lib.hid (show x ≠ y from fun e => hv (by rw [e]))
      clear hv hk
      go_wp2_with fail
      go_ret
      exact ⟨by rw [decide_eq_false hN.out]; rfl, hB⟩
  · rw [decide_eq_false hk]
    go_wp2_with fail
    go_ret
    exact ⟨by rw [decide_eq_false (fun e => hk (by rw [e]))]; rfl, hB⟩
end Go.Proofs.Ytpempcefgfmniaa.Dp
