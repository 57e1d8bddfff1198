/-
  Where a memory's cells are: contracts of none, at, Node, Use, Announce, Done, Phase, Hazard, Gate, Arena, Threads, Len, Load; for a memory, for nil, for one that no call made.
-/
import Derived.Test.YtfnjggefinkcaaaMemMade
namespace Go.Proofs.Ytfnjggefinkcaaa.MemP
open Go.RowKit RefP CellP
set_option linter.unusedVariables false
set_option linter.unusedSimpArgs false

/-- a memory without cells -/
structure NoMem (w : World) (o : Nat) : Prop where
  head : Blk w o (memA (.pointer none) (fun _ => 0) 0 0 0 0) 48 ∨ ∃ cs : Array Value, Blk w o cs 48 ∧ cs[0]? = some (.pointer none)
theorem NoMem.cell {w : World} {o : Nat} (h : NoMem w o) : w.cell? ⟨o, 0, none⟩ = some (.pointer none) := by
  rcases h.head with h | ⟨cs, h, e⟩
  · exact h.at 0 rfl
  · exact h.at 0 e
theorem NoMem.below {w w' : World} {o : Nat} (h : NoMem w o) (hb : Below w.heap.size w w') : NoMem w' o := by
  rcases h.head with h | ⟨cs, h, e⟩
  · exact ⟨.inl (h.below hb)⟩
  · exact ⟨.inr ⟨cs, h.below hb, e⟩⟩
theorem NoMem.mk' {w : World} {o : Nat} {cs : Array Value} (h : Blk w o cs 48) (e : cs[0]? = some (.pointer none)) : NoMem w o := ⟨.inr ⟨cs, h, e⟩⟩
theorem MemAt.ptr {w : World} {o oc g gb gr A T : Nat} {L : List (Int × Int)} {bs rs : List (List Value)} (h : MemAt w o oc g gb gr A T L bs rs) : w.cell? ⟨o, 0, none⟩ = some (.pointer (some ⟨oc, 0, none⟩)) := h.head.at 0 rfl
set_option maxHeartbeats 800000 in
theorem none_nil (w : World) : Calls Try.prog 31 #[.pointer none] w fun e w' => e = .returned (.bool true) ∧ w = w' := by
  go_enter Try.func31, Try.ntmps31
  go_wp2_with fail
  go_ret
  exact ⟨rfl, rfl⟩
set_option maxHeartbeats 800000 in
theorem none_zero (o : Nat) (w : World) (h : NoMem w o) : Calls Try.prog 31 #[.pointer (some ⟨o, 0, none⟩)] w fun e w' => e = .returned (.bool true) ∧ w = w' := by
  have c0 := h.cell
  go_enter Try.func31, Try.ntmps31
  go_wp2_with fail
  go_ret
  exact ⟨rfl, rfl⟩
set_option maxHeartbeats 800000 in
theorem none_any {o oc g gb gr A T : Nat} {L : List (Int × Int)} {bs rs : List (List Value)} (w : World) (h : MemAt w o oc g gb gr A T L bs rs) : Calls Try.prog 31 #[.pointer (some ⟨o, 0, none⟩)] w fun e w' => e = .returned (.bool false) ∧ w = w' := by
  have c0 := h.ptr
  go_enter Try.func31, Try.ntmps31
  go_wp2_with fail
  go_ret
  exact ⟨rfl, rfl⟩
theorem MemAt.drewN {w : World} {o oc g gb gr A T : Nat} {L : List (Int × Int)} {bs rs : List (List Value)} (h : MemAt w o oc g gb gr A T L bs rs) (n : Nat) : MemAt (w.drewN n) o oc g gb gr A T L bs rs := h.below (below_drewN (Below.refl _ _) n)
theorem NoMem.drewN {w : World} {o : Nat} (h : NoMem w o) (n : Nat) : NoMem (w.drewN n) o := h.below (below_drewN (Below.refl _ _) n)
set_option maxHeartbeats 1600000 in
theorem at_nil (r i : Int) (w : World) : Calls Try.prog 37 #[.pointer none, .int .i64 r, .int .i64 i] w fun e w' => e = .returned (.int .i64 (-1)) ∧ Below w.heap.size w w' := by
  go_enter Try.func37, Try.ntmps37
  go_wp2_with fail
  go_quiet (exact Calls.quiet_of_same ((none_nil _).flip))
  go_wp2_with fail
  go_ret
  exact ⟨rfl, below_drewN (Below.refl _ _) _⟩
set_option maxHeartbeats 1600000 in
theorem at_zero (o : Nat) (r i : Int) (w : World) (h : NoMem w o) : Calls Try.prog 37 #[.pointer (some ⟨o, 0, none⟩), .int .i64 r, .int .i64 i] w fun e w' => e = .returned (.int .i64 (-1)) ∧ Below w.heap.size w w' := by
  go_enter Try.func37, Try.ntmps37
  go_wp2_with fail
  go_quiet (exact Calls.quiet_of_same ((none_zero _ _ (h.drewN _)).flip))
  go_wp2_with fail
  go_ret
  exact ⟨rfl, below_drewN (Below.refl _ _) _⟩
set_option maxRecDepth 100000 in
set_option maxHeartbeats 3200000 in
theorem at_0 {o oc g gb gr A T : Nat} {L : List (Int × Int)} {bs rs : List (List Value)} (i : Int) (w : World) (h : MemAt w o oc g gb gr A T L bs rs) (i0 : -9223372036854775808 ≤ i) (i1 : i ≤ 9223372036854775807) :
    Calls Try.prog 37 #[.pointer (some ⟨o, 0, none⟩), .int .i64 0, .int .i64 i] w fun e w' => e = .returned (.int .i64 (atI A T 0 i)) ∧ Below w.heap.size w w' := by
  have c1 : w.cell? ⟨o, 1, none⟩ = some (.int .i64 (fromI A T 0)) := h.head.at 1 rfl
  have c2 : w.cell? ⟨o, 2, none⟩ = some (.int .i64 (fromI A T 1)) := h.head.at 2 rfl
  have e1 := from_succ A T 0 (by omega)
  have e2 := from_rng A T 0 h.a1.2 h.t1.2
  have e3 := size_rng A T 0 h.a1.2 h.t1.2
  simp only [Nat.reduceAdd] at e1
  have hw : IntKind.i64.wrap (fromI A T 1 - fromI A T 0) = sizeI A T 0 := by rw [IntKind.wrap_i64]; omega
  have hk : IntKind.i64.wrap 1 = 1 := by rw [IntKind.wrap_i64]; rfl
  clear e1
  by_cases hn : i < 0
  · have q1 : decide (i < 0) = true := by simpa using hn
    have hR : Hid (atI A T 0 i = -1) := atI_no (by omega)
    clear hn
    go_enter Try.func37, Try.ntmps37
    go_wp2_with fail
    go_quiet (exact Calls.quiet_of_same ((none_any _ (h.drewN _)).flip))
    go_wp2_with fail
    go_ret
    exact ⟨ret_int hR.out.symm, below_drewN (Below.refl _ _) _⟩
  · have q1 : decide (i < 0) = false := by simpa using hn
    by_cases hm : sizeI A T 0 ≤ i
    · have q2 : decide (sizeI A T 0 ≤ i) = true := by simpa using hm
      have hR : Hid (atI A T 0 i = -1) := atI_no (by omega)
      clear hn hm
      go_enter Try.func37, Try.ntmps37
      go_wp2_with fail
      go_quiet (exact Calls.quiet_of_same ((none_any _ (h.drewN _)).flip))
      go_wp2_with fail
      go_ret
      exact ⟨ret_int hR.out.symm, below_drewN (Below.refl _ _) _⟩
    · have q2 : decide (sizeI A T 0 ≤ i) = false := by simpa using hm
      have hR : Hid (atI A T 0 i = fromI A T 0 + i) := atI_yes (by omega) (by omega)
      have hw3 : IntKind.i64.wrap (fromI A T 0 + i) = fromI A T 0 + i := by rw [IntKind.wrap_i64]; omega
      clear hn hm
      go_enter Try.func37, Try.ntmps37
      go_wp2_with fail
      go_quiet (exact Calls.quiet_of_same ((none_any _ (h.drewN _)).flip))
      go_wp2_with fail
      go_ret
      exact ⟨ret_int hR.out.symm, below_drewN (Below.refl _ _) _⟩
set_option maxRecDepth 100000 in
set_option maxHeartbeats 3200000 in
theorem at_1 {o oc g gb gr A T : Nat} {L : List (Int × Int)} {bs rs : List (List Value)} (i : Int) (w : World) (h : MemAt w o oc g gb gr A T L bs rs) (i0 : -9223372036854775808 ≤ i) (i1 : i ≤ 9223372036854775807) :
    Calls Try.prog 37 #[.pointer (some ⟨o, 0, none⟩), .int .i64 1, .int .i64 i] w fun e w' => e = .returned (.int .i64 (atI A T 1 i)) ∧ Below w.heap.size w w' := by
  have c1 : w.cell? ⟨o, 2, none⟩ = some (.int .i64 (fromI A T 1)) := h.head.at 2 rfl
  have c2 : w.cell? ⟨o, 3, none⟩ = some (.int .i64 (fromI A T 2)) := h.head.at 3 rfl
  have e1 := from_succ A T 1 (by omega)
  have e2 := from_rng A T 1 h.a1.2 h.t1.2
  have e3 := size_rng A T 1 h.a1.2 h.t1.2
  simp only [Nat.reduceAdd] at e1
  have hw : IntKind.i64.wrap (fromI A T 2 - fromI A T 1) = sizeI A T 1 := by rw [IntKind.wrap_i64]; omega
  have hk : IntKind.i64.wrap 2 = 2 := by rw [IntKind.wrap_i64]; rfl
  clear e1
  by_cases hn : i < 0
  · have q1 : decide (i < 0) = true := by simpa using hn
    have hR : Hid (atI A T 1 i = -1) := atI_no (by omega)
    clear hn
    go_enter Try.func37, Try.ntmps37
    go_wp2_with fail
    go_quiet (exact Calls.quiet_of_same ((none_any _ (h.drewN _)).flip))
    go_wp2_with fail
    go_ret
    exact ⟨ret_int hR.out.symm, below_drewN (Below.refl _ _) _⟩
  · have q1 : decide (i < 0) = false := by simpa using hn
    by_cases hm : sizeI A T 1 ≤ i
    · have q2 : decide (sizeI A T 1 ≤ i) = true := by simpa using hm
      have hR : Hid (atI A T 1 i = -1) := atI_no (by omega)
      clear hn hm
      go_enter Try.func37, Try.ntmps37
      go_wp2_with fail
      go_quiet (exact Calls.quiet_of_same ((none_any _ (h.drewN _)).flip))
      go_wp2_with fail
      go_ret
      exact ⟨ret_int hR.out.symm, below_drewN (Below.refl _ _) _⟩
    · have q2 : decide (sizeI A T 1 ≤ i) = false := by simpa using hm
      have hR : Hid (atI A T 1 i = fromI A T 1 + i) := atI_yes (by omega) (by omega)
      have hw3 : IntKind.i64.wrap (fromI A T 1 + i) = fromI A T 1 + i := by rw [IntKind.wrap_i64]; omega
      clear hn hm
      go_enter Try.func37, Try.ntmps37
      go_wp2_with fail
      go_quiet (exact Calls.quiet_of_same ((none_any _ (h.drewN _)).flip))
      go_wp2_with fail
      go_ret
      exact ⟨ret_int hR.out.symm, below_drewN (Below.refl _ _) _⟩
set_option maxRecDepth 100000 in
set_option maxHeartbeats 3200000 in
theorem at_2 {o oc g gb gr A T : Nat} {L : List (Int × Int)} {bs rs : List (List Value)} (i : Int) (w : World) (h : MemAt w o oc g gb gr A T L bs rs) (i0 : -9223372036854775808 ≤ i) (i1 : i ≤ 9223372036854775807) :
    Calls Try.prog 37 #[.pointer (some ⟨o, 0, none⟩), .int .i64 2, .int .i64 i] w fun e w' => e = .returned (.int .i64 (atI A T 2 i)) ∧ Below w.heap.size w w' := by
  have c1 : w.cell? ⟨o, 3, none⟩ = some (.int .i64 (fromI A T 2)) := h.head.at 3 rfl
  have c2 : w.cell? ⟨o, 4, none⟩ = some (.int .i64 (fromI A T 3)) := h.head.at 4 rfl
  have e1 := from_succ A T 2 (by omega)
  have e2 := from_rng A T 2 h.a1.2 h.t1.2
  have e3 := size_rng A T 2 h.a1.2 h.t1.2
  simp only [Nat.reduceAdd] at e1
  have hw : IntKind.i64.wrap (fromI A T 3 - fromI A T 2) = sizeI A T 2 := by rw [IntKind.wrap_i64]; omega
  have hk : IntKind.i64.wrap 3 = 3 := by rw [IntKind.wrap_i64]; rfl
  clear e1
  by_cases hn : i < 0
  · have q1 : decide (i < 0) = true := by simpa using hn
    have hR : Hid (atI A T 2 i = -1) := atI_no (by omega)
    clear hn
    go_enter Try.func37, Try.ntmps37
    go_wp2_with fail
    go_quiet (exact Calls.quiet_of_same ((none_any _ (h.drewN _)).flip))
    go_wp2_with fail
    go_ret
    exact ⟨ret_int hR.out.symm, below_drewN (Below.refl _ _) _⟩
  · have q1 : decide (i < 0) = false := by simpa using hn
    by_cases hm : sizeI A T 2 ≤ i
    · have q2 : decide (sizeI A T 2 ≤ i) = true := by simpa using hm
      have hR : Hid (atI A T 2 i = -1) := atI_no (by omega)
      clear hn hm
      go_enter Try.func37, Try.ntmps37
      go_wp2_with fail
      go_quiet (exact Calls.quiet_of_same ((none_any _ (h.drewN _)).flip))
      go_wp2_with fail
      go_ret
      exact ⟨ret_int hR.out.symm, below_drewN (Below.refl _ _) _⟩
    · have q2 : decide (sizeI A T 2 ≤ i) = false := by simpa using hm
      have hR : Hid (atI A T 2 i = fromI A T 2 + i) := atI_yes (by omega) (by omega)
      have hw3 : IntKind.i64.wrap (fromI A T 2 + i) = fromI A T 2 + i := by rw [IntKind.wrap_i64]; omega
      clear hn hm
      go_enter Try.func37, Try.ntmps37
      go_wp2_with fail
      go_quiet (exact Calls.quiet_of_same ((none_any _ (h.drewN _)).flip))
      go_wp2_with fail
      go_ret
      exact ⟨ret_int hR.out.symm, below_drewN (Below.refl _ _) _⟩
set_option maxRecDepth 100000 in
set_option maxHeartbeats 3200000 in
theorem at_3 {o oc g gb gr A T : Nat} {L : List (Int × Int)} {bs rs : List (List Value)} (i : Int) (w : World) (h : MemAt w o oc g gb gr A T L bs rs) (i0 : -9223372036854775808 ≤ i) (i1 : i ≤ 9223372036854775807) :
    Calls Try.prog 37 #[.pointer (some ⟨o, 0, none⟩), .int .i64 3, .int .i64 i] w fun e w' => e = .returned (.int .i64 (atI A T 3 i)) ∧ Below w.heap.size w w' := by
  have c1 : w.cell? ⟨o, 4, none⟩ = some (.int .i64 (fromI A T 3)) := h.head.at 4 rfl
  have c2 : w.cell? ⟨o, 5, none⟩ = some (.int .i64 (fromI A T 4)) := h.head.at 5 rfl
  have e1 := from_succ A T 3 (by omega)
  have e2 := from_rng A T 3 h.a1.2 h.t1.2
  have e3 := size_rng A T 3 h.a1.2 h.t1.2
  simp only [Nat.reduceAdd] at e1
  have hw : IntKind.i64.wrap (fromI A T 4 - fromI A T 3) = sizeI A T 3 := by rw [IntKind.wrap_i64]; omega
  have hk : IntKind.i64.wrap 4 = 4 := by rw [IntKind.wrap_i64]; rfl
  clear e1
  by_cases hn : i < 0
  · have q1 : decide (i < 0) = true := by simpa using hn
    have hR : Hid (atI A T 3 i = -1) := atI_no (by omega)
    clear hn
    go_enter Try.func37, Try.ntmps37
    go_wp2_with fail
    go_quiet (exact Calls.quiet_of_same ((none_any _ (h.drewN _)).flip))
    go_wp2_with fail
    go_ret
    exact ⟨ret_int hR.out.symm, below_drewN (Below.refl _ _) _⟩
  · have q1 : decide (i < 0) = false := by simpa using hn
    by_cases hm : sizeI A T 3 ≤ i
    · have q2 : decide (sizeI A T 3 ≤ i) = true := by simpa using hm
      have hR : Hid (atI A T 3 i = -1) := atI_no (by omega)
      clear hn hm
      go_enter Try.func37, Try.ntmps37
      go_wp2_with fail
      go_quiet (exact Calls.quiet_of_same ((none_any _ (h.drewN _)).flip))
      go_wp2_with fail
      go_ret
      exact ⟨ret_int hR.out.symm, below_drewN (Below.refl _ _) _⟩
    · have q2 : decide (sizeI A T 3 ≤ i) = false := by simpa using hm
      have hR : Hid (atI A T 3 i = fromI A T 3 + i) := atI_yes (by omega) (by omega)
      have hw3 : IntKind.i64.wrap (fromI A T 3 + i) = fromI A T 3 + i := by rw [IntKind.wrap_i64]; omega
      clear hn hm
      go_enter Try.func37, Try.ntmps37
      go_wp2_with fail
      go_quiet (exact Calls.quiet_of_same ((none_any _ (h.drewN _)).flip))
      go_wp2_with fail
      go_ret
      exact ⟨ret_int hR.out.symm, below_drewN (Below.refl _ _) _⟩
set_option maxRecDepth 100000 in
set_option maxHeartbeats 3200000 in
theorem at_4 {o oc g gb gr A T : Nat} {L : List (Int × Int)} {bs rs : List (List Value)} (i : Int) (w : World) (h : MemAt w o oc g gb gr A T L bs rs) (i0 : -9223372036854775808 ≤ i) (i1 : i ≤ 9223372036854775807) :
    Calls Try.prog 37 #[.pointer (some ⟨o, 0, none⟩), .int .i64 4, .int .i64 i] w fun e w' => e = .returned (.int .i64 (atI A T 4 i)) ∧ Below w.heap.size w w' := by
  have c1 : w.cell? ⟨o, 5, none⟩ = some (.int .i64 (fromI A T 4)) := h.head.at 5 rfl
  have c2 : w.cell? ⟨o, 6, none⟩ = some (.int .i64 (fromI A T 5)) := h.head.at 6 rfl
  have e1 := from_succ A T 4 (by omega)
  have e2 := from_rng A T 4 h.a1.2 h.t1.2
  have e3 := size_rng A T 4 h.a1.2 h.t1.2
  simp only [Nat.reduceAdd] at e1
  have hw : IntKind.i64.wrap (fromI A T 5 - fromI A T 4) = sizeI A T 4 := by rw [IntKind.wrap_i64]; omega
  have hk : IntKind.i64.wrap 5 = 5 := by rw [IntKind.wrap_i64]; rfl
  clear e1
  by_cases hn : i < 0
  · have q1 : decide (i < 0) = true := by simpa using hn
    have hR : Hid (atI A T 4 i = -1) := atI_no (by omega)
    clear hn
    go_enter Try.func37, Try.ntmps37
    go_wp2_with fail
    go_quiet (exact Calls.quiet_of_same ((none_any _ (h.drewN _)).flip))
    go_wp2_with fail
    go_ret
    exact ⟨ret_int hR.out.symm, below_drewN (Below.refl _ _) _⟩
  · have q1 : decide (i < 0) = false := by simpa using hn
    by_cases hm : sizeI A T 4 ≤ i
    · have q2 : decide (sizeI A T 4 ≤ i) = true := by simpa using hm
      have hR : Hid (atI A T 4 i = -1) := atI_no (by omega)
      clear hn hm
      go_enter Try.func37, Try.ntmps37
      go_wp2_with fail
      go_quiet (exact Calls.quiet_of_same ((none_any _ (h.drewN _)).flip))
      go_wp2_with fail
      go_ret
      exact ⟨ret_int hR.out.symm, below_drewN (Below.refl _ _) _⟩
    · have q2 : decide (sizeI A T 4 ≤ i) = false := by simpa using hm
      have hR : Hid (atI A T 4 i = fromI A T 4 + i) := atI_yes (by omega) (by omega)
      have hw3 : IntKind.i64.wrap (fromI A T 4 + i) = fromI A T 4 + i := by rw [IntKind.wrap_i64]; omega
      clear hn hm
      go_enter Try.func37, Try.ntmps37
      go_wp2_with fail
      go_quiet (exact Calls.quiet_of_same ((none_any _ (h.drewN _)).flip))
      go_wp2_with fail
      go_ret
      exact ⟨ret_int hR.out.symm, below_drewN (Below.refl _ _) _⟩
set_option maxRecDepth 100000 in
set_option maxHeartbeats 3200000 in
theorem at_5 {o oc g gb gr A T : Nat} {L : List (Int × Int)} {bs rs : List (List Value)} (i : Int) (w : World) (h : MemAt w o oc g gb gr A T L bs rs) (i0 : -9223372036854775808 ≤ i) (i1 : i ≤ 9223372036854775807) :
    Calls Try.prog 37 #[.pointer (some ⟨o, 0, none⟩), .int .i64 5, .int .i64 i] w fun e w' => e = .returned (.int .i64 (atI A T 5 i)) ∧ Below w.heap.size w w' := by
  have c1 : w.cell? ⟨o, 6, none⟩ = some (.int .i64 (fromI A T 5)) := h.head.at 6 rfl
  have c2 : w.cell? ⟨o, 7, none⟩ = some (.int .i64 (fromI A T 6)) := h.head.at 7 rfl
  have e1 := from_succ A T 5 (by omega)
  have e2 := from_rng A T 5 h.a1.2 h.t1.2
  have e3 := size_rng A T 5 h.a1.2 h.t1.2
  simp only [Nat.reduceAdd] at e1
  have hw : IntKind.i64.wrap (fromI A T 6 - fromI A T 5) = sizeI A T 5 := by rw [IntKind.wrap_i64]; omega
  have hk : IntKind.i64.wrap 6 = 6 := by rw [IntKind.wrap_i64]; rfl
  clear e1
  by_cases hn : i < 0
  · have q1 : decide (i < 0) = true := by simpa using hn
    have hR : Hid (atI A T 5 i = -1) := atI_no (by omega)
    clear hn
    go_enter Try.func37, Try.ntmps37
    go_wp2_with fail
    go_quiet (exact Calls.quiet_of_same ((none_any _ (h.drewN _)).flip))
    go_wp2_with fail
    go_ret
    exact ⟨ret_int hR.out.symm, below_drewN (Below.refl _ _) _⟩
  · have q1 : decide (i < 0) = false := by simpa using hn
    by_cases hm : sizeI A T 5 ≤ i
    · have q2 : decide (sizeI A T 5 ≤ i) = true := by simpa using hm
      have hR : Hid (atI A T 5 i = -1) := atI_no (by omega)
      clear hn hm
      go_enter Try.func37, Try.ntmps37
      go_wp2_with fail
      go_quiet (exact Calls.quiet_of_same ((none_any _ (h.drewN _)).flip))
      go_wp2_with fail
      go_ret
      exact ⟨ret_int hR.out.symm, below_drewN (Below.refl _ _) _⟩
    · have q2 : decide (sizeI A T 5 ≤ i) = false := by simpa using hm
      have hR : Hid (atI A T 5 i = fromI A T 5 + i) := atI_yes (by omega) (by omega)
      have hw3 : IntKind.i64.wrap (fromI A T 5 + i) = fromI A T 5 + i := by rw [IntKind.wrap_i64]; omega
      clear hn hm
      go_enter Try.func37, Try.ntmps37
      go_wp2_with fail
      go_quiet (exact Calls.quiet_of_same ((none_any _ (h.drewN _)).flip))
      go_wp2_with fail
      go_ret
      exact ⟨ret_int hR.out.symm, below_drewN (Below.refl _ _) _⟩
set_option maxRecDepth 100000 in
set_option maxHeartbeats 3200000 in
theorem at_6 {o oc g gb gr A T : Nat} {L : List (Int × Int)} {bs rs : List (List Value)} (i : Int) (w : World) (h : MemAt w o oc g gb gr A T L bs rs) (i0 : -9223372036854775808 ≤ i) (i1 : i ≤ 9223372036854775807) :
    Calls Try.prog 37 #[.pointer (some ⟨o, 0, none⟩), .int .i64 6, .int .i64 i] w fun e w' => e = .returned (.int .i64 (atI A T 6 i)) ∧ Below w.heap.size w w' := by
  have c1 : w.cell? ⟨o, 7, none⟩ = some (.int .i64 (fromI A T 6)) := h.head.at 7 rfl
  have c2 : w.cell? ⟨o, 8, none⟩ = some (.int .i64 (fromI A T 7)) := h.head.at 8 rfl
  have e1 := from_succ A T 6 (by omega)
  have e2 := from_rng A T 6 h.a1.2 h.t1.2
  have e3 := size_rng A T 6 h.a1.2 h.t1.2
  simp only [Nat.reduceAdd] at e1
  have hw : IntKind.i64.wrap (fromI A T 7 - fromI A T 6) = sizeI A T 6 := by rw [IntKind.wrap_i64]; omega
  have hk : IntKind.i64.wrap 7 = 7 := by rw [IntKind.wrap_i64]; rfl
  clear e1
  by_cases hn : i < 0
  · have q1 : decide (i < 0) = true := by simpa using hn
    have hR : Hid (atI A T 6 i = -1) := atI_no (by omega)
    clear hn
    go_enter Try.func37, Try.ntmps37
    go_wp2_with fail
    go_quiet (exact Calls.quiet_of_same ((none_any _ (h.drewN _)).flip))
    go_wp2_with fail
    go_ret
    exact ⟨ret_int hR.out.symm, below_drewN (Below.refl _ _) _⟩
  · have q1 : decide (i < 0) = false := by simpa using hn
    by_cases hm : sizeI A T 6 ≤ i
    · have q2 : decide (sizeI A T 6 ≤ i) = true := by simpa using hm
      have hR : Hid (atI A T 6 i = -1) := atI_no (by omega)
      clear hn hm
      go_enter Try.func37, Try.ntmps37
      go_wp2_with fail
      go_quiet (exact Calls.quiet_of_same ((none_any _ (h.drewN _)).flip))
      go_wp2_with fail
      go_ret
      exact ⟨ret_int hR.out.symm, below_drewN (Below.refl _ _) _⟩
    · have q2 : decide (sizeI A T 6 ≤ i) = false := by simpa using hm
      have hR : Hid (atI A T 6 i = fromI A T 6 + i) := atI_yes (by omega) (by omega)
      have hw3 : IntKind.i64.wrap (fromI A T 6 + i) = fromI A T 6 + i := by rw [IntKind.wrap_i64]; omega
      clear hn hm
      go_enter Try.func37, Try.ntmps37
      go_wp2_with fail
      go_quiet (exact Calls.quiet_of_same ((none_any _ (h.drewN _)).flip))
      go_wp2_with fail
      go_ret
      exact ⟨ret_int hR.out.symm, below_drewN (Below.refl _ _) _⟩
set_option maxHeartbeats 800000 in
theorem node_any {o oc g gb gr A T : Nat} {L : List (Int × Int)} {bs rs : List (List Value)} (i : Int) (w : World) (h : MemAt w o oc g gb gr A T L bs rs) (i0 : -9223372036854775808 ≤ i) (i1 : i ≤ 9223372036854775807) :
    Calls Try.prog 19 #[.pointer (some ⟨o, 0, none⟩), .int .i64 i] w fun e w' => e = .returned (.int .i64 (atI A T 0 i)) ∧ Below w.heap.size w w' := by
  go_enter Try.func19, Try.ntmps19
  go_wp2_with fail
  refine (at_0 i _ h i0 i1).mono ?_
  rintro e w1 ⟨rfl, hb1⟩
  go_wp2_with fail
  go_ret
  exact ⟨rfl, hb1⟩
set_option maxHeartbeats 800000 in
theorem node_nil (i : Int) (w : World) : Calls Try.prog 19 #[.pointer none, .int .i64 i] w fun e w' => e = .returned (.int .i64 (-1)) ∧ Below w.heap.size w w' := by
  go_enter Try.func19, Try.ntmps19
  go_wp2_with fail
  refine (at_nil _ i _).mono ?_
  rintro e w1 ⟨rfl, hb1⟩
  go_wp2_with fail
  go_ret
  exact ⟨rfl, hb1⟩
set_option maxHeartbeats 800000 in
theorem node_zero (o : Nat) (i : Int) (w : World) (h : NoMem w o) : Calls Try.prog 19 #[.pointer (some ⟨o, 0, none⟩), .int .i64 i] w fun e w' => e = .returned (.int .i64 (-1)) ∧ Below w.heap.size w w' := by
  go_enter Try.func19, Try.ntmps19
  go_wp2_with fail
  refine (at_zero _ _ i _ h).mono ?_
  rintro e w1 ⟨rfl, hb1⟩
  go_wp2_with fail
  go_ret
  exact ⟨rfl, hb1⟩
set_option maxHeartbeats 800000 in
theorem muse_any {o oc g gb gr A T : Nat} {L : List (Int × Int)} {bs rs : List (List Value)} (i : Int) (w : World) (h : MemAt w o oc g gb gr A T L bs rs) (i0 : -9223372036854775808 ≤ i) (i1 : i ≤ 9223372036854775807) :
    Calls Try.prog 17 #[.pointer (some ⟨o, 0, none⟩), .int .i64 i] w fun e w' => e = .returned (.int .i64 (atI A T 1 i)) ∧ Below w.heap.size w w' := by
  go_enter Try.func17, Try.ntmps17
  go_wp2_with fail
  refine (at_1 i _ h i0 i1).mono ?_
  rintro e w1 ⟨rfl, hb1⟩
  go_wp2_with fail
  go_ret
  exact ⟨rfl, hb1⟩
set_option maxHeartbeats 800000 in
theorem muse_nil (i : Int) (w : World) : Calls Try.prog 17 #[.pointer none, .int .i64 i] w fun e w' => e = .returned (.int .i64 (-1)) ∧ Below w.heap.size w w' := by
  go_enter Try.func17, Try.ntmps17
  go_wp2_with fail
  refine (at_nil _ i _).mono ?_
  rintro e w1 ⟨rfl, hb1⟩
  go_wp2_with fail
  go_ret
  exact ⟨rfl, hb1⟩
set_option maxHeartbeats 800000 in
theorem muse_zero (o : Nat) (i : Int) (w : World) (h : NoMem w o) : Calls Try.prog 17 #[.pointer (some ⟨o, 0, none⟩), .int .i64 i] w fun e w' => e = .returned (.int .i64 (-1)) ∧ Below w.heap.size w w' := by
  go_enter Try.func17, Try.ntmps17
  go_wp2_with fail
  refine (at_zero _ _ i _ h).mono ?_
  rintro e w1 ⟨rfl, hb1⟩
  go_wp2_with fail
  go_ret
  exact ⟨rfl, hb1⟩
set_option maxHeartbeats 800000 in
theorem announce_any {o oc g gb gr A T : Nat} {L : List (Int × Int)} {bs rs : List (List Value)} (i : Int) (w : World) (h : MemAt w o oc g gb gr A T L bs rs) (i0 : -9223372036854775808 ≤ i) (i1 : i ≤ 9223372036854775807) :
    Calls Try.prog 20 #[.pointer (some ⟨o, 0, none⟩), .int .i64 i] w fun e w' => e = .returned (.int .i64 (atI A T 2 i)) ∧ Below w.heap.size w w' := by
  go_enter Try.func20, Try.ntmps20
  go_wp2_with fail
  refine (at_2 i _ h i0 i1).mono ?_
  rintro e w1 ⟨rfl, hb1⟩
  go_wp2_with fail
  go_ret
  exact ⟨rfl, hb1⟩
set_option maxHeartbeats 800000 in
theorem announce_nil (i : Int) (w : World) : Calls Try.prog 20 #[.pointer none, .int .i64 i] w fun e w' => e = .returned (.int .i64 (-1)) ∧ Below w.heap.size w w' := by
  go_enter Try.func20, Try.ntmps20
  go_wp2_with fail
  refine (at_nil _ i _).mono ?_
  rintro e w1 ⟨rfl, hb1⟩
  go_wp2_with fail
  go_ret
  exact ⟨rfl, hb1⟩
set_option maxHeartbeats 800000 in
theorem announce_zero (o : Nat) (i : Int) (w : World) (h : NoMem w o) : Calls Try.prog 20 #[.pointer (some ⟨o, 0, none⟩), .int .i64 i] w fun e w' => e = .returned (.int .i64 (-1)) ∧ Below w.heap.size w w' := by
  go_enter Try.func20, Try.ntmps20
  go_wp2_with fail
  refine (at_zero _ _ i _ h).mono ?_
  rintro e w1 ⟨rfl, hb1⟩
  go_wp2_with fail
  go_ret
  exact ⟨rfl, hb1⟩
set_option maxHeartbeats 800000 in
theorem done_any {o oc g gb gr A T : Nat} {L : List (Int × Int)} {bs rs : List (List Value)} (i : Int) (w : World) (h : MemAt w o oc g gb gr A T L bs rs) (i0 : -9223372036854775808 ≤ i) (i1 : i ≤ 9223372036854775807) :
    Calls Try.prog 21 #[.pointer (some ⟨o, 0, none⟩), .int .i64 i] w fun e w' => e = .returned (.int .i64 (atI A T 3 i)) ∧ Below w.heap.size w w' := by
  go_enter Try.func21, Try.ntmps21
  go_wp2_with fail
  refine (at_3 i _ h i0 i1).mono ?_
  rintro e w1 ⟨rfl, hb1⟩
  go_wp2_with fail
  go_ret
  exact ⟨rfl, hb1⟩
set_option maxHeartbeats 800000 in
theorem done_nil (i : Int) (w : World) : Calls Try.prog 21 #[.pointer none, .int .i64 i] w fun e w' => e = .returned (.int .i64 (-1)) ∧ Below w.heap.size w w' := by
  go_enter Try.func21, Try.ntmps21
  go_wp2_with fail
  refine (at_nil _ i _).mono ?_
  rintro e w1 ⟨rfl, hb1⟩
  go_wp2_with fail
  go_ret
  exact ⟨rfl, hb1⟩
set_option maxHeartbeats 800000 in
theorem done_zero (o : Nat) (i : Int) (w : World) (h : NoMem w o) : Calls Try.prog 21 #[.pointer (some ⟨o, 0, none⟩), .int .i64 i] w fun e w' => e = .returned (.int .i64 (-1)) ∧ Below w.heap.size w w' := by
  go_enter Try.func21, Try.ntmps21
  go_wp2_with fail
  refine (at_zero _ _ i _ h).mono ?_
  rintro e w1 ⟨rfl, hb1⟩
  go_wp2_with fail
  go_ret
  exact ⟨rfl, hb1⟩
set_option maxHeartbeats 800000 in
theorem phase_any {o oc g gb gr A T : Nat} {L : List (Int × Int)} {bs rs : List (List Value)} (i : Int) (w : World) (h : MemAt w o oc g gb gr A T L bs rs) (i0 : -9223372036854775808 ≤ i) (i1 : i ≤ 9223372036854775807) :
    Calls Try.prog 22 #[.pointer (some ⟨o, 0, none⟩), .int .i64 i] w fun e w' => e = .returned (.int .i64 (atI A T 4 i)) ∧ Below w.heap.size w w' := by
  go_enter Try.func22, Try.ntmps22
  go_wp2_with fail
  refine (at_4 i _ h i0 i1).mono ?_
  rintro e w1 ⟨rfl, hb1⟩
  go_wp2_with fail
  go_ret
  exact ⟨rfl, hb1⟩
set_option maxHeartbeats 800000 in
theorem phase_nil (i : Int) (w : World) : Calls Try.prog 22 #[.pointer none, .int .i64 i] w fun e w' => e = .returned (.int .i64 (-1)) ∧ Below w.heap.size w w' := by
  go_enter Try.func22, Try.ntmps22
  go_wp2_with fail
  refine (at_nil _ i _).mono ?_
  rintro e w1 ⟨rfl, hb1⟩
  go_wp2_with fail
  go_ret
  exact ⟨rfl, hb1⟩
set_option maxHeartbeats 800000 in
theorem phase_zero (o : Nat) (i : Int) (w : World) (h : NoMem w o) : Calls Try.prog 22 #[.pointer (some ⟨o, 0, none⟩), .int .i64 i] w fun e w' => e = .returned (.int .i64 (-1)) ∧ Below w.heap.size w w' := by
  go_enter Try.func22, Try.ntmps22
  go_wp2_with fail
  refine (at_zero _ _ i _ h).mono ?_
  rintro e w1 ⟨rfl, hb1⟩
  go_wp2_with fail
  go_ret
  exact ⟨rfl, hb1⟩
/-- the gate's cell -/
def gateI (A T : Nat) : Int := 2 * A + 5 * T
theorem gate_at (A T : Nat) : atI A T 6 0 = gateI A T := by
  rw [atI_yes (by omega) (by simp [sizeI])]; simp [fromI, gateI]
set_option maxHeartbeats 800000 in
theorem gate_any {o oc g gb gr A T : Nat} {L : List (Int × Int)} {bs rs : List (List Value)} (w : World) (h : MemAt w o oc g gb gr A T L bs rs) :
    Calls Try.prog 15 #[.pointer (some ⟨o, 0, none⟩)] w fun e w' => e = .returned (.int .i64 (gateI A T)) ∧ Below w.heap.size w w' := by
  have hg := gate_at A T
  have ha := at_6 0 w h (by omega) (by omega)
  rw [hg] at ha
  clear hg
  go_enter Try.func15, Try.ntmps15
  go_wp2_with fail
  refine ha.mono ?_
  rintro e w1 ⟨rfl, hb1⟩
  go_wp2_with fail
  go_ret
  exact ⟨rfl, hb1⟩
set_option maxHeartbeats 800000 in
theorem gate_nil (w : World) : Calls Try.prog 15 #[.pointer none] w fun e w' => e = .returned (.int .i64 (-1)) ∧ Below w.heap.size w w' := by
  go_enter Try.func15, Try.ntmps15
  go_wp2_with fail
  refine (at_nil _ _ _).mono ?_
  rintro e w1 ⟨rfl, hb1⟩
  go_wp2_with fail
  go_ret
  exact ⟨rfl, hb1⟩
set_option maxHeartbeats 800000 in
theorem gate_zero (o : Nat) (w : World) (h : NoMem w o) : Calls Try.prog 15 #[.pointer (some ⟨o, 0, none⟩)] w fun e w' => e = .returned (.int .i64 (-1)) ∧ Below w.heap.size w w' := by
  go_enter Try.func15, Try.ntmps15
  go_wp2_with fail
  refine (at_zero _ _ _ _ h).mono ?_
  rintro e w1 ⟨rfl, hb1⟩
  go_wp2_with fail
  go_ret
  exact ⟨rfl, hb1⟩
set_option maxHeartbeats 800000 in
theorem arena_any {o oc g gb gr A T : Nat} {L : List (Int × Int)} {bs rs : List (List Value)} (w : World) (h : MemAt w o oc g gb gr A T L bs rs) :
    Calls Try.prog 13 #[.pointer (some ⟨o, 0, none⟩)] w fun e w' => e = .returned (.int .i64 A) ∧ w = w' := by
  have c0 : w.cell? ⟨o, 9, none⟩ = some (.slice (some ⟨gb, 0, none⟩) A A) := h.head.at 9 rfl
  go_enter Try.func13, Try.ntmps13
  go_wp2_with fail
  refine (none_any _ h).mono ?_
  rintro e w1 ⟨rfl, rfl⟩
  go_wp2_with fail
  go_ret
  exact ⟨rfl, rfl⟩
set_option maxHeartbeats 800000 in
theorem arena_nil (w : World) : Calls Try.prog 13 #[.pointer none] w fun e w' => e = .returned (.int .i64 0) ∧ w = w' := by
  go_enter Try.func13, Try.ntmps13
  go_wp2_with fail
  refine (none_nil _).mono ?_
  rintro e w1 ⟨rfl, rfl⟩
  go_wp2_with fail
  go_ret
  exact ⟨rfl, rfl⟩
set_option maxHeartbeats 800000 in
theorem arena_zero (o : Nat) (w : World) (h : NoMem w o) : Calls Try.prog 13 #[.pointer (some ⟨o, 0, none⟩)] w fun e w' => e = .returned (.int .i64 0) ∧ w = w' := by
  go_enter Try.func13, Try.ntmps13
  go_wp2_with fail
  refine (none_zero _ _ h).mono ?_
  rintro e w1 ⟨rfl, rfl⟩
  go_wp2_with fail
  go_ret
  exact ⟨rfl, rfl⟩
set_option maxHeartbeats 800000 in
theorem threads_any {o oc g gb gr A T : Nat} {L : List (Int × Int)} {bs rs : List (List Value)} (w : World) (h : MemAt w o oc g gb gr A T L bs rs) :
    Calls Try.prog 14 #[.pointer (some ⟨o, 0, none⟩)] w fun e w' => e = .returned (.int .i64 T) ∧ w = w' := by
  have c0 : w.cell? ⟨o, 10, none⟩ = some (.slice (some ⟨gr, 0, none⟩) T T) := h.head.at 10 rfl
  go_enter Try.func14, Try.ntmps14
  go_wp2_with fail
  refine (none_any _ h).mono ?_
  rintro e w1 ⟨rfl, rfl⟩
  go_wp2_with fail
  go_ret
  exact ⟨rfl, rfl⟩
set_option maxHeartbeats 800000 in
theorem threads_nil (w : World) : Calls Try.prog 14 #[.pointer none] w fun e w' => e = .returned (.int .i64 0) ∧ w = w' := by
  go_enter Try.func14, Try.ntmps14
  go_wp2_with fail
  refine (none_nil _).mono ?_
  rintro e w1 ⟨rfl, rfl⟩
  go_wp2_with fail
  go_ret
  exact ⟨rfl, rfl⟩
set_option maxHeartbeats 800000 in
theorem threads_zero (o : Nat) (w : World) (h : NoMem w o) : Calls Try.prog 14 #[.pointer (some ⟨o, 0, none⟩)] w fun e w' => e = .returned (.int .i64 0) ∧ w = w' := by
  go_enter Try.func14, Try.ntmps14
  go_wp2_with fail
  refine (none_zero _ _ h).mono ?_
  rintro e w1 ⟨rfl, rfl⟩
  go_wp2_with fail
  go_ret
  exact ⟨rfl, rfl⟩
set_option maxHeartbeats 800000 in
theorem mlen_any {o oc g gb gr A T : Nat} {L : List (Int × Int)} {bs rs : List (List Value)} (w : World) (h : MemAt w o oc g gb gr A T L bs rs) :
    Calls Try.prog 12 #[.pointer (some ⟨o, 0, none⟩)] w fun e w' => e = .returned (.int .i64 L.length) ∧ w = w' := by
  have c0 := h.ptr
  go_enter Try.func12, Try.ntmps12
  go_wp2_with fail
  refine (none_any _ h).mono ?_
  rintro e w1 ⟨rfl, rfl⟩
  go_wp2_with fail
  refine (len_any _ _ _ _ h.cells).mono ?_
  rintro e w1 ⟨rfl, rfl⟩
  go_wp2_with fail
  go_ret
  exact ⟨rfl, rfl⟩
set_option maxHeartbeats 800000 in
theorem mlen_nil (w : World) : Calls Try.prog 12 #[.pointer none] w fun e w' => e = .returned (.int .i64 0) ∧ w = w' := by
  go_enter Try.func12, Try.ntmps12
  go_wp2_with fail
  refine (none_nil _).mono ?_
  rintro e w1 ⟨rfl, rfl⟩
  go_wp2_with fail
  go_ret
  exact ⟨rfl, rfl⟩
set_option maxHeartbeats 800000 in
theorem mlen_zero (o : Nat) (w : World) (h : NoMem w o) : Calls Try.prog 12 #[.pointer (some ⟨o, 0, none⟩)] w fun e w' => e = .returned (.int .i64 0) ∧ w = w' := by
  go_enter Try.func12, Try.ntmps12
  go_wp2_with fail
  refine (none_zero _ _ h).mono ?_
  rintro e w1 ⟨rfl, rfl⟩
  go_wp2_with fail
  go_ret
  exact ⟨rfl, rfl⟩
set_option maxHeartbeats 800000 in
theorem mload_any {o oc g gb gr A T : Nat} {L : List (Int × Int)} {bs rs : List (List Value)} (i : Int) (w : World) (h : MemAt w o oc g gb gr A T L bs rs) :
    Calls Try.prog 11 #[.pointer (some ⟨o, 0, none⟩), .int .i64 i] w fun e w' => e = .returned (.tuple #[.int .u64 (loadW L i), .int .u64 (loadV L i), .bool (inB L.length i)]) ∧ Below w.heap.size w w' := by
  have c0 := h.ptr
  go_enter Try.func11, Try.ntmps11
  go_wp2_with fail
  refine (none_any _ h).mono ?_
  rintro e w1 ⟨rfl, rfl⟩
  go_wp2_with fail
  refine (load_any _ _ _ _ _ h.cells).mono ?_
  rintro e w1 ⟨rfl, hb1⟩
  go_wp2_with fail
  go_ret3
  exact ⟨rfl, hb1⟩
set_option maxHeartbeats 800000 in
theorem mload_nil (i : Int) (w : World) : Calls Try.prog 11 #[.pointer none, .int .i64 i] w fun e w' => e = .returned (.tuple #[.int .u64 0, .int .u64 0, .bool false]) ∧ w = w' := by
  go_enter Try.func11, Try.ntmps11
  go_wp2_with fail
  refine (none_nil _).mono ?_
  rintro e w1 ⟨rfl, rfl⟩
  go_wp2_with fail
  go_ret3
  exact ⟨rfl, rfl⟩
set_option maxHeartbeats 800000 in
theorem mload_zero (o : Nat) (i : Int) (w : World) (h : NoMem w o) : Calls Try.prog 11 #[.pointer (some ⟨o, 0, none⟩), .int .i64 i] w fun e w' => e = .returned (.tuple #[.int .u64 0, .int .u64 0, .bool false]) ∧ w = w' := by
  go_enter Try.func11, Try.ntmps11
  go_wp2_with fail
  refine (none_zero _ _ h).mono ?_
  rintro e w1 ⟨rfl, rfl⟩
  go_wp2_with fail
  go_ret3
  exact ⟨rfl, rfl⟩
/-- a hazard's cell -/
def hazI (A T : Nat) (t k : Int) : Int := if 0 ≤ k ∧ k < 2 ∧ 0 ≤ t ∧ t < T then 2 * A + 3 * T + (2 * t + k) else -1
theorem hazI_no {A T : Nat} {t k : Int} (h : ¬ (0 ≤ k ∧ k < 2 ∧ 0 ≤ t ∧ t < T)) : hazI A T t k = -1 := if_neg h
theorem hazI_yes {A T : Nat} {t k : Int} (h : 0 ≤ k ∧ k < 2 ∧ 0 ≤ t ∧ t < T) : atI A T 5 (t * 2 + k) = hazI A T t k := by
  unfold hazI
  rw [if_pos h, atI_yes (by omega) (by simp [sizeI]; omega)]
  simp [fromI]; omega
set_option maxHeartbeats 1600000 in
theorem haz_any {o oc g gb gr A T : Nat} {L : List (Int × Int)} {bs rs : List (List Value)} (t k : Int) (w : World) (h : MemAt w o oc g gb gr A T L bs rs) :
    Calls Try.prog 16 #[.pointer (some ⟨o, 0, none⟩), .int .i64 t, .int .i64 k] w fun e w' => e = .returned (.int .i64 (hazI A T t k)) ∧ Below w.heap.size w w' := by
  have hT := h.t1
  by_cases h1 : k < 0
  · have q1 : decide (k < 0) = true := by simpa using h1
    have hR : Hid (hazI A T t k = -1) := hazI_no (by omega)
    clear h1
    go_enter Try.func16, Try.ntmps16
    go_wp2_with fail
    go_ret
    exact ⟨ret_int hR.out.symm, Below.refl _ _⟩
  have q1 : decide (k < 0) = false := by simpa using h1
  by_cases h2 : 2 ≤ k
  · have q2 : decide (2 ≤ k) = true := by simpa using h2
    have hR : Hid (hazI A T t k = -1) := hazI_no (by omega)
    clear h1 h2
    go_enter Try.func16, Try.ntmps16
    go_wp2_with fail
    go_ret
    exact ⟨ret_int hR.out.symm, Below.refl _ _⟩
  have q2 : decide (2 ≤ k) = false := by simpa using h2
  by_cases h3 : t < 0
  · have q3 : decide (t < 0) = true := by simpa using h3
    have hR : Hid (hazI A T t k = -1) := hazI_no (by omega)
    clear h1 h2 h3
    go_enter Try.func16, Try.ntmps16
    go_wp2_with fail
    go_ret
    exact ⟨ret_int hR.out.symm, Below.refl _ _⟩
  have q3 : decide (t < 0) = false := by simpa using h3
  by_cases h4 : (T : Int) ≤ t
  · have q4 : decide ((T : Int) ≤ t) = true := by simpa using h4
    have hR : Hid (hazI A T t k = -1) := hazI_no (by omega)
    clear h1 h2 h3 h4
    go_enter Try.func16, Try.ntmps16
    go_wp2_with fail
    refine (threads_any _ h).mono ?_
    rintro e w1 ⟨rfl, rfl⟩
    go_wp2_with fail
    go_ret
    exact ⟨ret_int hR.out.symm, Below.refl _ _⟩
  have q4 : decide ((T : Int) ≤ t) = false := by simpa using h4
  have hy := hazI_yes (A := A) (show 0 ≤ k ∧ k < 2 ∧ 0 ≤ t ∧ t < (T : Int) by omega)
  have ha := at_5 (t * 2 + k) w h (by omega) (by omega)
  rw [hy] at ha
  have hw1 : IntKind.i64.wrap (t * 2) = t * 2 := by rw [IntKind.wrap_i64]; omega
  have hw2 : IntKind.i64.wrap (t * 2 + k) = t * 2 + k := by rw [IntKind.wrap_i64]; omega
  have hb1 : -9223372036854775808 ≤ t * 2 ∧ t * 2 ≤ 9223372036854775807 := by omega
  have hb2 : -9223372036854775808 ≤ t * 2 + k ∧ t * 2 + k ≤ 9223372036854775807 := by omega
  clear h1 h2 h3 h4 hy
  go_enter Try.func16, Try.ntmps16
  go_wp2_with fail
  refine (threads_any _ h).mono ?_
  rintro e w1 ⟨rfl, rfl⟩
  go_wp2_with fail
  refine ha.mono ?_
  rintro e w1 ⟨rfl, hb1⟩
  go_wp2_with fail
  go_ret
  exact ⟨rfl, hb1⟩
end Go.Proofs.Ytfnjggefinkcaaa.MemP
