/-
  Are two deep things the same? slices.Equal, and the Sames of the program and of the document: contracts.
-/
import Derived.Test.YtfnjggefinkcaaaLightW
import Derived.Test.YtfnjggefinkcaaaDeepFlat
import Derived.BigQuiet
import Derived.Lib.SlicesS
import Derived.Deep.DeepCutAuto
namespace Go.Proofs.Ytfnjggefinkcaaa.Dp
open Go.RowKit RefP
set_option linter.unusedVariables false
set_option linter.unusedSimpArgs false
theorem eq_step {α : Type} {xs ys : List α} {k : Nat} (h : xs.take k = ys.take k) (hx : k < xs.length) (hy : k < ys.length) (e : xs[k] = ys[k]) : xs.take (k + 1) = ys.take (k + 1) := by
  rw [List.take_succ_eq_append_getElem hx, List.take_succ_eq_append_getElem hy, h, e]
theorem eq_not {α : Type} {xs ys : List α} {k : Nat} (hx : k < xs.length) (hy : k < ys.length) (e : xs[k] ≠ ys[k]) : xs ≠ ys := fun h => by subst h; exact e rfl
theorem eq_all {α : Type} {xs ys : List α} (h : xs.take xs.length = ys.take xs.length) (hl : xs.length = ys.length) : xs = ys := by
  rw [List.take_length] at h
  rw [h, hl, List.take_length]
theorem eq_len {α : Type} {xs ys : List α} (h : xs.length ≠ ys.length) : xs ≠ ys := fun e => h (by rw [e])
theorem sEq {x y : ByteArray} (h : (!x.toList == y.toList) = false) : x = y := (Lib.bytes_beq_iff x y).1 (by simpa using h)
theorem sNe {x y : ByteArray} (h : (!x.toList == y.toList) = true) : x ≠ y := (Lib.bytes_beq_false_iff x y).1 (by simpa using h)
theorem iEq {x y : Int} (h : (x != y) = false) : x = y := by simpa using h
theorem iNe {x y : Int} (h : (x != y) = true) : x ≠ y := by simpa using h
theorem neqPair (w : World) (x1 y1 : ByteArray) (x2 y2 : Int) : (binOp .neq 64 (.agg #[.string x1, .int .u64 x2]) (.agg #[.string y1, .int .u64 y2])).run Try.prog w = .ok (.bool (!(decide (PairV.mk x1 x2 = PairV.mk y1 y2)))) w := by
  rw [run_neq_struct]
  by_cases h1 : x1 = y1
  · by_cases h2 : x2 = y2
    · subst h1; subst h2
      go_simp
      all_goals simp
    · subst h1
      go_simp
      all_goals simp [h2]
  · have := (Lib.bytes_beq_false_iff x1 y1).2 h1
    go_simp
    all_goals simp [h1]
theorem neqStep (w : World) (x1 y1 x2 y2 x3 y3 x4 y4 : Int) (x5 y5 : Bool) : (binOp .neq 87 (.agg #[.int .i64 x1, .int .u64 x2, .int .u64 x3, .int .u64 x4, .bool x5]) (.agg #[.int .i64 y1, .int .u64 y2, .int .u64 y3, .int .u64 y4, .bool y5])).run Try.prog w = .ok (.bool (!(decide (StepV.mk x1 x2 x3 x4 x5 = StepV.mk y1 y2 y3 y4 y5)))) w := by
  rw [run_neq_struct]
  by_cases h1 : x1 = y1
  · by_cases h2 : x2 = y2
    · by_cases h3 : x3 = y3
      · by_cases h4 : x4 = y4
        · by_cases h5 : x5 = y5
          · subst h1; subst h2; subst h3; subst h4; subst h5
            go_simp
            all_goals simp
          · have : (x5 == y5) = false := by simpa using h5
            subst h1; subst h2; subst h3; subst h4
            go_simp
            all_goals simp [h5]
        · have : (x4 == y4) = false := by simpa using h4
          subst h1; subst h2; subst h3
          go_simp
          all_goals simp [h4]
      · have : (x3 == y3) = false := by simpa using h3
        subst h1; subst h2
        go_simp
        all_goals simp [h3]
    · have : (x2 == y2) = false := by simpa using h2
      subst h1
      go_simp
      all_goals simp [h2]
  · have : (x1 == y1) = false := by simpa using h1
    go_simp
    all_goals simp [h1]
theorem dEq {α : Type} [DecidableEq α] {x y : α} (h : (!decide (x = y)) = false) : x = y := by simpa using h
theorem dNe {α : Type} [DecidableEq α] {x y : α} (h : (!decide (x = y)) = true) : x ≠ y := by simpa using h
theorem pEq {x1 y1 : ByteArray} {x2 y2 : Int} (h : (!decide (x1 = y1)) = false ∧ (!decide (x2 = y2)) = false) : PairV.mk x1 x2 = PairV.mk y1 y2 := by simpa using h
theorem pNe {x1 y1 : ByteArray} {x2 y2 : Int} (h : (!decide (x1 = y1)) = true ∨ (!decide (x2 = y2)) = true) : PairV.mk x1 x2 ≠ PairV.mk y1 y2 := by
  intro e
  injection e with e1 e2
  subst e1; subst e2
  simp at h
theorem tEq {x1 y1 x2 y2 x3 y3 x4 y4 : Int} {x5 y5 : Bool} (h : (!decide (x1 = y1)) = false ∧ (!decide (x2 = y2)) = false ∧ (!decide (x3 = y3)) = false ∧ (!decide (x4 = y4)) = false ∧ (!decide (x5 = y5)) = false) : StepV.mk x1 x2 x3 x4 x5 = StepV.mk y1 y2 y3 y4 y5 := by simpa using h
theorem tNe {x1 y1 x2 y2 x3 y3 x4 y4 : Int} {x5 y5 : Bool} (h : (!decide (x1 = y1)) = true ∨ (!decide (x2 = y2)) = true ∨ (!decide (x3 = y3)) = true ∨ (!decide (x4 = y4)) = true ∨ (!decide (x5 = y5)) = true) : StepV.mk x1 x2 x3 x4 x5 ≠ StepV.mk y1 y2 y3 y4 y5 := by
  intro e
  injection e with e1 e2 e3 e4 e5
  subst e1; subst e2; subst e3; subst e4; subst e5
  simp at h
set_option maxRecDepth 100000 in
set_option maxHeartbeats 1600000 in
theorem eqStr_any (S S' : List Nat) (h h' : Hd) (xs ys : List (ByteArray)) (w : World) (H : HRow strC w S h xs) (H' : HRow strC w S' h' ys) :
    Calls Try.prog 66 #[.slice h.a xs.length h.c, .slice h'.a ys.length h'.c] w fun e w' => e = .returned (.bool (decide (xs = ys))) ∧ Below w.heap.size w w' := by
  by_cases hl : xs.length = ys.length
  · have q0 : ((xs.length : Int) != (ys.length : Int)) = false := by simp; omega
    have hle := H.le
    have hcap := H.cap
    have hm : (maxLen : Nat) = 9223372036854775807 := by unfold maxLen; rfl
    go_enter Try.func66, Try.ntmps66
    go_wp2_with fail
    go_loopw [13] (fun i wr => ∃ k : Nat, k ≤ xs.length ∧ i = .int .i64 k ∧ Below w.heap.size w wr ∧ xs.take k = ys.take k) (fun i _ => xs.length - (intOf i).toNat)
    case atStart => exact ⟨0, Nat.zero_le _, rfl, Below.refl _ _, by simp⟩
    case round =>
      obtain ⟨k, hk, rfl, hB, hall⟩ := hrel
      by_cases hlt : k < xs.length
      · have hlt' : (k : Int) < (xs.length : Int) := by omega
        have hlty : k < ys.length := by omega
        have hlty' : (k : Int) < (ys.length : Int) := by omega
        obtain ⟨b, off, ha, hbl, hc⟩ := (flat_str).cell (H.keep (Keeps.of_below hB)) k hlt
        obtain ⟨b', off', ha', hbl', hc'⟩ := (flat_str).cell (H'.keep (Keeps.of_below hB)) k hlty
        rw [ha, ha']
        have hst := fun e => Lib.hid (eq_step hall hlt hlty e)
        have hno := fun e => Lib.hid (eq_not hlt hlty e)
        generalize hX : xs[k] = x at hc hst hno
        generalize hY : ys[k] = y at hc' hst hno
        clear hX hY hall
        have c0 : wr.cell? ⟨b, off + k, none⟩ = some (.string x) := by simpa [strC] using hc 0 _ rfl
        have d0 : wr.cell? ⟨b', off' + k, none⟩ = some (.string y) := by simpa [strC] using hc' 0 _ rfl
        go_upto_region 6 with (fail)
        go_quiet (fail)
        go_wp2_with fail
        · rename_i hq
          have hN := hno (sNe hq)
          go_ret
          exact ⟨by rw [decide_eq_false hN.out]; rfl, below_drewN hB _⟩
        · rename_i hq
          go_roundw
          case rel => exact ⟨k + 1, by omega, by go_num, below_drewN hB _, (hst (sEq hq)).out⟩
          case measure => simp [intOf]; omega
      · obtain rfl : k = xs.length := by omega
        have hR := Lib.hid (eq_all hall hl)
        clear hall
        go_wp2_with fail
        go_ret
        exact ⟨by rw [decide_eq_true hR.out]; rfl, hB⟩
  · have q0 : ((xs.length : Int) != (ys.length : Int)) = true := by simp; omega
    have hR := Lib.hid (eq_len hl)
    clear hl
    go_enter Try.func66, Try.ntmps66
    go_wp2_with fail
    go_ret
    exact ⟨by rw [decide_eq_false hR.out]; rfl, Below.refl _ _⟩
set_option maxRecDepth 100000 in
set_option maxHeartbeats 1600000 in
theorem eqU64_any (S S' : List Nat) (h h' : Hd) (xs ys : List (Int)) (w : World) (H : HRow u64C w S h xs) (H' : HRow u64C w S' h' ys) :
    Calls Try.prog 67 #[.slice h.a xs.length h.c, .slice h'.a ys.length h'.c] w fun e w' => e = .returned (.bool (decide (xs = ys))) ∧ Below w.heap.size w w' := by
  by_cases hl : xs.length = ys.length
  · have q0 : ((xs.length : Int) != (ys.length : Int)) = false := by simp; omega
    have hle := H.le
    have hcap := H.cap
    have hm : (maxLen : Nat) = 9223372036854775807 := by unfold maxLen; rfl
    go_enter Try.func67, Try.ntmps67
    go_wp2_with fail
    go_loopw [13] (fun i wr => ∃ k : Nat, k ≤ xs.length ∧ i = .int .i64 k ∧ Below w.heap.size w wr ∧ xs.take k = ys.take k) (fun i _ => xs.length - (intOf i).toNat)
    case atStart => exact ⟨0, Nat.zero_le _, rfl, Below.refl _ _, by simp⟩
    case round =>
      obtain ⟨k, hk, rfl, hB, hall⟩ := hrel
      by_cases hlt : k < xs.length
      · have hlt' : (k : Int) < (xs.length : Int) := by omega
        have hlty : k < ys.length := by omega
        have hlty' : (k : Int) < (ys.length : Int) := by omega
        obtain ⟨b, off, ha, hbl, hc⟩ := (flat_u64).cell (H.keep (Keeps.of_below hB)) k hlt
        obtain ⟨b', off', ha', hbl', hc'⟩ := (flat_u64).cell (H'.keep (Keeps.of_below hB)) k hlty
        rw [ha, ha']
        have hst := fun e => Lib.hid (eq_step hall hlt hlty e)
        have hno := fun e => Lib.hid (eq_not hlt hlty e)
        generalize hX : xs[k] = x at hc hst hno
        generalize hY : ys[k] = y at hc' hst hno
        clear hX hY hall
        have c0 : wr.cell? ⟨b, off + k, none⟩ = some (.int .u64 x) := by simpa [intC] using hc 0 _ rfl
        have d0 : wr.cell? ⟨b', off' + k, none⟩ = some (.int .u64 y) := by simpa [intC] using hc' 0 _ rfl
        go_upto_region 6 with (fail)
        go_quiet (fail)
        go_wp2_with fail
        · rename_i hq
          have hN := hno (iNe hq)
          go_ret
          exact ⟨by rw [decide_eq_false hN.out]; rfl, below_drewN hB _⟩
        · rename_i hq
          go_roundw
          case rel => exact ⟨k + 1, by omega, by go_num, below_drewN hB _, (hst (iEq hq)).out⟩
          case measure => simp [intOf]; omega
      · obtain rfl : k = xs.length := by omega
        have hR := Lib.hid (eq_all hall hl)
        clear hall
        go_wp2_with fail
        go_ret
        exact ⟨by rw [decide_eq_true hR.out]; rfl, hB⟩
  · have q0 : ((xs.length : Int) != (ys.length : Int)) = true := by simp; omega
    have hR := Lib.hid (eq_len hl)
    clear hl
    go_enter Try.func67, Try.ntmps67
    go_wp2_with fail
    go_ret
    exact ⟨by rw [decide_eq_false hR.out]; rfl, Below.refl _ _⟩
set_option maxRecDepth 100000 in
set_option maxHeartbeats 1600000 in
theorem eqI64_any (S S' : List Nat) (h h' : Hd) (xs ys : List (Int)) (w : World) (H : HRow i64C w S h xs) (H' : HRow i64C w S' h' ys) :
    Calls Try.prog 68 #[.slice h.a xs.length h.c, .slice h'.a ys.length h'.c] w fun e w' => e = .returned (.bool (decide (xs = ys))) ∧ Below w.heap.size w w' := by
  by_cases hl : xs.length = ys.length
  · have q0 : ((xs.length : Int) != (ys.length : Int)) = false := by simp; omega
    have hle := H.le
    have hcap := H.cap
    have hm : (maxLen : Nat) = 9223372036854775807 := by unfold maxLen; rfl
    go_enter Try.func68, Try.ntmps68
    go_wp2_with fail
    go_loopw [13] (fun i wr => ∃ k : Nat, k ≤ xs.length ∧ i = .int .i64 k ∧ Below w.heap.size w wr ∧ xs.take k = ys.take k) (fun i _ => xs.length - (intOf i).toNat)
    case atStart => exact ⟨0, Nat.zero_le _, rfl, Below.refl _ _, by simp⟩
    case round =>
      obtain ⟨k, hk, rfl, hB, hall⟩ := hrel
      by_cases hlt : k < xs.length
      · have hlt' : (k : Int) < (xs.length : Int) := by omega
        have hlty : k < ys.length := by omega
        have hlty' : (k : Int) < (ys.length : Int) := by omega
        obtain ⟨b, off, ha, hbl, hc⟩ := (flat_i64).cell (H.keep (Keeps.of_below hB)) k hlt
        obtain ⟨b', off', ha', hbl', hc'⟩ := (flat_i64).cell (H'.keep (Keeps.of_below hB)) k hlty
        rw [ha, ha']
        have hst := fun e => Lib.hid (eq_step hall hlt hlty e)
        have hno := fun e => Lib.hid (eq_not hlt hlty e)
        generalize hX : xs[k] = x at hc hst hno
        generalize hY : ys[k] = y at hc' hst hno
        clear hX hY hall
        have c0 : wr.cell? ⟨b, off + k, none⟩ = some (.int .i64 x) := by simpa [intC] using hc 0 _ rfl
        have d0 : wr.cell? ⟨b', off' + k, none⟩ = some (.int .i64 y) := by simpa [intC] using hc' 0 _ rfl
        go_upto_region 6 with (fail)
        go_quiet (fail)
        go_wp2_with fail
        · rename_i hq
          have hN := hno (iNe hq)
          go_ret
          exact ⟨by rw [decide_eq_false hN.out]; rfl, below_drewN hB _⟩
        · rename_i hq
          go_roundw
          case rel => exact ⟨k + 1, by omega, by go_num, below_drewN hB _, (hst (iEq hq)).out⟩
          case measure => simp [intOf]; omega
      · obtain rfl : k = xs.length := by omega
        have hR := Lib.hid (eq_all hall hl)
        clear hall
        go_wp2_with fail
        go_ret
        exact ⟨by rw [decide_eq_true hR.out]; rfl, hB⟩
  · have q0 : ((xs.length : Int) != (ys.length : Int)) = true := by simp; omega
    have hR := Lib.hid (eq_len hl)
    clear hl
    go_enter Try.func68, Try.ntmps68
    go_wp2_with fail
    go_ret
    exact ⟨by rw [decide_eq_false hR.out]; rfl, Below.refl _ _⟩
set_option maxRecDepth 100000 in
set_option maxHeartbeats 1600000 in
theorem eqPair_any (S S' : List Nat) (h h' : Hd) (xs ys : List (PairV)) (w : World) (H : HRow pairT w S h xs) (H' : HRow pairT w S' h' ys) :
    Calls Try.prog 43 #[.slice h.a xs.length h.c, .slice h'.a ys.length h'.c] w fun e w' => e = .returned (.bool (decide (xs = ys))) ∧ Below w.heap.size w w' := by
  by_cases hl : xs.length = ys.length
  · have q0 : ((xs.length : Int) != (ys.length : Int)) = false := by simp; omega
    have hle := H.le
    have hcap := H.cap
    have hm : (maxLen : Nat) = 9223372036854775807 := by unfold maxLen; rfl
    go_enter Try.func43, Try.ntmps43
    go_wp2_with fail
    go_loopw [13] (fun i wr => ∃ k : Nat, k ≤ xs.length ∧ i = .int .i64 k ∧ Below w.heap.size w wr ∧ xs.take k = ys.take k) (fun i _ => xs.length - (intOf i).toNat)
    case atStart => exact ⟨0, Nat.zero_le _, rfl, Below.refl _ _, by simp⟩
    case round =>
      obtain ⟨k, hk, rfl, hB, hall⟩ := hrel
      by_cases hlt : k < xs.length
      · have hlt' : (k : Int) < (xs.length : Int) := by omega
        have hlty : k < ys.length := by omega
        have hlty' : (k : Int) < (ys.length : Int) := by omega
        obtain ⟨b, off, ha, hbl, hc⟩ := (flat_pair).cell (H.keep (Keeps.of_below hB)) k hlt
        obtain ⟨b', off', ha', hbl', hc'⟩ := (flat_pair).cell (H'.keep (Keeps.of_below hB)) k hlty
        rw [ha, ha']
        have hst := fun e => Lib.hid (eq_step hall hlt hlty e)
        have hno := fun e => Lib.hid (eq_not hlt hlty e)
        generalize hX : xs[k] = x at hc hst hno
        generalize hY : ys[k] = y at hc' hst hno
        clear hX hY hall
        obtain ⟨x1, x2⟩ := x
        obtain ⟨y1, y2⟩ := y
        have c0 : wr.cell? ⟨b, off + k * 2, none⟩ = some (.string x1) := hc 0 _ rfl
        have c1 : wr.cell? ⟨b, off + k * 2 + 1, none⟩ = some (.int .u64 x2) := hc 1 _ rfl
        have d0 : wr.cell? ⟨b', off' + k * 2, none⟩ = some (.string y1) := hc' 0 _ rfl
        have d1 : wr.cell? ⟨b', off' + k * 2 + 1, none⟩ = some (.int .u64 y2) := hc' 1 _ rfl
        have hq := fun w => neqPair w x1 y1 x2 y2
        go_upto_region 6 with (fail)
        go_quiet (fail)
        go_wp2_with fail
        · rename_i hq
          have hN := hno (pNe hq)
          go_ret
          exact ⟨by rw [decide_eq_false hN.out]; rfl, below_drewN hB _⟩
        · rename_i hq
          go_roundw
          case rel => exact ⟨k + 1, by omega, by go_num, below_drewN hB _, (hst (pEq hq)).out⟩
          case measure => simp [intOf]; omega
      · obtain rfl : k = xs.length := by omega
        have hR := Lib.hid (eq_all hall hl)
        clear hall
        go_wp2_with fail
        go_ret
        exact ⟨by rw [decide_eq_true hR.out]; rfl, hB⟩
  · have q0 : ((xs.length : Int) != (ys.length : Int)) = true := by simp; omega
    have hR := Lib.hid (eq_len hl)
    clear hl
    go_enter Try.func43, Try.ntmps43
    go_wp2_with fail
    go_ret
    exact ⟨by rw [decide_eq_false hR.out]; rfl, Below.refl _ _⟩
set_option maxRecDepth 100000 in
set_option maxHeartbeats 1600000 in
theorem eqStep_any (S S' : List Nat) (h h' : Hd) (xs ys : List (StepV)) (w : World) (H : HRow stepT w S h xs) (H' : HRow stepT w S' h' ys) :
    Calls Try.prog 69 #[.slice h.a xs.length h.c, .slice h'.a ys.length h'.c] w fun e w' => e = .returned (.bool (decide (xs = ys))) ∧ Below w.heap.size w w' := by
  by_cases hl : xs.length = ys.length
  · have q0 : ((xs.length : Int) != (ys.length : Int)) = false := by simp; omega
    have hle := H.le
    have hcap := H.cap
    have hm : (maxLen : Nat) = 9223372036854775807 := by unfold maxLen; rfl
    go_enter Try.func69, Try.ntmps69
    go_wp2_with fail
    go_loopw [13] (fun i wr => ∃ k : Nat, k ≤ xs.length ∧ i = .int .i64 k ∧ Below w.heap.size w wr ∧ xs.take k = ys.take k) (fun i _ => xs.length - (intOf i).toNat)
    case atStart => exact ⟨0, Nat.zero_le _, rfl, Below.refl _ _, by simp⟩
    case round =>
      obtain ⟨k, hk, rfl, hB, hall⟩ := hrel
      by_cases hlt : k < xs.length
      · have hlt' : (k : Int) < (xs.length : Int) := by omega
        have hlty : k < ys.length := by omega
        have hlty' : (k : Int) < (ys.length : Int) := by omega
        obtain ⟨b, off, ha, hbl, hc⟩ := (flat_step).cell (H.keep (Keeps.of_below hB)) k hlt
        obtain ⟨b', off', ha', hbl', hc'⟩ := (flat_step).cell (H'.keep (Keeps.of_below hB)) k hlty
        rw [ha, ha']
        have hst := fun e => Lib.hid (eq_step hall hlt hlty e)
        have hno := fun e => Lib.hid (eq_not hlt hlty e)
        generalize hX : xs[k] = x at hc hst hno
        generalize hY : ys[k] = y at hc' hst hno
        clear hX hY hall
        obtain ⟨x1, x2, x3, x4, x5⟩ := x
        obtain ⟨y1, y2, y3, y4, y5⟩ := y
        have c0 : wr.cell? ⟨b, off + k * 5, none⟩ = some (.int .i64 x1) := hc 0 _ rfl
        have c1 : wr.cell? ⟨b, off + k * 5 + 1, none⟩ = some (.int .u64 x2) := hc 1 _ rfl
        have c2 : wr.cell? ⟨b, off + k * 5 + 2, none⟩ = some (.int .u64 x3) := hc 2 _ rfl
        have c3 : wr.cell? ⟨b, off + k * 5 + 3, none⟩ = some (.int .u64 x4) := hc 3 _ rfl
        have c4 : wr.cell? ⟨b, off + k * 5 + 4, none⟩ = some (.bool x5) := hc 4 _ rfl
        have d0 : wr.cell? ⟨b', off' + k * 5, none⟩ = some (.int .i64 y1) := hc' 0 _ rfl
        have d1 : wr.cell? ⟨b', off' + k * 5 + 1, none⟩ = some (.int .u64 y2) := hc' 1 _ rfl
        have d2 : wr.cell? ⟨b', off' + k * 5 + 2, none⟩ = some (.int .u64 y3) := hc' 2 _ rfl
        have d3 : wr.cell? ⟨b', off' + k * 5 + 3, none⟩ = some (.int .u64 y4) := hc' 3 _ rfl
        have d4 : wr.cell? ⟨b', off' + k * 5 + 4, none⟩ = some (.bool y5) := hc' 4 _ rfl
        have hq := fun w => neqStep w x1 y1 x2 y2 x3 y3 x4 y4 x5 y5
        go_upto_region 6 with (fail)
        go_quiet (fail)
        go_wp2_with fail
        · rename_i hq
          have hN := hno (tNe hq)
          go_ret
          exact ⟨by rw [decide_eq_false hN.out]; rfl, below_drewN hB _⟩
        · rename_i hq
          go_roundw
          case rel => exact ⟨k + 1, by omega, by go_num, below_drewN hB _, (hst (tEq hq)).out⟩
          case measure => simp [intOf]; omega
      · obtain rfl : k = xs.length := by omega
        have hR := Lib.hid (eq_all hall hl)
        clear hall
        go_wp2_with fail
        go_ret
        exact ⟨by rw [decide_eq_true hR.out]; rfl, hB⟩
  · have q0 : ((xs.length : Int) != (ys.length : Int)) = true := by simp; omega
    have hR := Lib.hid (eq_len hl)
    clear hl
    go_enter Try.func69, Try.ntmps69
    go_wp2_with fail
    go_ret
    exact ⟨by rw [decide_eq_false hR.out]; rfl, Below.refl _ _⟩
end Go.Proofs.Ytfnjggefinkcaaa.Dp
