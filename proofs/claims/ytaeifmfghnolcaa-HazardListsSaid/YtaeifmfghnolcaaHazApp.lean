/-
  Appending a row, empty or not, to a row of a block; at a step of a region that draws its order.
-/
import Derived.Test.YtaeifmfghnolcaaHazLives
namespace Go.Proofs.Ytaeifmfghnolcaa.HazP
open Go.RowKit RefP
set_option linter.unusedVariables false
set_option linter.unusedSimpArgs false

theorem addRow {w : World} (base g0 : Nat) {c : Nat} (h : OwnsU w base (some ⟨g0, 0, none⟩) c []) {b : Option Addr} {c' : Nat} {xs : List Int} (hx : U64s w b xs) (hn : xs.length ≤ 60000) (hbase : base ≤ w.heap.size) :
    ∃ g cap w', AddedU w base (some ⟨g0, 0, none⟩) c [] (.slice b xs.length c') xs.length xs g cap w' := by
  by_cases h0 : xs.length = 0
  · obtain rfl : xs = [] := List.eq_nil_of_length_eq_zero h0
    obtain ⟨i0, hi, _⟩ := info_parts' infoWord
    have hl := h.lt g0 rfl
    exact ⟨g0, c, w, fun ty => run_append_zero (P := Try.prog) 22 ty 23 i0 1 Try.underlying22 hi _ _ _ h.own b c', h, ⟨rfl, rfl, rfl, Nat.le_refl _, fun _ _ _ => rfl⟩, hl.2, hl.1, .inl rfl⟩
  · have := addAll base h (c' := c') hx (by omega) (by simp; omega) hbase
    simpa using this
/-- the first append of 'append(append([]uint64{}, w...), x)' -/
theorem step_addRow {w : World} {ops : Array Oper} {o : Oper} {a : Act} {K : Act → World → Prop} {Q : Exit → Act → World → Prop} {E : Prop} {s x : Operand} (base g0 : Nat) {b : Option Addr} {c' : Nat} {xs : List Int} (hgd : o.guard = none)
    (ho : o.op = .call { callee := .builtin .append, args := #[s, x], argTypes := #[22, 22] }) (hs : a.eval s = .slice (some ⟨g0, 0, none⟩) 0 0) (hx : a.eval x = .slice b xs.length c')
    (h : OwnsU w base (some ⟨g0, 0, none⟩) 0 []) (hu : U64s w b xs) (hn : xs.length ≤ 60000) (hbase : base ≤ w.heap.size)
    (hK : ∀ g cap w', OwnsU w' base (some ⟨g, 0, none⟩) cap xs → w.grownBy w' (some g0) → (g = g0 ∨ g = w.heap.size) → K (a.put o.dst (.slice (some ⟨g, 0, none⟩) xs.length cap)) w') :
    if Region.wanted o (yielded ops a.tmps) = true then Oper.wp Try.prog o a w K Q else E := by
  obtain ⟨g, cap, w', A⟩ := addRow base g0 h (c' := c') hu hn hbase
  refine step_append_run A.run hgd ho hs hx ?_
  have := hK g cap w' A.own A.grown (by
    rcases A.at' with e | e
    · simp only [Value.ownBlock, Option.some.injEq] at e; exact .inl e.symm
    · exact .inr e)
  simpa using this
/-- the second: one word, which lies in a block of its own -/
theorem step_addWord {w : World} {ops : Array Oper} {o : Oper} {a : Act} {K : Act → World → Prop} {Q : Exit → Act → World → Prop} {E : Prop} {s x : Operand} (base g0 : Nat) {c bx : Nat} {xs : List Int} {y : Int} (hgd : o.guard = none)
    (ho : o.op = .call { callee := .builtin .append, args := #[s, x], argTypes := #[22, 22] }) (hs : a.eval s = .slice (some ⟨g0, 0, none⟩) xs.length c) (hx : a.eval x = .slice (some ⟨bx, 0, none⟩) 1 1)
    (h : OwnsU w base (some ⟨g0, 0, none⟩) c xs) (hB : Blk w bx #[.int .u64 y] 23) (hy : 0 ≤ y ∧ y ≤ 18446744073709551615) (hn : xs.length ≤ 60000) (hbase : base ≤ w.heap.size)
    (hK : ∀ g cap w', OwnsU w' base (some ⟨g, 0, none⟩) cap (xs ++ [y]) → w.grownBy w' (some g0) → (g = g0 ∨ g = w.heap.size) → K (a.put o.dst (.slice (some ⟨g, 0, none⟩) (xs.length + 1) cap)) w') :
    if Region.wanted o (yielded ops a.tmps) = true then Oper.wp Try.prog o a w K Q else E := by
  have hu : U64s w (some ⟨bx, 0, none⟩) [y] := lit_words hB [y] (fun i hi => by rcases i with _ | i <;> first | rfl | (simp at hi; try omega)) (by simpa using hy) (by simp)
  obtain ⟨g, cap, w', A⟩ := addAll base h (c' := 1) hu (by simp) (by simp; omega) hbase
  refine step_append_run A.run hgd ho hs hx ?_
  exact hK g cap w' A.own A.grown (by
    rcases A.at' with e | e
    · simp only [Value.ownBlock, Option.some.injEq] at e; exact .inl e.symm
    · exact .inr e)
/-- a row is appended to an empty one, in a world over w -/
theorem addFirst (w W : World) (hW : Below w.heap.size w W) (g0 : Nat) (hO : OwnsU W w.heap.size (some ⟨g0, 0, none⟩) 0 []) {b : Option Addr} (c' : Nat) {xs : List Int} (hu : U64s W b xs) (hn : xs.length ≤ 60000) :
    ∃ g cap w', Hid (∀ ty, (Builtin.append_ #[22, 22] ty #[.slice (some ⟨g0, 0, none⟩) 0 0, .slice b xs.length c']).run Try.prog W = .ok (.slice (some ⟨g, 0, none⟩) xs.length cap) w') ∧
      OwnsU w' w.heap.size (some ⟨g, 0, none⟩) cap xs ∧ Below w.heap.size w w' ∧ W.grownBy w' (some g0) := by
  obtain ⟨g, cap, w', A⟩ := addRow w.heap.size g0 hO (c' := c') hu hn hW.size
  have hr := A.run
  simp only [List.length_nil, Nat.zero_add] at hr
  exact ⟨g, cap, w', hr, A.own, A.keeps (fun k e => (hO.lt k e).1) w _ (Nat.le_refl _) hW hW.size, A.grown⟩
/-- one word, which lies in a block of its own, is appended -/
theorem addSecond (w W : World) (hW : Below w.heap.size w W) (g0 c bx : Nat) {xs : List Int} {y : Int} (hO : OwnsU W w.heap.size (some ⟨g0, 0, none⟩) c xs) (hB : Blk W bx #[.int .u64 y] 23) (hy : 0 ≤ y ∧ y ≤ 18446744073709551615) (hn : xs.length ≤ 60000) :
    ∃ g cap w', Hid (∀ ty, (Builtin.append_ #[22, 22] ty #[.slice (some ⟨g0, 0, none⟩) xs.length c, .slice (some ⟨bx, 0, none⟩) 1 1]).run Try.prog W = .ok (.slice (some ⟨g, 0, none⟩) (xs.length + 1) cap) w') ∧
      OwnsU w' w.heap.size (some ⟨g, 0, none⟩) cap (xs ++ [y]) ∧ Below w.heap.size w w' := by
  have hu : U64s W (some ⟨bx, 0, none⟩) [y] := lit_words hB [y] (fun i hi => by rcases i with _ | i <;> first | rfl | (simp at hi; try omega)) (by simpa using hy) (by simp)
  obtain ⟨g, cap, w', A⟩ := addAll w.heap.size hO (c' := 1) hu (by simp) (by simp; omega) hW.size
  exact ⟨g, cap, w', A.run, A.own, A.keeps (fun k e => (hO.lt k e).1) w _ (Nat.le_refl _) hW hW.size⟩
end Go.Proofs.Ytaeifmfghnolcaa.HazP
