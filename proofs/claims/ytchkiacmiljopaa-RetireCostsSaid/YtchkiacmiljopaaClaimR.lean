/-
  claim: the statements' own Run, in the example; the example of chapter 29 is true.
-/
import Derived.Test.YtchkiacmiljopaaClaimT
import Derived.Test.YtchkiacmiljopaaHazList
import Derived.Deep.WholeRow
namespace Go.Proofs.Ytchkiacmiljopaa.MemP
open Go.RowKit RefP CellP
set_option linter.unusedVariables false
set_option linter.unusedSimpArgs false
/-! a row of accesses -/
theorem infoAcc : (Try.prog.info? 50).map (fun i => (i.zero, i.size, i.bytes)) = some (some (.agg (accY 0 0 0 0)), 26, 360) := by kernel_rfl
abbrev Acc4 := Int × Int × Int × Int
abbrev accL (x : Acc4) : Array Value := accY x.1 x.2.1 x.2.2.1 x.2.2.2
abbrev accF (x : Acc4) (j : Nat) : Value := (accL x)[j]?.getD (.int .i64 0)
theorem lt26 {j : Nat} (h : j < 26) : j = 0 ∨ j = 1 ∨ j = 2 ∨ j = 3 ∨ j = 4 ∨ j = 5 ∨ j = 6 ∨ j = 7 ∨ j = 8 ∨ j = 9 ∨ j = 10 ∨ j = 11 ∨ j = 12 ∨ j = 13 ∨ j = 14 ∨ j = 15 ∨ j = 16 ∨ j = 17 ∨ j = 18 ∨ j = 19 ∨ j = 20 ∨ j = 21 ∨ j = 22 ∨ j = 23 ∨ j = 24 ∨ j = 25 := by omega
theorem accF_at (x : Acc4) (j : Nat) (h : j < 26) : (accL x)[j]? = some (accF x j) := by
  rcases lt26 h with e | e | e | e | e | e | e | e | e | e | e | e | e | e | e | e | e | e | e | e | e | e | e | e | e | e <;> subst e <;> rfl
theorem accF_one (x : Acc4) (j : Nat) (h : j < 26) : (accF x j).oneCell' = true := by
  rcases lt26 h with e | e | e | e | e | e | e | e | e | e | e | e | e | e | e | e | e | e | e | e | e | e | e | e | e | e <;> subst e <;> rfl
abbrev OwnAcc (w : World) (base : Nat) (a : Option Addr) (c : Nat) (l : List Acc4) : Prop := OwnR 26 accF (0, 0, 0, 0) w base 50 a c l
theorem addAcc {w : World} (base : Nat) {a : Option Addr} {c : Nat} {l : List Acc4} (h : OwnAcc w base a c l) {b : Nat} (x : Acc4) (B : Blk w b (accL x) 50) (hn : l.length + 1 ≤ 60000) (hbase : base ≤ w.heap.size) :
    ∃ g cap w', AddedR Try.prog 26 accF (0, 0, 0, 0) w base 68 50 a c l (.slice (some ⟨b, 0, none⟩) 1 1) 1 (l ++ [x]) g cap w' := by
  obtain ⟨i0, hi, hz0, hz1, hz2⟩ := info_parts' infoAcc
  have hx : RecS 26 accF (0, 0, 0, 0) w (some ⟨b, 0, none⟩) [x] := rec_lit B x (fun j hj => accF_at x j hj)
  exact addRecs base _ _ i0 _ 360 Try.underlying68 hi hz0 hz1 hz2 (by simp [Value.cells]) (by omega) (fun x j hj => accF_one x j hj) h hx (by simp) (by simp [maxLen]; omega) (by simp; omega) hbase
/-- own blocks are other ones -/
def NeB (v u : Value) : Prop := ∀ q q', v.ownBlock = some q → u.ownBlock = some q' → q ≠ q'
theorem NeB.grow {v u : Value} {g n c m : Nat} (h : NeB v u) (hat : v.ownBlock = some g ∨ m ≤ g) (hu : ∀ q, u.ownBlock = some q → q < m) : NeB (.slice (some ⟨g, 0, none⟩) n c) u := by
  intro q q' hq hq' e
  simp only [Value.ownBlock, Option.some.injEq] at hq
  subst hq
  rcases hat with k | k
  · exact h _ _ k hq' e
  · have := hu q' hq'; omega
theorem NeB.symm {v u : Value} (h : NeB v u) : NeB u v := fun q q' a b e => h q' q b a e.symm
abbrev clL0 : List (Int × Int) := freshL 4 1 0
abbrev clL1 : List (Int × Int) := casL clL0 (atI 4 1 1 1) 0 (useI 1 (stateG 0 + 1))
abbrev clL2 : List (Int × Int) := casL clL1 (atI 4 1 1 2) 0 (useI 1 (stateG 0 + 1))
abbrev clW1 : List Int := [] ++ [packI (1 : Nat) (stateG 0 + 1)]
abbrev clW2 : List Int := clW1 ++ [packI (2 : Nat) (stateG 0 + 1)]
theorem cl1 : mayI (loadW clL0 (atI 4 1 1 0)) = false := by decide +kernel
theorem cl2 : loadW clL0 (atI 4 1 1 1) = 0 := by decide +kernel
theorem cl3 : loadV clL0 (atI 4 1 1 1) = 0 := by decide +kernel
theorem cl4 : mayI 0 = true := by decide +kernel
theorem cl5 : casB clL0 (atI 4 1 1 1) 0 = true := by decide +kernel
theorem cl6 : loadW clL1 (atI 4 1 1 2) = 0 := by decide +kernel
theorem cl7 : loadV clL1 (atI 4 1 1 2) = 0 := by decide +kernel
theorem cl8 : casB clL1 (atI 4 1 1 2) 0 = true := by decide +kernel
theorem clU : 0 ≤ useI 1 (stateG 0 + 1) ∧ useI 1 (stateG 0 + 1) ≤ 18446744073709551615 := by decide +kernel
theorem clP : packI (1 : Nat) (stateG 0 + 1) = packI 1 1 ∧ packI (2 : Nat) (stateG 0 + 1) = packI 2 1 := by decide +kernel
def ClSt (k : Nat) (L : List (Int × Int)) (l : List Int) (place seen : Nat) (ld : Bool) (n : Nat) : Prop :=
  (k = 0 ∧ L = clL0 ∧ l = [] ∧ place = 0 ∧ seen = 0 ∧ ld = true ∧ n ≤ 0 ∧ 0 ≤ n) ∨
  (k = 1 ∧ L = clL0 ∧ l = [] ∧ place = 1 ∧ seen = 1 ∧ ld = true ∧ n ≤ 1 ∧ 1 ≤ n) ∨
  (k = 2 ∧ L = clL0 ∧ l = [] ∧ place = 1 ∧ seen = 1 ∧ ld = false ∧ n ≤ 2 ∧ 2 ≤ n) ∨
  (k = 3 ∧ L = clL1 ∧ l = clW1 ∧ place = 2 ∧ seen = 0 ∧ ld = true ∧ n ≤ 3 ∧ 3 ≤ n) ∨
  (k = 4 ∧ L = clL1 ∧ l = clW1 ∧ place = 2 ∧ seen = 0 ∧ ld = false ∧ n ≤ 4 ∧ 4 ≤ n) ∨
  (k = 5 ∧ L = clL2 ∧ l = clW2 ∧ place = 3 ∧ seen = 0 ∧ ld = true ∧ n ≤ 5 ∧ 5 ≤ n)
end Go.Proofs.Ytchkiacmiljopaa.MemP
