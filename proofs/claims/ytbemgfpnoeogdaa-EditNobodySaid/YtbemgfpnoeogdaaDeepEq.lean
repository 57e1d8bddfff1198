/-
  Are two deep things the same? slices.Equal, and the Sames of the program and of the document: contracts.
-/
import Derived.Test.YtbemgfpnoeogdaaLightW
import Derived.Test.YtbemgfpnoeogdaaDeepFlat
import Derived.BigQuiet
import Derived.Lib.SlicesS
import Derived.Deep.DeepCutAuto
namespace Go.Proofs.Ytbemgfpnoeogdaa.Dp
open Go.RowKit RefP
set_option linter.unusedVariables false
set_option linter.unusedSimpArgs false
theorem eq_step {α : Type} {xs ys : List α} {k : Nat} (h : xs.take k = ys.take k) (hx : k < xs.length) (hy : k < ys.length) (e : xs[k] = ys[k]) : xs.take (k + 1) = ys.take (k + 1) := by
  rw [List.take_succ_eq_append_getElem hx, List.take_succ_eq_append_getElem hy, h, e]
theorem eq_not {α : Type} {xs ys : List α} {k : Nat} (hx : k < xs.length) (hy : k < ys.length) (e : xs[k] ≠ ys[k]) : xs ≠ ys := fun h => by subst h; exact e rfl
theorem eq_all {α : Type} {xs ys : List α} (h : xs.take xs.length = ys.take xs.length) (hl : xs.length = ys.length) : xs = ys := by
  rw [List.take_length] at h
  rw [h, hl, List.take_length]
theorem eq_len {α : Type} {xs ys : List α} (h : xs.length ≠ ys.length) : xs ≠ ys := fun e => h (by rw [e])
theorem sEq {x y : ByteArray} (h : (!x.toList == y.toList) = false) : x = y := (Lib.bytes_beq_iff x y).1 (by simpa using h)
theorem sNe {x y : ByteArray} (h : (!x.toList == y.toList) = true) : x ≠ y := (Lib.bytes_beq_false_iff x y).1 (by simpa using h)
theorem iEq {x y : Int} (h : (x != y) = false) : x = y := by simpa using h
theorem iNe {x y : Int} (h : (x != y) = true) : x ≠ y := by simpa using h
theorem dEq {α : Type} [DecidableEq α] {x y : α} (h : (!decide (x = y)) = false) : x = y := by simpa using h
theorem dNe {α : Type} [DecidableEq α] {x y : α} (h : (!decide (x = y)) = true) : x ≠ y := by simpa using h
theorem pEq {x1 y1 : ByteArray} {x2 y2 : Int} (h : (!decide (x1 = y1)) = false ∧ (!decide (x2 = y2)) = false) : PairV.mk x1 x2 = PairV.mk y1 y2 := by simpa using h
theorem pNe {x1 y1 : ByteArray} {x2 y2 : Int} (h : (!decide (x1 = y1)) = true ∨ (!decide (x2 = y2)) = true) : PairV.mk x1 x2 ≠ PairV.mk y1 y2 := by
  intro e
  injection e with e1 e2
  subst e1; subst e2
  simp at h
theorem tEq {x1 y1 x2 y2 x3 y3 x4 y4 : Int} {x5 y5 : Bool} (h : (!decide (x1 = y1)) = false ∧ (!decide (x2 = y2)) = false ∧ (!decide (x3 = y3)) = false ∧ (!decide (x4 = y4)) = false ∧ (!decide (x5 = y5)) = false) : StepV.mk x1 x2 x3 x4 x5 = StepV.mk y1 y2 y3 y4 y5 := by simpa using h
theorem tNe {x1 y1 x2 y2 x3 y3 x4 y4 : Int} {x5 y5 : Bool} (h : (!decide (x1 = y1)) = true ∨ (!decide (x2 = y2)) = true ∨ (!decide (x3 = y3)) = true ∨ (!decide (x4 = y4)) = true ∨ (!decide (x5 = y5)) = true) : StepV.mk x1 x2 x3 x4 x5 ≠ StepV.mk y1 y2 y3 y4 y5 := by
  intro e
  injection e with e1 e2 e3 e4 e5
  subst e1; subst e2; subst e3; subst e4; subst e5
  simp at h
end Go.Proofs.Ytbemgfpnoeogdaa.Dp
