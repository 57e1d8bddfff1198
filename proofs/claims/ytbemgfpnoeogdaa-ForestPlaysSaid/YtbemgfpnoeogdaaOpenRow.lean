/-
  An argument that is a slice, opened as a row under its head.
-/
import Derived.Test.YtbemgfpnoeogdaaApi
import Derived.Test.YtbemgfpnoeogdaaApiOpen
namespace Go.Proofs.Ytbemgfpnoeogdaa.Dp
open Go.ChangeShapes Go.WideShapes Go.ChangeAt Go.RowKit RefP
set_option linter.unusedVariables false
theorem opens_hrow {P : Program} {t e : TypeId} {α : Type} {E : Cod α} (h : Opens P t (rowC E)) {H : Type} {enc : TypeId × Value → H} {W : World} {base base' : Nat} {sp : Nat → Bool} {held : Bool} {v : Value} {d : DataW H} {p : List MemPlace} (ht : P.underlying t = some (.slice e))
    (hv : Value.okWide P W .any base t v) (hd : DataW.Trod enc P W base' sp held t v d p) : ∃ (q : Hd) (xs : List α), v = q.v xs.length ∧ HRow E W [] q xs := by
  obtain ⟨a0, len, cap, rfl⟩ := okWide_slice ht hv
  obtain ⟨fuel, hf⟩ := hd
  obtain ⟨xs, a, c, e1, h1, h2, h3⟩ := h enc W base' sp held fuel _ _ hf
  simp [Value.cells] at e1
  obtain ⟨rfl, rfl, rfl⟩ := e1
  exact ⟨⟨a0, cap⟩, xs, rfl, h1, h2, h3⟩
end Go.Proofs.Ytbemgfpnoeogdaa.Dp
