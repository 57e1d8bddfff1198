/-
  The argument of the laws of plans, opened.
-/
import Derived.Test.YtnecikholpiefaaPlanP
import Derived.Test.YtnecikholpiefaaApiOpen
namespace Go.Proofs.Ytnecikholpiefaa.Dp
open Go.RowKit RefP
set_option linter.unusedVariables false
set_option linter.unusedSimpArgs false
def askC : Cod (AnsV × List ChangeV × List Int × Int × Int × Unit) := pairC ansT (pairC (rowC changeT) (pairC (rowC u64C) (pairC i64C (pairC i64C unitC))))
theorem op_ask : Ox Try.prog 29 askC := ox_struct Try.underlying29 (by kernel_rfl)
  (ox_cons rfl (by kernel_rfl) op_ans (ox_cons rfl (by kernel_rfl) op_changes (ox_cons rfl (by kernel_rfl) op_u64s (ox_cons rfl (by kernel_rfl) op_i64 (ox_cons rfl (by kernel_rfl) op_i64 ox_nil)))))
theorem ask_of {w : World} {cs : List Value} {p : AnsV × List ChangeV × List Int × Int × Int × Unit} (h : askC.rep w [] cs p) : ∃ q v, cs = (askA q v).toList ∧ AskOk w [] q v := by
  obtain ⟨_, _, rfl, h0, _, _, rfl, h1, _, _, rfl, h2, _, _, rfl, ⟨rfl, h3⟩, _, _, rfl, ⟨rfl, h4⟩, rfl⟩ := h
  obtain ⟨qa, rfl, ha⟩ := ansT_of h0
  obtain ⟨qc, rfl, hc⟩ := rowC_of h1
  obtain ⟨qw, rfl, hw⟩ := rowC_of h2
  exact ⟨⟨qa, qc, qw⟩, ⟨p.1, p.2.1, p.2.2.1, p.2.2.2.1, p.2.2.2.2.1⟩, rfl, ha, hc, hw, I64.of h3, I64.of h4⟩
end Go.Proofs.Ytnecikholpiefaa.Dp
