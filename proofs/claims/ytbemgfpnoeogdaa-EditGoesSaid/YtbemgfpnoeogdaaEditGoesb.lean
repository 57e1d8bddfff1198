/-
  EditGoes: an edit's changes, made where a gate stands, are what the edit tells. For every view, spares and acts; no condition.
-/
import Derived.Test.YtbemgfpnoeogdaaEditGoesPack4

namespace Go.Proofs.Ytbemgfpnoeogdaa.editGoes
open Go.ChangeShapes Go.WideShapes Go.ChangeAt Go.RowKit RefP FoP Dp EdP
set_option linter.unusedVariables false
set_option linter.unusedSimpArgs false
theorem op_spare : Ox Try.prog 60 spC := ox_iso _ (fun p => (p.1, p.2.1)) (fun _ => rfl) (ox_struct Try.underlying60 (by kernel_rfl) (ox_cons rfl (by kernel_rfl) op_i64 (ox_cons rfl (by kernel_rfl) op_u64 ox_nil)))
set_option maxRecDepth 100000 in
theorem contract (H : Type) (enc : TypeId × Value → H) (W : World) (base : Nat) (args : Array Value) (ds : List (DataW H)) (p : List MemPlace)
    (hval : ∀ (j : Nat) t v, Try.f4.params[j]? = some t → args[j]? = some v → Value.okWide Try.prog W .any base t v)
    (hA : DataW.TrodAll enc Try.prog W 0 (fun _ => true) true Try.f4.params.toList args.toList ds p) :
    Calls Try.prog 4 args W fun e W' => e = .returned (.bool true) ∧ Below W.heap.size W W' := by
  rw [Try.params4] at hA hval
  obtain ⟨v0, vs0, d0, ds0, p0, q0, hargs, rfl, rfl, h0, r0⟩ := trodAll_cons hA
  obtain ⟨v1, vs1, d1, ds1, p1, q1, rfl, rfl, rfl, h1, r1⟩ := trodAll_cons r0
  obtain ⟨v2, vs2, d2, ds2, p2, q2, rfl, rfl, rfl, h2, r2⟩ := trodAll_cons r1
  obtain ⟨rfl, rfl, rfl⟩ := trodAll_nil r2
  obtain rfl : args = #[v0, v1, v2] := by cases args; simp_all
  obtain ⟨h, xs, rfl, H⟩ := opens_hrow (ox_opens (ox_row Try.underlying48 (by kernel_rfl) (by decide) op_kn)) Try.underlying48 (hval 0 48 v0 rfl rfl) h0
  obtain ⟨hs, S, rfl, HS⟩ := opens_hrow (ox_opens (ox_row Try.underlying34 (by kernel_rfl) (by decide) op_spare)) Try.underlying34 (hval 1 34 v1 rfl rfl) h1
  obtain ⟨he, ys, rfl, HE⟩ := opens_hrow (ox_opens (ox_row Try.underlying49 (by kernel_rfl) (by decide) op_eact)) Try.underlying49 (hval 2 49 v2 rfl rfl) h2
  obtain ⟨ps, hps, H', hk⟩ := kp_rows H
  obtain ⟨es, hes, HE', hke⟩ := ea_rows HE
  have e1 : xs.length = ps.length := by rw [← hps]; simp
  rw [e1, ← hes]
  exact goes_walk H' hk HS HE' hke

/-! THE ROW's STEP -/
set_option maxRecDepth 100000 in
theorem lifted (os : Os) (started : os.Started) (H : Type) (enc : TypeId × Value → H) :
    ReturnsInHanded {} Try.checked os 4 .any (Rows.editGoesSpec.pre6 enc Try.prog Try.f4 Rows.editGoesRow.domain false) (Rows.editGoesSpec.post enc Try.prog Try.f4 false true false false) := by
  refine returnsInHanded_of_change (C := Try.checked) Lift.own started (by kernel_rfl) Try.func4
    (ChangeSpec.witness6 (enc := enc) (C := Try.checked) false ⟨#[], #[.slice none 0 0, .slice none 0 0, .slice none 0 0], []⟩ 8 (by kernel_rfl) (by kernel_rfl) (by kernel_rfl) (by kernel_rfl)) ?_
  intro W base args ds gs before hval0 hW hcnd _
  have hval : ∀ (j : Nat) t v, Try.f4.params[j]? = some t → args[j]? = some v → Value.okWide Try.prog W .any base t v := hval0
  have hW' := hW
  obtain ⟨p, q, hA0, hV, rfl, hfz, hnd⟩ := hW
  have hA : DataW.TrodAll enc Try.prog W 0 (fun _ => true) true Try.f4.params.toList args.toList ds p := hA0
  have hlen : ds.length = 3 := by
    have hl := Lift.trodAll_len _ _ _ _ hA
    rw [Try.params4] at hl
    simpa using hl
  have hall := fun W' (hb : Below W.heap.size W W') => Lift.trodAll_below Lift.laidOut hb Try.f4.params.toList args.toList ds p (by kernel_rfl) hA
  obtain ⟨rfl, rfl⟩ := trodVars_none hV
  refine (contract H enc W base args ds p hval hA).mono fun e W' ⟨he, bel⟩ => ?_
  subst he
  have hspec : (Rows.editGoesSpec.fn H (ds ++ [])).results = [.lit (.bool true)] ∧ (Rows.editGoesSpec.fn H (ds ++ [])).args = ds ∧ (Rows.editGoesSpec.fn H (ds ++ [])).vars = [] := by
    match ds, hlen with
    | [d1, d2, d3], _ => exact ⟨rfl, rfl, rfl⟩
  exact ⟨_, rfl, _, _, _, [], _, [], hW', by rw [hspec.1]; exact trodAll_mk1 (shut_bool Try.underlying4 _), by rw [hspec.2.1]; exact hall W' bel, by rw [hspec.2.2]; rfl, bel.frame _, fun h => by cases h⟩

theorem over : Rows.editGoesRow.holds Try.pinned (OpenSpec.ofChange Rows.editGoesSpec) :=
  OpenClaim.holds_of_wide 4 Try.f4 rfl rfl rfl rfl rfl rfl rfl ⟨rfl, rfl, rfl, rfl, rfl⟩ rfl rfl rfl rfl rfl (by kernel_rfl) Try.func4 (by kernel_rfl)
    (of_decide_eq_true (by kernel_rfl)) (by unfold Func.isWrapper; first | (rw [if_pos (by decide +kernel)]; kernel_rfl) | (rw [if_neg (by decide +kernel)]; exact ⟨rfl, rfl⟩))
    (fun os started H enc _ => lifted os started H enc)

theorem proved : Rows.EditGoesSaid := over
#print axioms proved
end Go.Proofs.Ytbemgfpnoeogdaa.editGoes
