/-
  CarryGoes: whatever a memory has, whatever a gate says, and whatever others do meanwhile, carrying out has the accesses that the document says, one by one, no more than Cost, and tells what it says. For all lists of accesses, all helpers, gates and versions; no condition.
-/
import Derived.Test.YtpempcefgfmniaaCarryGoesPack8

namespace Go.Proofs.Ytpempcefgfmniaa.carryGoes
open Go.ChangeShapes Go.WideShapes Go.ChangeAt Go.RowKit RefP CellP MemP Dp
set_option linter.unusedVariables false
set_option linter.unusedSimpArgs false
set_option maxRecDepth 100000 in
theorem contract (H : Type) (enc : TypeId × Value → H) (W : World) (base : Nat) (args : Array Value) (ds : List (DataW H)) (p : List MemPlace)
    (hval : ∀ (j : Nat) t v, Try.f7.params[j]? = some t → args[j]? = some v → Value.okWide Try.prog W .any base t v)
    (hA : DataW.TrodAll enc Try.prog W 0 (fun _ => true) true Try.f7.params.toList args.toList ds p)
    (hz : ∀ (j : Nat) t d, Try.f7.params[j]? = some t → ds[j]? = some d → ∀ n ∈ DataW.weights Try.prog t d, n ≤ reachBytes) :
    Calls Try.prog 7 args W fun e W' => e = .returned (.bool true) ∧ Below W.heap.size W W' := by
  rw [Try.params7] at hA hval hz
  obtain ⟨v0, vs0, d0, ds0, p0, q0, hargs, rfl, rfl, h0, r0⟩ := trodAll_cons hA
  obtain ⟨v1, vs1, d1, ds1, p1, q1, rfl, rfl, rfl, h1, r1⟩ := trodAll_cons r0
  obtain ⟨v2, vs2, d2, ds2, p2, q2, rfl, rfl, rfl, h2, r2⟩ := trodAll_cons r1
  obtain ⟨v3, vs3, d3, ds3, p3, q3, rfl, rfl, rfl, h3, r3⟩ := trodAll_cons r2
  obtain ⟨v4, vs4, d4, ds4, p4, q4, rfl, rfl, rfl, h4, r4⟩ := trodAll_cons r3
  obtain ⟨rfl, rfl, rfl⟩ := trodAll_nil r4
  obtain rfl : args = #[v0, v1, v2, v3, v4] := by cases args; simp_all
  obtain ⟨a, c, xs, rfl, _, hm, hx, sx⟩ := oz_slice oz_accs Try.underlying41 (hval 0 41 v0 rfl rfl) h0 (hz 0 41 d0 rfl rfl)
  obtain ⟨a1, rfl, w1⟩ := Lift.int_of Try.underlying3 (hval 1 3 v1 rfl rfl) h1
  obtain ⟨s, t, y, rfl, u0, u1, u2⟩ := Lift.agg3_of Try.underlying79 (by kernel_rfl) (by kernel_rfl) Try.underlying3 Try.underlying3 Try.underlying22 (hval 2 79 v2 rfl rfl) h2
  obtain ⟨a3, rfl, w3⟩ := Lift.int_of Try.underlying22 (hval 3 22 v3 rfl rfl) h3
  obtain ⟨a', c', ys, rfl, _, hm', hy, sy⟩ := oz_slice oz_accs Try.underlying41 (hval 4 41 v4 rfl rfl) h4 (hz 4 41 d4 rfl rfl)
  have hmx : (maxLen : Nat) = 9223372036854775807 := by unfold maxLen; rfl
  exact walk a c xs ⟨a1, s, t, y, a3⟩ a' c' ys W hx hy (by omega) (by omega) sx sy ⟨I64.of w1, I64.of u0, I64.of u1, U64.of u2, U64.of w3⟩

/-! THE ROW's STEP -/
set_option maxRecDepth 100000 in
theorem lifted (os : Os) (started : os.Started) (H : Type) (enc : TypeId × Value → H) :
    ReturnsInHanded {} Try.checked os 7 .any (Rows.carryGoesSpec.pre6 enc Try.prog Try.f7 Rows.carryGoesRow.domain false) (Rows.carryGoesSpec.post enc Try.prog Try.f7 false true false false) := by
  refine returnsInHanded_of_change_sized (C := Try.checked) Lift.own started (by kernel_rfl) Try.func7
    (ChangeSpec.witness6 (enc := enc) (C := Try.checked) false ⟨#[], #[.slice none 0 0, .int .i64 0, .agg #[.int .i64 0, .int .i64 0, .int .u64 0], .int .u64 0, .slice none 0 0], []⟩ 8 (by kernel_rfl) (by kernel_rfl) (by kernel_rfl) (by kernel_rfl)) ?_
  intro W base args ds gs before hval0 hW hcnd hz0 _
  have hval : ∀ (j : Nat) t v, Try.f7.params[j]? = some t → args[j]? = some v → Value.okWide Try.prog W .any base t v := hval0
  have hW' := hW
  obtain ⟨p, q, hA0, hV, rfl, hfz, hnd⟩ := hW
  have hA : DataW.TrodAll enc Try.prog W 0 (fun _ => true) true Try.f7.params.toList args.toList ds p := hA0
  have hlen : ds.length = 5 := by
    have hl := Lift.trodAll_len _ _ _ _ hA
    rw [Try.params7] at hl
    simpa using hl
  have hall := fun W' (hb : Below W.heap.size W W') => Lift.trodAll_below Lift.laidOut hb Try.f7.params.toList args.toList ds p (by kernel_rfl) hA
  obtain ⟨rfl, rfl⟩ := trodVars_none hV
  refine (contract H enc W base args ds p hval hA (fun j t d ht hd => Dp.sized_arg hz0 (by simpa using ht) hd)).mono fun e W' ⟨he, bel⟩ => ?_
  subst he
  have hspec : (Rows.carryGoesSpec.fn H (ds ++ [])).results = [.lit (.bool true)] ∧ (Rows.carryGoesSpec.fn H (ds ++ [])).args = ds ∧ (Rows.carryGoesSpec.fn H (ds ++ [])).vars = [] := by
    match ds, hlen with
    | [d1, d2, d3, d4, d5], _ => exact ⟨rfl, rfl, rfl⟩
  exact ⟨_, rfl, _, _, _, [], _, [], hW', by rw [hspec.1]; exact trodAll_mk1 (shut_bool Try.underlying4 _), by rw [hspec.2.1]; exact hall W' bel, by rw [hspec.2.2]; rfl, bel.frame _, fun h => by cases h⟩

theorem over : Rows.carryGoesRow.holds Try.pinned (OpenSpec.ofChange Rows.carryGoesSpec) :=
  OpenClaim.holds_of_wide 7 Try.f7 rfl rfl rfl rfl rfl rfl rfl ⟨rfl, rfl, rfl, rfl, rfl⟩ rfl rfl rfl rfl rfl (by kernel_rfl) Try.func7 (by kernel_rfl)
    (of_decide_eq_true (by kernel_rfl)) (by unfold Func.isWrapper; first | (rw [if_pos (by decide +kernel)]; kernel_rfl) | (rw [if_neg (by decide +kernel)]; exact ⟨rfl, rfl⟩))
    (fun os started H enc _ => lifted os started H enc)

theorem proved : Rows.CarryGoesSaid := over
#print axioms proved
end Go.Proofs.Ytpempcefgfmniaa.carryGoes
