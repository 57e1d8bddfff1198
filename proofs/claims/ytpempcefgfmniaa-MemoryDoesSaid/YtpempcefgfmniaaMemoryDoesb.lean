/-
  MemoryDoes: whatever accesses are done, each reply, and what all cells and blocks have, are the document's. For all sizes, generations and lists of accesses; no condition.
-/
import Derived.Test.YtpempcefgfmniaaMemoryDoesPack9

namespace Go.Proofs.Ytpempcefgfmniaa.memoryDoes
open Go.ChangeShapes Go.WideShapes Go.ChangeAt Go.RowKit RefP CellP MemP Dp
set_option linter.unusedVariables false
set_option linter.unusedSimpArgs false
theorem walk (A0 T0 gen : Int) (a : Option Addr) (c : Nat) (xs : List AccV) (w : World) (H : RowRep accT w [] a xs) (hm : xs.length ≤ 9223372036854775807) (sx : ∀ x ∈ xs, SmB x.block) (g0 : 0 ≤ gen) :
    Calls Try.prog 6 #[.int .i64 A0, .int .i64 T0, .int .u64 gen, .slice a xs.length c] w fun e w' => e = .returned (.bool true) ∧ Below w.heap.size w w' := by
  by_cases hL : lightL xs = true
  · by_cases h1 : 30 < A0 ∧ A0 ≤ 8192
    · exact does_large A0 T0 gen a c xs w H hm hL h1.1 h1.2
    · by_cases h2 : 1 ≤ A0 ∧ A0 ≤ 8192 ∧ 1 ≤ T0 ∧ T0 ≤ 16 ∧ gen < 4294967295
      · obtain ⟨A, rfl⟩ : ∃ A : Nat, A0 = (A : Int) := ⟨A0.toNat, by omega⟩
        obtain ⟨T, rfl⟩ : ∃ T : Nat, T0 = (T : Int) := ⟨T0.toNat, by omega⟩
        have hall : ∀ x ∈ xs, lightA x = true := by
          unfold lightL at hL
          rw [Bool.and_eq_true, List.all_eq_true] at hL
          exact hL.1
        exact does_main A T gen a c xs w H hm hL (fun x hx => few_of (hall x hx) (sx x hx)) (by omega) (by omega) (by omega) (by omega) g0 (by omega)
      · exact does_nil A0 T0 gen a c xs w H hm hL (by omega) h2
  · exact does_heavy A0 T0 gen a c xs w H hm (by simpa using hL)
set_option maxRecDepth 100000 in
theorem contract (H : Type) (enc : TypeId × Value → H) (W : World) (base : Nat) (args : Array Value) (ds : List (DataW H)) (p : List MemPlace)
    (hval : ∀ (j : Nat) t v, Try.f6.params[j]? = some t → args[j]? = some v → Value.okWide Try.prog W .any base t v)
    (hA : DataW.TrodAll enc Try.prog W 0 (fun _ => true) true Try.f6.params.toList args.toList ds p)
    (hz : ∀ (j : Nat) t d, Try.f6.params[j]? = some t → ds[j]? = some d → ∀ n ∈ DataW.weights Try.prog t d, n ≤ reachBytes) :
    Calls Try.prog 6 args W fun e W' => e = .returned (.bool true) ∧ Below W.heap.size W W' := by
  rw [Try.params6] at hA hval hz
  obtain ⟨v0, vs0, d0, ds0, p0, q0, hargs, rfl, rfl, h0, r0⟩ := trodAll_cons hA
  obtain ⟨v1, vs1, d1, ds1, p1, q1, rfl, rfl, rfl, h1, r1⟩ := trodAll_cons r0
  obtain ⟨v2, vs2, d2, ds2, p2, q2, rfl, rfl, rfl, h2, r2⟩ := trodAll_cons r1
  obtain ⟨v3, vs3, d3, ds3, p3, q3, rfl, rfl, rfl, h3, r3⟩ := trodAll_cons r2
  obtain ⟨rfl, rfl, rfl⟩ := trodAll_nil r3
  obtain rfl : args = #[v0, v1, v2, v3] := by cases args; simp_all
  obtain ⟨a0, rfl, w0⟩ := Lift.int_of Try.underlying3 (hval 0 3 v0 rfl rfl) h0
  obtain ⟨a1, rfl, w1⟩ := Lift.int_of Try.underlying3 (hval 1 3 v1 rfl rfl) h1
  obtain ⟨a2, rfl, w2⟩ := Lift.int_of Try.underlying22 (hval 2 22 v2 rfl rfl) h2
  obtain ⟨a, c, xs, rfl, _, hm, hx, sx⟩ := oz_slice oz_accs Try.underlying41 (hval 3 41 v3 rfl rfl) h3 (hz 3 41 d3 rfl rfl)
  have hmx : (maxLen : Nat) = 9223372036854775807 := by unfold maxLen; rfl
  exact walk a0 a1 a2 a c xs W hx (by omega) sx (Lift.u64_range w2).1

/-! THE ROW's STEP -/
set_option maxRecDepth 100000 in
theorem lifted (os : Os) (started : os.Started) (H : Type) (enc : TypeId × Value → H) :
    ReturnsInHanded {} Try.checked os 6 .any (Rows.memoryDoesSpec.pre6 enc Try.prog Try.f6 Rows.memoryDoesRow.domain false) (Rows.memoryDoesSpec.post enc Try.prog Try.f6 false true false false) := by
  refine returnsInHanded_of_change_sized (C := Try.checked) Lift.own started (by kernel_rfl) Try.func6
    (ChangeSpec.witness6 (enc := enc) (C := Try.checked) false ⟨#[], #[.int .i64 0, .int .i64 0, .int .u64 0, .slice none 0 0], []⟩ 8 (by kernel_rfl) (by kernel_rfl) (by kernel_rfl) (by kernel_rfl)) ?_
  intro W base args ds gs before hval0 hW hcnd hz0 _
  have hval : ∀ (j : Nat) t v, Try.f6.params[j]? = some t → args[j]? = some v → Value.okWide Try.prog W .any base t v := hval0
  have hW' := hW
  obtain ⟨p, q, hA0, hV, rfl, hfz, hnd⟩ := hW
  have hA : DataW.TrodAll enc Try.prog W 0 (fun _ => true) true Try.f6.params.toList args.toList ds p := hA0
  have hlen : ds.length = 4 := by
    have hl := Lift.trodAll_len _ _ _ _ hA
    rw [Try.params6] at hl
    simpa using hl
  have hall := fun W' (hb : Below W.heap.size W W') => Lift.trodAll_below Lift.laidOut hb Try.f6.params.toList args.toList ds p (by kernel_rfl) hA
  obtain ⟨rfl, rfl⟩ := trodVars_none hV
  refine (contract H enc W base args ds p hval hA (fun j t d ht hd => Dp.sized_arg hz0 (by simpa using ht) hd)).mono fun e W' ⟨he, bel⟩ => ?_
  subst he
  have hspec : (Rows.memoryDoesSpec.fn H (ds ++ [])).results = [.lit (.bool true)] ∧ (Rows.memoryDoesSpec.fn H (ds ++ [])).args = ds ∧ (Rows.memoryDoesSpec.fn H (ds ++ [])).vars = [] := by
    match ds, hlen with
    | [d1, d2, d3, d4], _ => exact ⟨rfl, rfl, rfl⟩
  exact ⟨_, rfl, _, _, _, [], _, [], hW', by rw [hspec.1]; exact trodAll_mk1 (shut_bool Try.underlying4 _), by rw [hspec.2.1]; exact hall W' bel, by rw [hspec.2.2]; rfl, bel.frame _, fun h => by cases h⟩

theorem over : Rows.memoryDoesRow.holds Try.pinned (OpenSpec.ofChange Rows.memoryDoesSpec) :=
  OpenClaim.holds_of_wide 6 Try.f6 rfl rfl rfl rfl rfl rfl rfl ⟨rfl, rfl, rfl, rfl, rfl⟩ rfl rfl rfl rfl rfl (by kernel_rfl) Try.func6 (by kernel_rfl)
    (of_decide_eq_true (by kernel_rfl)) (by unfold Func.isWrapper; first | (rw [if_pos (by decide +kernel)]; kernel_rfl) | (rw [if_neg (by decide +kernel)]; exact ⟨rfl, rfl⟩))
    (fun os started H enc _ => lifted os started H enc)

theorem proved : Rows.MemoryDoesSaid := over
#print axioms proved
end Go.Proofs.Ytpempcefgfmniaa.memoryDoes
