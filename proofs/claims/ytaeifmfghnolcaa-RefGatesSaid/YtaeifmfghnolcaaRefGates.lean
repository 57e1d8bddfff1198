/-
  RefGates: for every gate and every word, the program's word of a gate, and what it reads out of a word, are the document's. No condition.
-/
import Derived.Test.YtaeifmfghnolcaaLift
import Derived.Test.YtaeifmfghnolcaaRefLives
import Derived.Lib.SmallJoins
import Derived.Deep.RegionHeld3
import Derived.Deep.DeepCutAuto
import Derived.Deep.DrawnRows
import Derived.Lib.QuietBelow
import Derived.BigQuiet
namespace Go.Proofs.Ytaeifmfghnolcaa.refGates
open Go.ChangeShapes Go.WideShapes Go.ChangeAt Go.RowKit RefP
set_option linter.unusedVariables false
set_option linter.unusedSimpArgs false
attribute [local go_sem ↓] Go.wp_at_zero Go.wp_at_succ

set_option maxHeartbeats 1600000 in
theorem walk (s t y x : Int) (w : World) (s0 : -9223372036854775808 ≤ s) (s1 : s ≤ 9223372036854775807) (t0 : -9223372036854775808 ≤ t) (t1 : t ≤ 9223372036854775807) (y0 : 0 ≤ y) (y1 : y ≤ 18446744073709551615) (h4 : 0 ≤ x) (h5 : x ≤ 18446744073709551615) :
    Calls Try.prog 8 #[.agg #[.int .i64 s, .int .i64 t, .int .u64 y], .int .u64 x] w fun e w' => e = .returned (.bool true) ∧ Below w.heap.size w w' := by
  go_enter Try.func8, Try.ntmps8
  go_wp2_with fail
  refine (gated_any _ _ h4 h5).mono ?_
  rintro e w1 ⟨rfl, hb1⟩
  obtain ⟨hc1, hf1⟩ := bcell hb1
  have hz1 := hb1.size
  try simp only [World.size_alloc, World.size_setCell, World.size_drew, World.size_drewN'] at hz1
  have z1 : w.heap.size < w1.heap.size := by omega
  have c1_0 : w1.cell? ⟨w.heap.size, 0, none⟩ = some (.int .i64 s) := by
    rw [hc1 _ _ (by first | omega | (simp; done) | (simp; omega))]
    first | assumption | (simp [go_sem]; done) | (simp [go_sem, *]; done)
  have f1_0 : w1.frozen? ⟨w.heap.size, 0, none⟩ = false := by
    rw [hf1 _ _ (by first | omega | (simp; done) | (simp; omega))]
    first | assumption | (simp [go_sem]; done) | (simp [go_sem, *]; done)
  have c1_1 : w1.cell? ⟨w.heap.size, 1, none⟩ = some (.int .i64 t) := by
    rw [hc1 _ _ (by first | omega | (simp; done) | (simp; omega))]
    first | assumption | (simp [go_sem]; done) | (simp [go_sem, *]; done)
  have f1_1 : w1.frozen? ⟨w.heap.size, 1, none⟩ = false := by
    rw [hf1 _ _ (by first | omega | (simp; done) | (simp; omega))]
    first | assumption | (simp [go_sem]; done) | (simp [go_sem, *]; done)
  have c1_2 : w1.cell? ⟨w.heap.size, 2, none⟩ = some (.int .u64 y) := by
    rw [hc1 _ _ (by first | omega | (simp; done) | (simp; omega))]
    first | assumption | (simp [go_sem]; done) | (simp [go_sem, *]; done)
  have f1_2 : w1.frozen? ⟨w.heap.size, 2, none⟩ = false := by
    rw [hf1 _ _ (by first | omega | (simp; done) | (simp; omega))]
    first | assumption | (simp [go_sem]; done) | (simp [go_sem, *]; done)
  clear hc1 hf1
  go_wp2_with fail
  refine (dgated_any _ _ h4 h5).mono ?_
  rintro e w2 ⟨rfl, hb2⟩
  obtain ⟨hc2, hf2⟩ := bcell hb2
  have hz2 := hb2.size
  try simp only [World.size_alloc, World.size_setCell, World.size_drew, World.size_drewN'] at hz2
  have z2 : w.heap.size < w2.heap.size := by omega
  have z2g : w1.heap.size < w2.heap.size := by omega
  have c2_0 : w2.cell? ⟨w.heap.size, 0, none⟩ = some (.int .i64 s) := by
    rw [hc2 _ _ (by first | omega | (simp; done) | (simp; omega))]
    first | assumption | (simp [go_sem]; done) | (simp [go_sem, *]; done)
  have f2_0 : w2.frozen? ⟨w.heap.size, 0, none⟩ = false := by
    rw [hf2 _ _ (by first | omega | (simp; done) | (simp; omega))]
    first | assumption | (simp [go_sem]; done) | (simp [go_sem, *]; done)
  have c2_1 : w2.cell? ⟨w.heap.size, 1, none⟩ = some (.int .i64 t) := by
    rw [hc2 _ _ (by first | omega | (simp; done) | (simp; omega))]
    first | assumption | (simp [go_sem]; done) | (simp [go_sem, *]; done)
  have f2_1 : w2.frozen? ⟨w.heap.size, 1, none⟩ = false := by
    rw [hf2 _ _ (by first | omega | (simp; done) | (simp; omega))]
    first | assumption | (simp [go_sem]; done) | (simp [go_sem, *]; done)
  have c2_2 : w2.cell? ⟨w.heap.size, 2, none⟩ = some (.int .u64 y) := by
    rw [hc2 _ _ (by first | omega | (simp; done) | (simp; omega))]
    first | assumption | (simp [go_sem]; done) | (simp [go_sem, *]; done)
  have f2_2 : w2.frozen? ⟨w.heap.size, 2, none⟩ = false := by
    rw [hf2 _ _ (by first | omega | (simp; done) | (simp; omega))]
    first | assumption | (simp [go_sem]; done) | (simp [go_sem, *]; done)
  have c2_0g : w2.cell? ⟨w1.heap.size, 0, none⟩ = some (.int .i64 (gatedS x)) := by
    rw [hc2 _ _ (by first | omega | (simp; done) | (simp; omega))]
    first | assumption | (simp [go_sem]; done) | (simp [go_sem, *]; done)
  have f2_0g : w2.frozen? ⟨w1.heap.size, 0, none⟩ = false := by
    rw [hf2 _ _ (by first | omega | (simp; done) | (simp; omega))]
    first | assumption | (simp [go_sem]; done) | (simp [go_sem, *]; done)
  have c2_1g : w2.cell? ⟨w1.heap.size, 1, none⟩ = some (.int .i64 (gatedT x)) := by
    rw [hc2 _ _ (by first | omega | (simp; done) | (simp; omega))]
    first | assumption | (simp [go_sem]; done) | (simp [go_sem, *]; done)
  have f2_1g : w2.frozen? ⟨w1.heap.size, 1, none⟩ = false := by
    rw [hf2 _ _ (by first | omega | (simp; done) | (simp; omega))]
    first | assumption | (simp [go_sem]; done) | (simp [go_sem, *]; done)
  have c2_2g : w2.cell? ⟨w1.heap.size, 2, none⟩ = some (.int .u64 (gatedW x)) := by
    rw [hc2 _ _ (by first | omega | (simp; done) | (simp; omega))]
    first | assumption | (simp [go_sem]; done) | (simp [go_sem, *]; done)
  have f2_2g : w2.frozen? ⟨w1.heap.size, 2, none⟩ = false := by
    rw [hf2 _ _ (by first | omega | (simp; done) | (simp; omega))]
    first | assumption | (simp [go_sem]; done) | (simp [go_sem, *]; done)
  clear hc2 hf2
  go_upto_region 3 with (fail)
  have k0 := cell_regrown (World.cell?_alloc_some' c2_0 (O := Obj.cells #[.int .i64 (gatedS x), .int .i64 (gatedT x), .int .u64 (gatedW x)] 63))
  have k1 := cell_regrown (World.cell?_alloc_some' c2_1 (O := Obj.cells #[.int .i64 (gatedS x), .int .i64 (gatedT x), .int .u64 (gatedW x)] 63))
  have k2 := cell_regrown (World.cell?_alloc_some' c2_2 (O := Obj.cells #[.int .i64 (gatedS x), .int .i64 (gatedT x), .int .u64 (gatedW x)] 63))
  have k3 := cell_regrown (World.cell?_alloc_some' c2_0g (O := Obj.cells #[.int .i64 (gatedS x), .int .i64 (gatedT x), .int .u64 (gatedW x)] 63))
  have k4 := cell_regrown (World.cell?_alloc_some' c2_1g (O := Obj.cells #[.int .i64 (gatedS x), .int .i64 (gatedT x), .int .u64 (gatedW x)] 63))
  have k5 := cell_regrown (World.cell?_alloc_some' c2_2g (O := Obj.cells #[.int .i64 (gatedS x), .int .i64 (gatedT x), .int .u64 (gatedW x)] 63))
  have k6 := cell_regrown (World.cell?_alloc_new' w2 (C := #[.int .i64 (gatedS x), .int .i64 (gatedT x), .int .u64 (gatedW x)]) (T := 63) 0 rfl)
  have k7 := cell_regrown (World.cell?_alloc_new' w2 (C := #[.int .i64 (gatedS x), .int .i64 (gatedT x), .int .u64 (gatedW x)]) (T := 63) 1 rfl)
  have k8 := cell_regrown (World.cell?_alloc_new' w2 (C := #[.int .i64 (gatedS x), .int .i64 (gatedT x), .int .u64 (gatedW x)]) (T := 63) 2 rfl)
  refine wp_region_quiet_below (by kernel_rfl) (by kernel_rfl) ?_
  repeat (go_big_quiet_step (first | exact Calls.regrown_of (shut_any _ _ _ _ s0 s1 t0 t1 y0 y1) | exact Calls.regrown_of (dshut_any _ _ _ _ s0 s1 t0 t1 y0 y1) | exact Calls.regrown_of (lives_any _)))
  refine wpQuiet_nil ?_
  intro w3 hw'
  have hb3 := RefP.below_of_regrown hw'
  clear hw'
  go_wp2_with fail
  go_ret
  refine ⟨rfl, ?_⟩
  (repeat (first | exact Below.refl _ _ | assumption | refine Below.setCell ?_ (by first | (simp; done) | (simp; omega) | omega) _ | refine Below.alloc ?_ (by first | (simp; done) | (simp; omega) | omega) _ | refine Below.drew ?_ | refine below_drewN ?_ _ | refine below_push ?_ ‹_› (by first | (simp; done) | (simp; omega) | omega)))

set_option maxRecDepth 100000 in
theorem contract (H : Type) (enc : TypeId × Value → H) (W : World) (base : Nat) (args : Array Value) (ds : List (DataW H)) (p : List MemPlace)
    (hval : ∀ (j : Nat) t v, Try.f8.params[j]? = some t → args[j]? = some v → Value.okWide Try.prog W .any base t v)
    (hA : DataW.TrodAll enc Try.prog W 0 (fun _ => true) true Try.f8.params.toList args.toList ds p) :
    Calls Try.prog 8 args W fun e W' => e = .returned (.bool true) ∧ Below W.heap.size W W' := by
  rw [Try.params8] at hA hval
  obtain ⟨v0, vs0, d0, ds0, p0, q0, hargs, rfl, rfl, h0, r0⟩ := trodAll_cons hA
  obtain ⟨v1, vs1, d1, ds1, p1, q1, rfl, rfl, rfl, h1, r1⟩ := trodAll_cons r0
  obtain ⟨rfl, rfl, rfl⟩ := trodAll_nil r1
  obtain rfl : args = #[v0, v1] := by cases args; simp_all
  obtain ⟨s, t, y, rfl, u0, u1, u2⟩ := Lift.agg3_of Try.underlying63 (by kernel_rfl) (by kernel_rfl) Try.underlying3 Try.underlying3 Try.underlying23 (hval 0 63 v0 rfl rfl) h0
  obtain ⟨a1, rfl, w1⟩ := Lift.int_of Try.underlying23 (hval 1 23 v1 rfl rfl) h1
  have b0 := Lift.i64_range u0
  have b1 := Lift.i64_range u1
  have b2 := Lift.u64_range u2
  have b3 := Lift.u64_range w1
  exact walk s t y a1 W b0.1 b0.2 b1.1 b1.2 b2.1 b2.2 b3.1 b3.2

/-! THE ROW's STEP -/
set_option maxRecDepth 100000 in
theorem lifted (os : Os) (started : os.Started) (H : Type) (enc : TypeId × Value → H) :
    ReturnsInHanded {} Try.checked os 8 .any (Rows.refGatesSpec.pre6 enc Try.prog Try.f8 Rows.refGatesRow.domain false) (Rows.refGatesSpec.post enc Try.prog Try.f8 false true false false) := by
  refine returnsInHanded_of_change (C := Try.checked) Lift.own started (by kernel_rfl) Try.func8
    (ChangeSpec.witness6 (enc := enc) (C := Try.checked) false ⟨#[], #[.agg #[.int .i64 0, .int .i64 0, .int .u64 0], .int .u64 0], []⟩ 8 (by kernel_rfl) (by kernel_rfl) (by kernel_rfl) (by kernel_rfl)) ?_
  intro W base args ds gs before hval0 hW hcnd _
  have hval : ∀ (j : Nat) t v, Try.f8.params[j]? = some t → args[j]? = some v → Value.okWide Try.prog W .any base t v := hval0
  have hW' := hW
  obtain ⟨p, q, hA0, hV, rfl, hfz, hnd⟩ := hW
  have hA : DataW.TrodAll enc Try.prog W 0 (fun _ => true) true Try.f8.params.toList args.toList ds p := hA0
  have hlen : ds.length = 2 := by
    have hl := Lift.trodAll_len _ _ _ _ hA
    rw [Try.params8] at hl
    simpa using hl
  have hall := fun W' (hb : Below W.heap.size W W') => Lift.trodAll_below Lift.laidOut hb Try.f8.params.toList args.toList ds p (by kernel_rfl) hA
  obtain ⟨rfl, rfl⟩ := trodVars_none hV
  refine (contract H enc W base args ds p hval hA).mono fun e W' ⟨he, bel⟩ => ?_
  subst he
  have hspec : (Rows.refGatesSpec.fn H (ds ++ [])).results = [.lit (.bool true)] ∧ (Rows.refGatesSpec.fn H (ds ++ [])).args = ds ∧ (Rows.refGatesSpec.fn H (ds ++ [])).vars = [] := by
    match ds, hlen with
    | [d1, d2], _ => exact ⟨rfl, rfl, rfl⟩
  exact ⟨_, rfl, _, _, _, [], _, [], hW', by rw [hspec.1]; exact trodAll_mk1 (shut_bool Try.underlying4 _), by rw [hspec.2.1]; exact hall W' bel, by rw [hspec.2.2]; rfl, bel.frame _, fun h => by cases h⟩

theorem over : Rows.refGatesRow.holds Try.pinned (OpenSpec.ofChange Rows.refGatesSpec) :=
  OpenClaim.holds_of_wide 8 Try.f8 rfl rfl rfl rfl rfl rfl rfl ⟨rfl, rfl, rfl, rfl, rfl⟩ rfl rfl rfl rfl rfl (by kernel_rfl) Try.func8 (by kernel_rfl)
    (of_decide_eq_true (by kernel_rfl)) (by unfold Func.isWrapper; first | (rw [if_pos (by decide +kernel)]; kernel_rfl) | (rw [if_neg (by decide +kernel)]; exact ⟨rfl, rfl⟩))
    (fun os started H enc _ => lifted os started H enc)

theorem proved : Rows.RefGatesSaid := over
#print axioms proved
end Go.Proofs.Ytaeifmfghnolcaa.refGates
