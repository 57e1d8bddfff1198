/-
  RefOnce: whatever is packed, used or shut is told again by its word, and whatever a word tells has just that word. For every place, generation, gate and word; no condition.
-/
import Derived.Test.YtaeifmfghnolcaaLift
import Derived.Test.YtaeifmfghnolcaaRefLives
import Derived.Deep.DeepCutAuto
import Derived.BigQuiet
namespace Go.Proofs.Ytaeifmfghnolcaa.refOnce
open Go.ChangeShapes Go.WideShapes Go.ChangeAt Go.RowKit RefP
set_option linter.unusedVariables false
set_option linter.unusedSimpArgs false

/-- the gate's cells stand -/
structure Stands (w : World) (s t y : Int) (wx : World) : Prop where
  b : Below w.heap.size w wx
  z : w.heap.size < wx.heap.size
  c0 : wx.cell? ⟨w.heap.size, 0, none⟩ = some (.int .i64 s)
  c1 : wx.cell? ⟨w.heap.size, 1, none⟩ = some (.int .i64 t)
  c2 : wx.cell? ⟨w.heap.size, 2, none⟩ = some (.int .u64 y)
theorem Stands.call {w : World} {s t y : Int} {wx wy : World} (h : Stands w s t y wx) (k : Below wx.heap.size wx wy) : Stands w s t y wy :=
  ⟨below_two h.b k, Nat.lt_of_lt_of_le h.z k.size, (k.cell (p := ⟨_, 0, none⟩) h.z).trans h.c0, (k.cell (p := ⟨_, 1, none⟩) h.z).trans h.c1, (k.cell (p := ⟨_, 2, none⟩) h.z).trans h.c2⟩
theorem Stands.alloc {w : World} {s t y : Int} {wx : World} (h : Stands w s t y wx) (o : Obj) : Stands w s t y (wx.alloc o) :=
  h.call ((Below.refl _ _).alloc (Nat.le_refl _) o)
theorem Stands.start (w : World) (s t y : Int) (T : TypeId) : Stands w s t y (w.alloc (.cells #[.int .i64 s, .int .i64 t, .int .u64 y] T)) :=
  ⟨(Below.refl _ _).alloc (Nat.le_refl _) _, by simp, by simp [go_sem], by simp [go_sem], by simp [go_sem]⟩


theorem pack_open {x : Int} (h : opensB x = true) : packI (openP x) (openG x) = x := by rw [openP_yes h, openG_yes h]; exact pack_of_open x h
theorem use_state {x : Int} (h : statesB x = true) : useI (stateS x) (stateG x) = x := by rw [stateS_yes h, stateG_yes h]; exact use_of_state x h
theorem shut_gated {x : Int} (h : gatedB x = true) : shutI (gatedS x) (gatedT x) (gatedW x) = x := by rw [gatedS_yes h, gatedT_yes h, gatedW_yes h]; exact shut_of_gated x h
theorem gated_bounds (x : Int) (h2 : 0 ≤ x) (h3 : x ≤ 18446744073709551615) : 0 ≤ gatedS x ∧ gatedS x ≤ 3 ∧ 0 ≤ gatedT x ∧ gatedT x ≤ 63 ∧ 0 ≤ gatedW x ∧ gatedW x ≤ 72057594037927935 := by
  cases h : gatedB x
  · rw [gatedS_no h, gatedT_no h, gatedW_no h]; omega
  · rw [gatedS_yes h, gatedT_yes h, gatedW_yes h]; omega
theorem neq_true {a b : Int} (h : a ≠ b) : (a != b) = true := by simpa using h
theorem neq_false {a b : Int} (h : a = b) : (a != b) = false := by simp [h]
set_option maxRecDepth 100000 in
set_option maxHeartbeats 6400000 in
theorem walk (p g s t y x : Int) (w : World) (p0 : -9223372036854775808 ≤ p) (p1 : p ≤ 9223372036854775807) (g0 : 0 ≤ g) (g1 : g ≤ 18446744073709551615)
    (s0 : -9223372036854775808 ≤ s) (s1 : s ≤ 9223372036854775807) (t0 : -9223372036854775808 ≤ t) (t1 : t ≤ 9223372036854775807) (y0 : 0 ≤ y) (y1 : y ≤ 18446744073709551615) (h4 : 0 ≤ x) (h5 : x ≤ 18446744073709551615) :
    Calls Try.prog 9 #[.int .i64 p, .int .u64 g, .agg #[.int .i64 s, .int .i64 t, .int .u64 y], .int .u64 x] w fun e w' => e = .returned (.bool true) ∧ Below w.heap.size w w' := by
  have pl := packI_lo p g
  have ph := packI_hi p g
  have ul := useI_lo p g g0
  have uh := useI_hi p g
  have sl := shutI_lo s t y y0
  have sh := shutI_hi s t y y0
  have ob := open_bounds x
  have sb := state_bounds x h4
  have gb := gated_bounds x h4 h5
  go_enter Try.func9, Try.ntmps9
  go_wp2_with fail
  refine (pack_any _ _ _ p0 p1 g0 g1).mono ?_
  rintro e w1 ⟨rfl, rfl⟩
  go_upto_if 32 with (fail)
  go_cut [] (fun wx => Stands w s t y wx)
  case first =>
    have S := Stands.start w s t y 63
    by_cases c : packI p g = 0
    · have hq := neq_false c
      clear c
      go_wp2_with fail
      go_meet
      exact S
    · have hq := neq_true c
      obtain ⟨o1, o2, o3⟩ := open_of_pack p g c
      go_wp2_with fail
      refine (open_any _ _ pl ph).mono ?_
      rintro e w1 ⟨rfl, hb1⟩
      go_wp2_with fail
      go_meet
      exact S.call hb1
  case rest =>
    have S := hcut
    have sz := S.z
    have sc0 := S.c0
    have sc1 := S.c1
    have sc2 := S.c2
    go_wp2_with fail
    refine (use_any _ _ _ p0 p1 g0 g1).mono ?_
    rintro e w1 ⟨rfl, rfl⟩
    clear sz sc0 sc1 sc2
    go_upto_if 55 with (fail)
    go_cut [] (fun wx => Stands w s t y wx)
    case first =>
      by_cases c : useI p g = topW
      · have hq : (useI p g != 18446744073709551615) = false := neq_false c
        clear c
        go_wp2_with fail
        go_meet
        exact S
      · have hq : (useI p g != 18446744073709551615) = true := neq_true c
        obtain ⟨o1, o2, o3⟩ := state_of_use p g g0 c
        go_wp2_with fail
        refine (state_any _ _ ul uh).mono ?_
        rintro e w1 ⟨rfl, hb1⟩
        go_wp2_with fail
        go_meet
        exact S.call hb1
    case rest =>
      clear S
      have S := hcut
      have sz := S.z
      have sc0 := S.c0
      have sc1 := S.c1
      have sc2 := S.c2
      go_wp2_with fail
      refine (shut_any _ _ _ _ s0 s1 t0 t1 y0 y1).mono ?_
      rintro e w1 ⟨rfl, hb1⟩
      have S1 := S.call hb1
      clear sz sc0 sc1 sc2
      go_upto_if 77 with (fail)
      go_cut [] (fun wx => Stands w s t y wx)
      case first =>
        by_cases c : shutI s t y = topW
        · have hq : (shutI s t y != 18446744073709551615) = false := neq_false c
          clear c
          go_wp2_with fail
          go_meet
          exact S1
        · have hq : (shutI s t y != 18446744073709551615) = true := neq_true c
          obtain ⟨o1, o2, o3, o4⟩ := gated_of_shut s t y y0 c
          go_wp2_with fail
          refine (gated_any _ _ sl sh).mono ?_
          rintro e w2 ⟨rfl, hb2⟩
          have S2 := S1.call hb2
          have sz := S2.z
          have sc0 := S2.c0
          have sc1 := S2.c1
          have sc2 := S2.c2
          go_wp2_with fail
          go_meet
          exact S2.alloc _
      case rest =>
        have S := hcut
        go_wp2_with fail
        refine (open_any _ _ h4 h5).mono ?_
        rintro e w2 ⟨rfl, hb2⟩
        have S2 := S.call hb2
        go_upto_region 17 with (fail)
        go_cut [22, 103] (fun _ b wx => b = .bool false ∧ Stands w s t y wx)
        case first =>
          cases c : opensB x
          · go_wp2_with fail
            go_meet
            exact ⟨rfl, S2⟩
          · have hq := neq_false (pack_open c)
            go_wp2_with fail
            refine (pack_any _ _ _ (by omega) (by omega) (by omega) (by omega)).mono ?_
            rintro e w3 ⟨rfl, rfl⟩
            go_wp2_with fail
            go_meet
            exact ⟨rfl, S2⟩
        case rest =>
          obtain ⟨rfl, S⟩ := hcut
          go_wp2_with fail
          refine (state_any _ _ h4 h5).mono ?_
          rintro e w2 ⟨rfl, hb2⟩
          have S2 := S.call hb2
          go_upto_region 20 with (fail)
          go_cut [25, 117] (fun _ b wx => b = .bool false ∧ Stands w s t y wx)
          case first =>
            cases c : statesB x
            · go_wp2_with fail
              go_meet
              exact ⟨rfl, S2⟩
            · have hq := neq_false (use_state c)
              go_wp2_with fail
              refine (use_any _ _ _ (by omega) (by omega) (by omega) (by omega)).mono ?_
              rintro e w3 ⟨rfl, rfl⟩
              go_wp2_with fail
              go_meet
              exact ⟨rfl, S2⟩
          case rest =>
            obtain ⟨rfl, S⟩ := hcut
            go_wp2_with fail
            refine (gated_any _ _ h4 h5).mono ?_
            rintro e w2 ⟨rfl, hb2⟩
            have S2 := (S.call hb2).alloc (.cells #[.int .i64 (gatedS x), .int .i64 (gatedT x), .int .u64 (gatedW x)] 64)
            go_upto_region 23 with (fail)
            go_cut [27, 129] (fun _ b wx => b = .bool false ∧ Stands w s t y wx)
            case first =>
              cases c : gatedB x
              · go_wp2_with fail
                go_meet
                exact ⟨rfl, S2⟩
              · have hq := neq_false (shut_gated c)
                go_wp2_with fail
                refine (shut_any _ _ _ _ (by omega) (by omega) (by omega) (by omega) (by omega) (by omega)).mono ?_
                rintro e w3 ⟨rfl, hb3⟩
                have S3 := S2.call hb3
                go_wp2_with fail
                go_meet
                exact ⟨rfl, S3⟩
            case rest =>
              obtain ⟨rfl, S⟩ := hcut
              go_wp2_with fail
              refine (lives_any _).mono ?_
              rintro e w2 ⟨rfl, hb2⟩
              go_wp2_with fail
              go_ret
              exact ⟨rfl, (S.call hb2).b⟩

set_option maxRecDepth 100000 in
theorem contract (H : Type) (enc : TypeId × Value → H) (W : World) (base : Nat) (args : Array Value) (ds : List (DataW H)) (p : List MemPlace)
    (hval : ∀ (j : Nat) t v, Try.f9.params[j]? = some t → args[j]? = some v → Value.okWide Try.prog W .any base t v)
    (hA : DataW.TrodAll enc Try.prog W 0 (fun _ => true) true Try.f9.params.toList args.toList ds p) :
    Calls Try.prog 9 args W fun e W' => e = .returned (.bool true) ∧ Below W.heap.size W W' := by
  rw [Try.params9] at hA hval
  obtain ⟨v0, vs0, d0, ds0, p0, q0, hargs, rfl, rfl, h0, r0⟩ := trodAll_cons hA
  obtain ⟨v1, vs1, d1, ds1, p1, q1, rfl, rfl, rfl, h1, r1⟩ := trodAll_cons r0
  obtain ⟨v2, vs2, d2, ds2, p2, q2, rfl, rfl, rfl, h2, r2⟩ := trodAll_cons r1
  obtain ⟨v3, vs3, d3, ds3, p3, q3, rfl, rfl, rfl, h3, r3⟩ := trodAll_cons r2
  obtain ⟨rfl, rfl, rfl⟩ := trodAll_nil r3
  obtain rfl : args = #[v0, v1, v2, v3] := by cases args; simp_all
  obtain ⟨a0, rfl, w0⟩ := Lift.int_of Try.underlying3 (hval 0 3 v0 rfl rfl) h0
  obtain ⟨a1, rfl, w1⟩ := Lift.int_of Try.underlying23 (hval 1 23 v1 rfl rfl) h1
  obtain ⟨s, t, y, rfl, u0, u1, u2⟩ := Lift.agg3_of Try.underlying63 (by kernel_rfl) (by kernel_rfl) Try.underlying3 Try.underlying3 Try.underlying23 (hval 2 63 v2 rfl rfl) h2
  obtain ⟨a3, rfl, w3⟩ := Lift.int_of Try.underlying23 (hval 3 23 v3 rfl rfl) h3
  have b0 := Lift.i64_range w0
  have b1 := Lift.u64_range w1
  have b2 := Lift.i64_range u0
  have b3 := Lift.i64_range u1
  have b4 := Lift.u64_range u2
  have b5 := Lift.u64_range w3
  exact walk a0 a1 s t y a3 W b0.1 b0.2 b1.1 b1.2 b2.1 b2.2 b3.1 b3.2 b4.1 b4.2 b5.1 b5.2

/-! THE ROW's STEP -/
set_option maxRecDepth 100000 in
theorem lifted (os : Os) (started : os.Started) (H : Type) (enc : TypeId × Value → H) :
    ReturnsInHanded {} Try.checked os 9 .any (Rows.refOnceSpec.pre6 enc Try.prog Try.f9 Rows.refOnceRow.domain false) (Rows.refOnceSpec.post enc Try.prog Try.f9 false true false false) := by
  refine returnsInHanded_of_change (C := Try.checked) Lift.own started (by kernel_rfl) Try.func9
    (ChangeSpec.witness6 (enc := enc) (C := Try.checked) false ⟨#[], #[.int .i64 0, .int .u64 0, .agg #[.int .i64 0, .int .i64 0, .int .u64 0], .int .u64 0], []⟩ 8 (by kernel_rfl) (by kernel_rfl) (by kernel_rfl) (by kernel_rfl)) ?_
  intro W base args ds gs before hval0 hW hcnd _
  have hval : ∀ (j : Nat) t v, Try.f9.params[j]? = some t → args[j]? = some v → Value.okWide Try.prog W .any base t v := hval0
  have hW' := hW
  obtain ⟨p, q, hA0, hV, rfl, hfz, hnd⟩ := hW
  have hA : DataW.TrodAll enc Try.prog W 0 (fun _ => true) true Try.f9.params.toList args.toList ds p := hA0
  have hlen : ds.length = 4 := by
    have hl := Lift.trodAll_len _ _ _ _ hA
    rw [Try.params9] at hl
    simpa using hl
  have hall := fun W' (hb : Below W.heap.size W W') => Lift.trodAll_below Lift.laidOut hb Try.f9.params.toList args.toList ds p (by kernel_rfl) hA
  obtain ⟨rfl, rfl⟩ := trodVars_none hV
  refine (contract H enc W base args ds p hval hA).mono fun e W' ⟨he, bel⟩ => ?_
  subst he
  have hspec : (Rows.refOnceSpec.fn H (ds ++ [])).results = [.lit (.bool true)] ∧ (Rows.refOnceSpec.fn H (ds ++ [])).args = ds ∧ (Rows.refOnceSpec.fn H (ds ++ [])).vars = [] := by
    match ds, hlen with
    | [d1, d2, d3, d4], _ => exact ⟨rfl, rfl, rfl⟩
  exact ⟨_, rfl, _, _, _, [], _, [], hW', by rw [hspec.1]; exact trodAll_mk1 (shut_bool Try.underlying4 _), by rw [hspec.2.1]; exact hall W' bel, by rw [hspec.2.2]; rfl, bel.frame _, fun h => by cases h⟩

theorem over : Rows.refOnceRow.holds Try.pinned (OpenSpec.ofChange Rows.refOnceSpec) :=
  OpenClaim.holds_of_wide 9 Try.f9 rfl rfl rfl rfl rfl rfl rfl ⟨rfl, rfl, rfl, rfl, rfl⟩ rfl rfl rfl rfl rfl (by kernel_rfl) Try.func9 (by kernel_rfl)
    (of_decide_eq_true (by kernel_rfl)) (by unfold Func.isWrapper; first | (rw [if_pos (by decide +kernel)]; kernel_rfl) | (rw [if_neg (by decide +kernel)]; exact ⟨rfl, rfl⟩))
    (fun os started H enc _ => lifted os started H enc)

theorem proved : Rows.RefOnceSaid := over
#print axioms proved
end Go.Proofs.Ytaeifmfghnolcaa.refOnce
