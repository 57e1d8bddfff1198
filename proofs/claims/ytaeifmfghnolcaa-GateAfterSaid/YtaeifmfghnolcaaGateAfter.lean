/-
  GateAfter: for any phases and any two candidates: the phase behind the others is the document's, and so is who is ahead; who has it is ahead of nobody that was there, if there is a greater one. No condition.
-/
import Derived.Test.YtaeifmfghnolcaaLift
import Derived.Test.YtaeifmfghnolcaaGateLives
import Derived.Test.YtaeifmfghnolcaaOpen
import Derived.Lib.SmallJoins
import Derived.Deep.DeepCutAuto
namespace Go.Proofs.Ytaeifmfghnolcaa.gateAfter
open Go.ChangeShapes Go.WideShapes Go.ChangeAt Go.RowKit RefP GateP
set_option linter.unusedVariables false
set_option linter.unusedSimpArgs false

theorem ahead_after (t u : Int) (xs : List Int) (k : Nat) (hk : k < xs.length) (h : at0 xs k < 18446744073709551615) : aheadB t (afterI xs) u (at0 xs k) = false := by
  have hm := maxL_mem xs _ (at0_mem xs k hk)
  have : at0 xs k < afterI xs := by unfold afterI; split <;> omega
  exact decide_eq_false (by omega)
theorem Calls.regrown_same {P : Program} {f : FuncId} {args : Array Value} {w : World} {d : Nat} {os : Array Obj} {v : Value}
    (h : Calls P f args (Go.Sort.grow (redrawn w d) os) fun e w' => e = .returned v ∧ Go.Sort.grow (redrawn w d) os = w') : Calls P f args (Go.Sort.grow (redrawn w d) os) fun e w'' => e = .returned v ∧ ∃ p : Regrown, w'' = Go.Sort.grow (redrawn w p.d) p.os :=
  h.mono fun _ _ ⟨he, hw⟩ => ⟨he, ⟨d, os⟩, hw.symm⟩

set_option maxHeartbeats 1600000 in
theorem walk (a : Option Addr) (c : Nat) (xs : List Int) (t p u q : Int) (w : World) (h : U64s w a xs) :
    Calls Try.prog 3 #[.slice a xs.length c, .agg #[.int .i64 t, .int .u64 p], .agg #[.int .i64 u, .int .u64 q]] w fun e w' => e = .returned (.bool true) ∧ Below w.heap.size w w' := by
  have hlen := h.len
  by_cases hbig : 100 < xs.length
  · go_enter Try.func3, Try.ntmps3
    go_wp2_with fail
    refine (lives_any _).mono ?_
    rintro e w1 ⟨rfl, hb1⟩
    go_wp2_with fail
    go_ret
    exact ⟨rfl, by (repeat (first | exact Below.refl _ _ | assumption | refine below_alloc2 ?_ (by first | exact Nat.le_refl _ | omega) _ | refine Below.drew ?_ | refine below_drewN ?_ _ | refine below_push2 ?_ ‹_› (by first | exact Nat.le_refl _ | omega) | refine Below.setCell ?_ (by first | (simp; done) | (simp; omega) | omega) _))⟩
  · go_enter Try.func3, Try.ntmps3
    go_wp2_with fail
    refine (after_any _ _ _ _ (h.below (by (repeat (first | exact Below.refl _ _ | assumption | refine below_alloc2 ?_ (by first | exact Nat.le_refl _ | omega) _ | refine Below.drew ?_ | refine below_drewN ?_ _ | refine below_push2 ?_ ‹_› (by first | exact Nat.le_refl _ | omega) | refine Below.setCell ?_ (by first | (simp; done) | (simp; omega) | omega) _))))).mono ?_
    rintro e w1 ⟨rfl, rfl⟩
    go_upto_region 4 with (fail)
    have BA := (Blk.new w #[.int .i64 t, .int .u64 p] 25).alloc (.cells #[.int .i64 u, .int .u64 q] 25)
    have BB := Blk.new (w.alloc (.cells #[.int .i64 t, .int .u64 p] 25)) #[.int .i64 u, .int .u64 q] 25
    rw [show (w.alloc (.cells #[.int .i64 t, .int .u64 p] 25)).heap.size = w.heap.size + 1 by simp] at BB
    have hW : Below w.heap.size w ((w.alloc (.cells #[.int .i64 t, .int .u64 p] 25)).alloc (.cells #[.int .i64 u, .int .u64 q] 25)) := by (repeat (first | exact Below.refl _ _ | assumption | refine below_alloc2 ?_ (by first | exact Nat.le_refl _ | omega) _ | refine Below.drew ?_ | refine below_drewN ?_ _ | refine below_push2 ?_ ‹_› (by first | exact Nat.le_refl _ | omega) | refine Below.setCell ?_ (by first | (simp; done) | (simp; omega) | omega) _))
    generalize (w.alloc (.cells #[.int .i64 t, .int .u64 p] 25)).alloc (.cells #[.int .i64 u, .int .u64 q] 25) = W at *
    have HU := h.below hW
    have k0 := cell_regrown (BA.at 0 rfl)
    have k1 := cell_regrown (BA.at 1 rfl)
    have k2 := cell_regrown (BB.at 0 rfl)
    have k3 := cell_regrown (BB.at 1 rfl)
    refine wp_region_quiet_below (by kernel_rfl) (by kernel_rfl) ?_
    repeat (go_big_quiet_step (first | exact Calls.regrown_same (dafter_any _ _ _ _ (HU.below (below_regrown W _ _))) | exact Calls.regrown_of (ahead_any _ _ _ _ _) | exact Calls.regrown_of (dahead_any _ _ _ _ _)))
    refine wpQuiet_nil ?_
    intro w2 hw'
    have hb2 := RefP.below_of_regrown hw'
    clear hw'
    clear k0 k1 k2 k3
    have BA2 := BA.below hb2
    have BB2 := BB.below hb2
    have hB2 := below_two hW hb2
    clear HU BA BB hW hb2
    go_wp2_with fail
    go_loopw [31] (fun i wr => ∃ k : Nat, k ≤ xs.length ∧ i = .int .i64 k ∧ Below w.heap.size w wr ∧ Blk wr w.heap.size #[.int .i64 t, .int .u64 p] 25 ∧ Blk wr (w.heap.size + 1) #[.int .i64 u, .int .u64 q] 25) (fun i _ => xs.length - (intOf i).toNat)
    case atStart => exact ⟨0, Nat.zero_le _, rfl, hB2, BA2, BB2⟩
    case round =>
      obtain ⟨k, hk, rfl, hbr, BA, BB⟩ := hrel
      by_cases hlt : k < xs.length
      · obtain ⟨b', off', rfl, hbl', hx⟩ := (h.below hbr).cell k hlt
        have rx := h.rngD k
        have a0 := BA.at 0 rfl
        have b0 := BB.at 0 rfl
        by_cases hx1 : at0 xs k < 18446744073709551615
        · have hah := ahead_after t u xs k hlt hx1
          go_wp2_with fail
          refine (ahead_any _ _ _ _ _).mono ?_
          rintro e w3 ⟨rfl, hb3⟩
          go_wp2_with fail
          go_roundw
          case rel => exact ⟨k + 1, by omega, by go_num, by (repeat (first | exact Below.refl _ _ | assumption | refine below_alloc2 ?_ (by first | exact Nat.le_refl _ | omega) _ | refine Below.drew ?_ | refine below_drewN ?_ _ | refine below_push2 ?_ ‹_› (by first | exact Nat.le_refl _ | omega) | refine Below.setCell ?_ (by first | (simp; done) | (simp; omega) | omega) _)), BA.below hb3, BB.below hb3⟩
          case measure => simp [intOf]; omega
        · have hd : decide (at0 xs k < 18446744073709551615) = false := by simpa using hx1
          cases hah : aheadB t (afterI xs) u (at0 xs k)
          all_goals
            go_wp2_with fail
            refine (ahead_any _ _ _ _ _).mono ?_
            rintro e w3 ⟨rfl, hb3⟩
            go_wp2_with fail
            go_roundw
            case rel => exact ⟨k + 1, by omega, by go_num, by (repeat (first | exact Below.refl _ _ | assumption | refine below_alloc2 ?_ (by first | exact Nat.le_refl _ | omega) _ | refine Below.drew ?_ | refine below_drewN ?_ _ | refine below_push2 ?_ ‹_› (by first | exact Nat.le_refl _ | omega) | refine Below.setCell ?_ (by first | (simp; done) | (simp; omega) | omega) _)), BA.below hb3, BB.below hb3⟩
            case measure => simp [intOf]; omega
      · obtain rfl : k = xs.length := by omega
        go_wp2_with fail
        refine (lives_any _).mono ?_
        rintro e w3 ⟨rfl, hb3⟩
        go_wp2_with fail
        go_ret
        exact ⟨rfl, by (repeat (first | exact Below.refl _ _ | assumption | refine below_alloc2 ?_ (by first | exact Nat.le_refl _ | omega) _ | refine Below.drew ?_ | refine below_drewN ?_ _ | refine below_push2 ?_ ‹_› (by first | exact Nat.le_refl _ | omega) | refine Below.setCell ?_ (by first | (simp; done) | (simp; omega) | omega) _))⟩

set_option maxRecDepth 100000 in
theorem contract (H : Type) (enc : TypeId × Value → H) (W : World) (base : Nat) (args : Array Value) (ds : List (DataW H)) (p : List MemPlace)
    (hval : ∀ (j : Nat) t v, Try.f3.params[j]? = some t → args[j]? = some v → Value.okWide Try.prog W .any base t v)
    (hA : DataW.TrodAll enc Try.prog W 0 (fun _ => true) true Try.f3.params.toList args.toList ds p) :
    Calls Try.prog 3 args W fun e W' => e = .returned (.bool true) ∧ Below W.heap.size W W' := by
  rw [Try.params3] at hA hval
  obtain ⟨v0, vs0, d0, ds0, p0, q0, hargs, rfl, rfl, h0, r0⟩ := trodAll_cons hA
  obtain ⟨v1, vs1, d1, ds1, p1, q1, rfl, rfl, rfl, h1, r1⟩ := trodAll_cons r0
  obtain ⟨v2, vs2, d2, ds2, p2, q2, rfl, rfl, rfl, h2, r2⟩ := trodAll_cons r1
  obtain ⟨rfl, rfl, rfl⟩ := trodAll_nil r2
  obtain rfl : args = #[v0, v1, v2] := by cases args; simp_all
  obtain ⟨a, xs, c, rfl, _, hU⟩ := Open.u64s Try.underlying22 Try.underlying23 (by kernel_rfl) (hval 0 22 v0 rfl rfl) h0
  obtain ⟨t, p, rfl, u0, u1⟩ := Open.agg2_of Try.underlying25 (by kernel_rfl) (by kernel_rfl) Try.underlying3 Try.underlying23 (hval 1 25 v1 rfl rfl) h1
  obtain ⟨u, q, rfl, u2, u3⟩ := Open.agg2_of Try.underlying25 (by kernel_rfl) (by kernel_rfl) Try.underlying3 Try.underlying23 (hval 2 25 v2 rfl rfl) h2
  exact walk a c xs t p u q W hU

/-! THE ROW's STEP -/
set_option maxRecDepth 100000 in
theorem lifted (os : Os) (started : os.Started) (H : Type) (enc : TypeId × Value → H) :
    ReturnsInHanded {} Try.checked os 3 .any (Rows.gateAfterSpec.pre6 enc Try.prog Try.f3 Rows.gateAfterRow.domain false) (Rows.gateAfterSpec.post enc Try.prog Try.f3 false true false false) := by
  refine returnsInHanded_of_change (C := Try.checked) Lift.own started (by kernel_rfl) Try.func3
    (ChangeSpec.witness6 (enc := enc) (C := Try.checked) false ⟨#[], #[.slice none 0 0, .agg #[.int .i64 0, .int .u64 0], .agg #[.int .i64 0, .int .u64 0]], []⟩ 8 (by kernel_rfl) (by kernel_rfl) (by kernel_rfl) (by kernel_rfl)) ?_
  intro W base args ds gs before hval0 hW hcnd _
  have hval : ∀ (j : Nat) t v, Try.f3.params[j]? = some t → args[j]? = some v → Value.okWide Try.prog W .any base t v := hval0
  have hW' := hW
  obtain ⟨p, q, hA0, hV, rfl, hfz, hnd⟩ := hW
  have hA : DataW.TrodAll enc Try.prog W 0 (fun _ => true) true Try.f3.params.toList args.toList ds p := hA0
  have hlen : ds.length = 3 := by
    have hl := Lift.trodAll_len _ _ _ _ hA
    rw [Try.params3] at hl
    simpa using hl
  have hall := fun W' (hb : Below W.heap.size W W') => Lift.trodAll_below Lift.laidOut hb Try.f3.params.toList args.toList ds p (by kernel_rfl) hA
  obtain ⟨rfl, rfl⟩ := trodVars_none hV
  refine (contract H enc W base args ds p hval hA).mono fun e W' ⟨he, bel⟩ => ?_
  subst he
  have hspec : (Rows.gateAfterSpec.fn H (ds ++ [])).results = [.lit (.bool true)] ∧ (Rows.gateAfterSpec.fn H (ds ++ [])).args = ds ∧ (Rows.gateAfterSpec.fn H (ds ++ [])).vars = [] := by
    match ds, hlen with
    | [d1, d2, d3], _ => exact ⟨rfl, rfl, rfl⟩
  exact ⟨_, rfl, _, _, _, [], _, [], hW', by rw [hspec.1]; exact trodAll_mk1 (shut_bool Try.underlying4 _), by rw [hspec.2.1]; exact hall W' bel, by rw [hspec.2.2]; rfl, bel.frame _, fun h => by cases h⟩

theorem over : Rows.gateAfterRow.holds Try.pinned (OpenSpec.ofChange Rows.gateAfterSpec) :=
  OpenClaim.holds_of_wide 3 Try.f3 rfl rfl rfl rfl rfl rfl rfl ⟨rfl, rfl, rfl, rfl, rfl⟩ rfl rfl rfl rfl rfl (by kernel_rfl) Try.func3 (by kernel_rfl)
    (of_decide_eq_true (by kernel_rfl)) (by unfold Func.isWrapper; first | (rw [if_pos (by decide +kernel)]; kernel_rfl) | (rw [if_neg (by decide +kernel)]; exact ⟨rfl, rfl⟩))
    (fun os started H enc _ => lifted os started H enc)

theorem proved : Rows.GateAfterSaid := over
#print axioms proved
end Go.Proofs.Ytaeifmfghnolcaa.gateAfter
