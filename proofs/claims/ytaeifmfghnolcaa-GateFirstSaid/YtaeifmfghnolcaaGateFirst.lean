/-
  GateFirst: for any candidates: gate.Sort's row has each at the document's place, who is first is its thread, and the argument stays. No condition.
-/
import Derived.Test.YtaeifmfghnolcaaLift
import Derived.Test.YtaeifmfghnolcaaGateCands
import Derived.Test.YtaeifmfghnolcaaGateSortW
import Derived.Test.YtaeifmfghnolcaaOpen
import Derived.BigQuiet
import Derived.Laws.StructEq
namespace Go.Proofs.Ytaeifmfghnolcaa.gateFirst
open Go.ChangeShapes Go.WideShapes Go.ChangeAt Go.RowKit RefP GateP
set_option linter.unusedVariables false
set_option linter.unusedSimpArgs false

theorem cands_of_nums {w : World} {a : Option Addr} {n : Nat} {K : Nat → IntKind} {F : Nat → Nat → Int} (h : Nums w a n 2 K F) (h0 : K 0 = .i64) (h1 : K 1 = .u64) : ∃ l : List (Int × Int), l.length = n ∧ Cands w a l := by
  refine ⟨(List.range n).map (fun i => (F i 0, F i 1)), by simp, ?_⟩
  have hl : ((List.range n).map (fun i => (F i 0, F i 1))).length = n := by simp
  have hat : ∀ i, i < n → at2 ((List.range n).map (fun i => (F i 0, F i 1))) i = (F i 0, F i 1) := fun i hi => by simp [at2, hi]
  refine ⟨⟨fun hp => ?_⟩, fun x hx => ?_, by rw [hl]; exact h.len⟩
  · rw [hl] at hp ⊢
    obtain ⟨b, off, ha, hb, hc⟩ := h.get (by omega)
    refine ⟨b, off, ha, hb, fun j hj => ?_⟩
    by_cases e : j % 2 = 0
    · have := hc (j / 2) 0 (by omega) (by omega)
      rw [show j / 2 * 2 + 0 = j by omega, h0] at this
      rw [this]; unfold candF; rw [hat _ (by omega), if_pos e]
    · have := hc (j / 2) 1 (by omega) (by omega)
      rw [show j / 2 * 2 + 1 = j by omega, h1] at this
      rw [this]; unfold candF; rw [hat _ (by omega), if_neg e]
  · obtain ⟨i, hi, rfl⟩ := List.mem_map.1 hx
    have hi := List.mem_range.1 hi
    have w0 := h.wf i 0 hi (by omega)
    have w1 := h.wf i 1 hi (by omega)
    rw [h0] at w0
    rw [h1] at w1
    exact ⟨Lift.i64_range w0, Lift.u64_range w1⟩

set_option maxRecDepth 100000 in
set_option maxHeartbeats 1600000 in
theorem walk (a : Option Addr) (c : Nat) (l : List (Int × Int)) (w : World) (h : Cands w a l) :
    Calls Try.prog 6 #[.slice a l.length c] w fun e w' => e = .returned (.bool true) ∧ Below w.heap.size w w' := by
  have hlen := h.len
  by_cases hbig : 100 < l.length
  · go_enter Try.func6, Try.ntmps6
    go_wp2_with fail
    refine (lives_any _).mono ?_
    rintro e w1 ⟨rfl, hb1⟩
    go_wp2_with fail
    go_ret
    exact ⟨rfl, by (repeat (first | exact Below.refl _ _ | assumption | refine below_alloc2 ?_ (by first | exact Nat.le_refl _ | omega) _ | refine Below.drew ?_ | refine below_drewN ?_ _ | refine below_push2 ?_ ‹_› (by first | exact Nat.le_refl _ | omega) | refine Below.setCell ?_ (by first | (simp; done) | (simp; omega) | omega) _))⟩
  · go_enter Try.func6, Try.ntmps6
    go_wp2_with fail
    refine (cands_any _ _ l _ (h.below (by (repeat (first | exact Below.refl _ _ | assumption | refine below_alloc2 ?_ (by first | exact Nat.le_refl _ | omega) _ | refine Below.drew ?_ | refine below_drewN ?_ _ | refine below_push2 ?_ ‹_› (by first | exact Nat.le_refl _ | omega) | refine Below.setCell ?_ (by first | (simp; done) | (simp; omega) | omega) _)))) (by omega)).mono ?_
    rintro e w1 ⟨ao, co, rfl, hO1, hb1⟩
    go_wp2_with fail
    refine (sort_any _ _ l _ hO1 (by omega)).mono ?_
    rintro e w2 ⟨g, cs, s, rfl, hS2, hsorted, hperm, hb2⟩
    have hO2 := hO1.below hb2
    by_cases hz : l.length = 0
    · have e1 : firstT l = 0 := by simp [firstT, hz]
      have e2 : firstB l = false := by simp [firstB, hz]
      have hf := fun W (hW : Cands W ao l) => first_any ao co l W hW
      rw [e1, e2, hz] at hf
      have q0 : decide ((0 : Int) < (l.length : Int)) = false := by simp [hz]
      clear e1 e2
      go_wp2_with fail
      refine (hf _ hO2).mono ?_
      rintro e w3 ⟨rfl, hb3⟩
      have hB3 : Below w.heap.size w w3 := by (repeat (first | exact Below.refl _ _ | assumption | refine below_alloc2 ?_ (by first | exact Nat.le_refl _ | omega) _ | refine Below.drew ?_ | refine below_drewN ?_ _ | refine below_push2 ?_ ‹_› (by first | exact Nat.le_refl _ | omega) | refine Below.setCell ?_ (by first | (simp; done) | (simp; omega) | omega) _))
      clear hf hO1 hO2 hS2 hb1 hb2 hb3
      go_wp2_with fail
      go_loopw [44] (fun i wr => i = .int .i64 0 ∧ Below w.heap.size w wr) (fun i _ => 0)
      case atStart => exact ⟨rfl, hB3⟩
      case round =>
        obtain ⟨rfl, hbr⟩ := hrel
        go_wp2_with fail
        refine (lives_any _).mono ?_
        rintro e w4 ⟨rfl, hb4⟩
        go_wp2_with fail
        go_ret
        exact ⟨rfl, by (repeat (first | exact Below.refl _ _ | assumption | refine below_alloc2 ?_ (by first | exact Nat.le_refl _ | omega) _ | refine Below.drew ?_ | refine below_drewN ?_ _ | refine below_push2 ?_ ‹_› (by first | exact Nat.le_refl _ | omega) | refine Below.setCell ?_ (by first | (simp; done) | (simp; omega) | omega) _))⟩
    · have e2 : firstB l = true := by simp [firstB, hz]
      have hf := fun W (hW : Cands W ao l) => first_any ao co l W hW
      rw [e2] at hf
      have q0 : decide ((0 : Int) < (l.length : Int)) = true := by simp; omega
      clear e2
      go_wp2_with fail
      refine (hf _ hO2).mono ?_
      rintro e w3 ⟨rfl, hb3⟩
      have hO3 := hO2.below hb3
      have hS3 := hS2.below hb3
      have hB3 : Below w.heap.size w w3 := by (repeat (first | exact Below.refl _ _ | assumption | refine below_alloc2 ?_ (by first | exact Nat.le_refl _ | omega) _ | refine Below.drew ?_ | refine below_drewN ?_ _ | refine below_push2 ?_ ‹_› (by first | exact Nat.le_refl _ | omega) | refine Below.setCell ?_ (by first | (simp; done) | (simp; omega) | omega) _))
      have hL3 := h.below hB3
      have hsl : s.length = l.length := hperm.length_eq
      clear hf hO1 hO2 hS2 hb1 hb2 hb3
      go_wp2_with fail
      go_loopw [44] (fun i wr => ∃ k : Nat, k ≤ l.length ∧ i = .int .i64 k ∧ Below w3.heap.size w3 wr) (fun i _ => l.length - (intOf i).toNat)
      case atStart => exact ⟨0, Nat.zero_le _, rfl, Below.refl _ _⟩
      case round =>
        obtain ⟨k, hk, rfl, hbr⟩ := hrel
        by_cases hlt : k < l.length
        · have hlt' : (k : Int) < (l.length : Int) := by omega
          go_wp2_with fail
          refine (place_any _ _ l k _ (hL3.below hbr) hlt).mono ?_
          rintro e w4 ⟨rfl, hb4⟩
          have hb34 := below_push2 hbr hb4 (Nat.le_refl _)
          obtain ⟨hsp, hpl⟩ := sort_place l s hsorted hperm k hlt
          obtain ⟨bl, ol, el, _, l0, l1⟩ := (hL3.below hb34).cell k hlt
          obtain ⟨bo, oo, eo, _, o0, o1⟩ := (hO3.below hb34).cell k hlt
          obtain ⟨bs, os, es, _, s0, s1⟩ := (hS3.below hb34).cell (placeI l k) hpl
          subst el eo
          simp only [Option.some.injEq, Addr.mk.injEq, and_true] at es
          obtain ⟨rfl, rfl⟩ := es
          rw [hsp, Nat.zero_add] at s0 s1
          rw [hsl] at hpl
          have hpl' : ((placeI l k : Nat) : Int) < (l.length : Int) := by omega
          clear hsp
          by_cases hp0 : placeI l k = 0
          · have hfp := first_place l k hlt hp0
            have hne : (firstT l != (at2 l k).1) = false := by simp [firstT, hz, hfp]
            have hq : (((placeI l k : Nat) : Int) == 0) = true := by simp [hp0]
            clear hfp hp0
            go_upto_region 12 with (fail)
            go_quiet (fail)
            go_wp2_with fail
            go_roundw
            case rel => exact ⟨k + 1, by omega, by go_num, below_drewN hb34 _⟩
            case measure => simp [intOf]; omega
          · have hq : (((placeI l k : Nat) : Int) == 0) = false := by simp [hp0]
            clear hp0
            go_upto_region 12 with (fail)
            go_quiet (fail)
            go_wp2_with fail
            go_roundw
            case rel => exact ⟨k + 1, by omega, by go_num, below_drewN hb34 _⟩
            case measure => simp [intOf]; omega
        · obtain rfl : k = l.length := by omega
          go_wp2_with fail
          refine (lives_any _).mono ?_
          rintro e w4 ⟨rfl, hb4⟩
          go_wp2_with fail
          go_ret
          exact ⟨rfl, by (repeat (first | exact Below.refl _ _ | assumption | refine below_alloc2 ?_ (by first | exact Nat.le_refl _ | omega) _ | refine Below.drew ?_ | refine below_drewN ?_ _ | refine below_push2 ?_ ‹_› (by first | exact Nat.le_refl _ | omega) | refine Below.setCell ?_ (by first | (simp; done) | (simp; omega) | omega) _))⟩

set_option maxRecDepth 100000 in
theorem contract (H : Type) (enc : TypeId × Value → H) (W : World) (base : Nat) (args : Array Value) (ds : List (DataW H)) (p : List MemPlace)
    (hval : ∀ (j : Nat) t v, Try.f6.params[j]? = some t → args[j]? = some v → Value.okWide Try.prog W .any base t v)
    (hA : DataW.TrodAll enc Try.prog W 0 (fun _ => true) true Try.f6.params.toList args.toList ds p) :
    Calls Try.prog 6 args W fun e W' => e = .returned (.bool true) ∧ Below W.heap.size W W' := by
  rw [Try.params6] at hA hval
  obtain ⟨v0, vs0, d0, ds0, p0, q0, hargs, rfl, rfl, h0, r0⟩ := trodAll_cons hA
  obtain ⟨rfl, rfl, rfl⟩ := trodAll_nil r0
  obtain rfl : args = #[v0] := by cases args; simp_all
  obtain ⟨a, n, c, F, rfl, _, hN⟩ := Open.nums_of (fun j => if j = 0 then .i64 else .u64) Try.underlying51 Try.underlying25 (by kernel_rfl) (by kernel_rfl) (by decide)
    (fun j f hj => by rcases j with _ | _ | j <;> simp at hj <;> subst hj <;> kernel_rfl) (hval 0 51 v0 rfl rfl) h0
  obtain ⟨l, rfl, hC⟩ := cands_of_nums hN rfl rfl
  exact walk a c l W hC

/-! THE ROW's STEP -/
set_option maxRecDepth 100000 in
theorem lifted (os : Os) (started : os.Started) (H : Type) (enc : TypeId × Value → H) :
    ReturnsInHanded {} Try.checked os 6 .any (Rows.gateFirstSpec.pre6 enc Try.prog Try.f6 Rows.gateFirstRow.domain false) (Rows.gateFirstSpec.post enc Try.prog Try.f6 false true false false) := by
  refine returnsInHanded_of_change (C := Try.checked) Lift.own started (by kernel_rfl) Try.func6
    (ChangeSpec.witness6 (enc := enc) (C := Try.checked) false ⟨#[], #[.slice none 0 0], []⟩ 8 (by kernel_rfl) (by kernel_rfl) (by kernel_rfl) (by kernel_rfl)) ?_
  intro W base args ds gs before hval0 hW hcnd _
  have hval : ∀ (j : Nat) t v, Try.f6.params[j]? = some t → args[j]? = some v → Value.okWide Try.prog W .any base t v := hval0
  have hW' := hW
  obtain ⟨p, q, hA0, hV, rfl, hfz, hnd⟩ := hW
  have hA : DataW.TrodAll enc Try.prog W 0 (fun _ => true) true Try.f6.params.toList args.toList ds p := hA0
  have hlen : ds.length = 1 := by
    have hl := Lift.trodAll_len _ _ _ _ hA
    rw [Try.params6] at hl
    simpa using hl
  have hall := fun W' (hb : Below W.heap.size W W') => Lift.trodAll_below Lift.laidOut hb Try.f6.params.toList args.toList ds p (by kernel_rfl) hA
  obtain ⟨rfl, rfl⟩ := trodVars_none hV
  refine (contract H enc W base args ds p hval hA).mono fun e W' ⟨he, bel⟩ => ?_
  subst he
  have hspec : (Rows.gateFirstSpec.fn H (ds ++ [])).results = [.lit (.bool true)] ∧ (Rows.gateFirstSpec.fn H (ds ++ [])).args = ds ∧ (Rows.gateFirstSpec.fn H (ds ++ [])).vars = [] := by
    match ds, hlen with
    | [d1], _ => exact ⟨rfl, rfl, rfl⟩
  exact ⟨_, rfl, _, _, _, [], _, [], hW', by rw [hspec.1]; exact trodAll_mk1 (shut_bool Try.underlying4 _), by rw [hspec.2.1]; exact hall W' bel, by rw [hspec.2.2]; rfl, bel.frame _, fun h => by cases h⟩

theorem over : Rows.gateFirstRow.holds Try.pinned (OpenSpec.ofChange Rows.gateFirstSpec) :=
  OpenClaim.holds_of_wide 6 Try.f6 rfl rfl rfl rfl rfl rfl rfl ⟨rfl, rfl, rfl, rfl, rfl⟩ rfl rfl rfl rfl rfl (by kernel_rfl) Try.func6 (by kernel_rfl)
    (of_decide_eq_true (by kernel_rfl)) (by unfold Func.isWrapper; first | (rw [if_pos (by decide +kernel)]; kernel_rfl) | (rw [if_neg (by decide +kernel)]; exact ⟨rfl, rfl⟩))
    (fun os started H enc _ => lifted os started H enc)

theorem proved : Rows.GateFirstSaid := over
#print axioms proved
end Go.Proofs.Ytaeifmfghnolcaa.gateFirst
