/-
  HazardSifts: for any two rows of words and any numbers: what is named, sifted, freed, and how much room there is, is the document's. No condition.
-/
import Derived.Test.YtaeifmfghnolcaaLift
import Derived.Test.YtaeifmfghnolcaaHazLives
import Derived.Test.YtaeifmfghnolcaaOpen
namespace Go.Proofs.Ytaeifmfghnolcaa.hazardSifts
open Go.ChangeShapes Go.WideShapes Go.ChangeAt Go.RowKit RefP HazP
set_option linter.unusedVariables false
set_option linter.unusedSimpArgs false

set_option maxRecDepth 100000 in
set_option maxHeartbeats 3200000 in
theorem walk (a b : Option Addr) (c d : Nat) (l nm : List Int) (t r : Int) (w : World) (h : U64s w a l) (hn : U64s w b nm) (t0 : -9223372036854775808 ≤ t) (t1 : t ≤ 9223372036854775807) (r0 : -9223372036854775808 ≤ r) (r1 : r ≤ 9223372036854775807) :
    Calls Try.prog 12 #[.slice a l.length c, .slice b nm.length d, .int .i64 t, .int .i64 r] w fun e w' => e = .returned (.bool true) ∧ Below w.heap.size w w' := by
  have hlen := h.len
  have hlen2 := hn.len
  by_cases hbig : 200 < l.length
  · have d1 : decide ((200 : Int) < (l.length : Int)) = true := by simp; omega
    go_enter Try.func12, Try.ntmps12
    go_wp2_with fail
    refine (lives_any _).mono ?_
    rintro e w1 ⟨rfl, hb1⟩
    go_wp2_with fail
    go_ret
    exact ⟨rfl, hb1⟩
  have d1 : decide ((200 : Int) < (l.length : Int)) = false := by simp; omega
  by_cases hbig2 : 200 < nm.length
  · have d2 : decide ((200 : Int) < (nm.length : Int)) = true := by simp; omega
    go_enter Try.func12, Try.ntmps12
    go_wp2_with fail
    refine (lives_any _).mono ?_
    rintro e w1 ⟨rfl, hb1⟩
    go_wp2_with fail
    go_ret
    exact ⟨rfl, hb1⟩
  have d2 : decide ((200 : Int) < (nm.length : Int)) = false := by simp; omega
  have hs1 := siftL_length l nm true
  have hs2 := siftL_length l nm false
  have hs3 := siftL_both l nm
  have hs4 : ((siftL l nm true).length : Int) + ((siftL l nm false).length : Int) = (l.length : Int) := by omega
  go_enter Try.func12, Try.ntmps12
  go_wp2_with fail
  refine (sift_any _ _ _ _ l nm _ h hn (by omega)).mono ?_
  rintro e w1 ⟨ya, yc, na, nc, rfl, Y, N, hb1⟩
  have UY := Y.words (by omega)
  have UN := N.words (by omega)
  have H1 := h.below hb1
  have HN1 := hn.below hb1
  clear Y N
  go_wp2_with fail
  go_loopw [30] (fun i wr => ∃ k : Nat, k ≤ l.length ∧ i = .int .i64 k ∧ Below w1.heap.size w1 wr) (fun i _ => l.length - (intOf i).toNat)
  case atStart => exact ⟨0, Nat.zero_le _, rfl, Below.refl _ _⟩
  case round =>
    obtain ⟨k, hk, rfl, hb⟩ := hrel
    by_cases hlt : k < l.length
    · have HN := HN1.below hb
      obtain ⟨b', off, rfl, hbl, hc⟩ := (H1.below hb).cell k hlt
      have hx := h.rngD k
      have hlt' : (k : Int) < (l.length : Int) := by omega
      go_wp2_with fail
      refine (named_any _ _ _ _ _ HN).mono ?_
      rintro e w2 ⟨rfl, rfl⟩
      go_wp2_with fail
      refine (dnamed_any _ _ _ _ _ HN).mono ?_
      rintro e w2 ⟨rfl, rfl⟩
      go_wp2_with fail
      refine (freed_any _ _ hx.1 hx.2).mono ?_
      rintro e w2 ⟨rfl, hb2⟩
      go_wp2_with fail
      refine (dfreed_any _ _ hx.1 hx.2).mono ?_
      rintro e w3 ⟨rfl, rfl⟩
      go_wp2_with fail
      go_roundw
      case rel => exact ⟨k + 1, by omega, by go_num, below_push2 hb hb2 (Nat.le_refl _)⟩
      case measure => simp [intOf]; omega
    · obtain rfl : k = l.length := by omega
      have H2 := H1.below hb
      have HN2 := HN1.below hb
      have UY2 := UY.below hb
      have UN2 := UN.below hb
      have E2 := below_push2 hb1 hb (Nat.le_refl _)
      clear H1 HN1 UY UN hb hb1
      go_wp2_with fail
      refine (dsift_any _ _ _ _ l nm true _ H2 HN2 (by omega)).mono ?_
      rintro e w3 ⟨a3, c3, rfl, O3, hb3⟩
      have U3 := O3.words (by omega)
      go_wp2_with fail
      refine (same_any _ _ _ _ _ _ (UY2.below hb3) U3).mono ?_
      rintro e w4 ⟨rfl, hb4⟩
      have B4 := below_push2 hb3 hb4 (Nat.le_refl _)
      have E4 := below_push2 E2 B4 (Nat.le_refl _)
      have UN4 := UN2.below B4
      have H4 := H2.below B4
      have HN4 := HN2.below B4
      clear O3 U3 UY2 UN2 H2 HN2 hb3 hb4 B4 E2
      go_wp2_with fail
      refine (dsift_any _ _ _ _ l nm false _ H4 HN4 (by omega)).mono ?_
      rintro e w5 ⟨a5, c5, rfl, O5, hb5⟩
      have U5 := O5.words (by omega)
      go_wp2_with fail
      refine (same_any _ _ _ _ _ _ (UN4.below hb5) U5).mono ?_
      rintro e w6 ⟨rfl, hb6⟩
      have E6 := below_push2 (below_push2 E4 hb5 (Nat.le_refl _)) hb6 (Nat.le_refl _)
      clear O5 U5 UN4 H4 HN4 hb5 hb6 E4
      go_wp2_with fail
      refine (room_any _ _ _ t0 t1 r0 r1).mono ?_
      rintro e w7 ⟨rfl, rfl⟩
      go_wp2_with fail
      refine (droom_any _ _ _ t0 t1 r0 r1).mono ?_
      rintro e w7 ⟨rfl, rfl⟩
      go_wp2_with fail
      refine (lives_any _).mono ?_
      rintro e w8 ⟨rfl, hb8⟩
      go_wp2_with fail
      go_ret
      exact ⟨rfl, below_push2 E6 hb8 (Nat.le_refl _)⟩

set_option maxRecDepth 100000 in
theorem contract (H : Type) (enc : TypeId × Value → H) (W : World) (base : Nat) (args : Array Value) (ds : List (DataW H)) (p : List MemPlace)
    (hval : ∀ (j : Nat) t v, Try.f12.params[j]? = some t → args[j]? = some v → Value.okWide Try.prog W .any base t v)
    (hA : DataW.TrodAll enc Try.prog W 0 (fun _ => true) true Try.f12.params.toList args.toList ds p) :
    Calls Try.prog 12 args W fun e W' => e = .returned (.bool true) ∧ Below W.heap.size W W' := by
  rw [Try.params12] at hA hval
  obtain ⟨v0, vs0, d0, ds0, p0, q0, hargs, rfl, rfl, h0, r0⟩ := trodAll_cons hA
  obtain ⟨v1, vs1, d1, ds1, p1, q1, rfl, rfl, rfl, h1, r1⟩ := trodAll_cons r0
  obtain ⟨v2, vs2, d2, ds2, p2, q2, rfl, rfl, rfl, h2, r2⟩ := trodAll_cons r1
  obtain ⟨v3, vs3, d3, ds3, p3, q3, rfl, rfl, rfl, h3, r3⟩ := trodAll_cons r2
  obtain ⟨rfl, rfl, rfl⟩ := trodAll_nil r3
  obtain rfl : args = #[v0, v1, v2, v3] := by cases args; simp_all
  obtain ⟨a, l, c, rfl, _, hU⟩ := Open.u64s Try.underlying22 Try.underlying23 (by kernel_rfl) (hval 0 22 v0 rfl rfl) h0
  obtain ⟨b, nm, d, rfl, _, hN⟩ := Open.u64s Try.underlying22 Try.underlying23 (by kernel_rfl) (hval 1 22 v1 rfl rfl) h1
  obtain ⟨a2, rfl, w2⟩ := Lift.int_of Try.underlying3 (hval 2 3 v2 rfl rfl) h2
  obtain ⟨a3, rfl, w3⟩ := Lift.int_of Try.underlying3 (hval 3 3 v3 rfl rfl) h3
  have u2 := Lift.i64_range w2
  have u3 := Lift.i64_range w3
  exact walk a b c d l nm a2 a3 W hU hN u2.1 u2.2 u3.1 u3.2

/-! THE ROW's STEP -/
set_option maxRecDepth 100000 in
theorem lifted (os : Os) (started : os.Started) (H : Type) (enc : TypeId × Value → H) :
    ReturnsInHanded {} Try.checked os 12 .any (Rows.hazardSiftsSpec.pre6 enc Try.prog Try.f12 Rows.hazardSiftsRow.domain false) (Rows.hazardSiftsSpec.post enc Try.prog Try.f12 false true false false) := by
  refine returnsInHanded_of_change (C := Try.checked) Lift.own started (by kernel_rfl) Try.func12
    (ChangeSpec.witness6 (enc := enc) (C := Try.checked) false ⟨#[], #[.slice none 0 0, .slice none 0 0, .int .i64 0, .int .i64 0], []⟩ 8 (by kernel_rfl) (by kernel_rfl) (by kernel_rfl) (by kernel_rfl)) ?_
  intro W base args ds gs before hval0 hW hcnd _
  have hval : ∀ (j : Nat) t v, Try.f12.params[j]? = some t → args[j]? = some v → Value.okWide Try.prog W .any base t v := hval0
  have hW' := hW
  obtain ⟨p, q, hA0, hV, rfl, hfz, hnd⟩ := hW
  have hA : DataW.TrodAll enc Try.prog W 0 (fun _ => true) true Try.f12.params.toList args.toList ds p := hA0
  have hlen : ds.length = 4 := by
    have hl := Lift.trodAll_len _ _ _ _ hA
    rw [Try.params12] at hl
    simpa using hl
  have hall := fun W' (hb : Below W.heap.size W W') => Lift.trodAll_below Lift.laidOut hb Try.f12.params.toList args.toList ds p (by kernel_rfl) hA
  obtain ⟨rfl, rfl⟩ := trodVars_none hV
  refine (contract H enc W base args ds p hval hA).mono fun e W' ⟨he, bel⟩ => ?_
  subst he
  have hspec : (Rows.hazardSiftsSpec.fn H (ds ++ [])).results = [.lit (.bool true)] ∧ (Rows.hazardSiftsSpec.fn H (ds ++ [])).args = ds ∧ (Rows.hazardSiftsSpec.fn H (ds ++ [])).vars = [] := by
    match ds, hlen with
    | [d1, d2, d3, d4], _ => exact ⟨rfl, rfl, rfl⟩
  exact ⟨_, rfl, _, _, _, [], _, [], hW', by rw [hspec.1]; exact trodAll_mk1 (shut_bool Try.underlying4 _), by rw [hspec.2.1]; exact hall W' bel, by rw [hspec.2.2]; rfl, bel.frame _, fun h => by cases h⟩

theorem over : Rows.hazardSiftsRow.holds Try.pinned (OpenSpec.ofChange Rows.hazardSiftsSpec) :=
  OpenClaim.holds_of_wide 12 Try.f12 rfl rfl rfl rfl rfl rfl rfl ⟨rfl, rfl, rfl, rfl, rfl⟩ rfl rfl rfl rfl rfl (by kernel_rfl) Try.func12 (by kernel_rfl)
    (of_decide_eq_true (by kernel_rfl)) (by unfold Func.isWrapper; first | (rw [if_pos (by decide +kernel)]; kernel_rfl) | (rw [if_neg (by decide +kernel)]; exact ⟨rfl, rfl⟩))
    (fun os started H enc _ => lifted os started H enc)

theorem proved : Rows.HazardSiftsSaid := over
#print axioms proved
end Go.Proofs.Ytaeifmfghnolcaa.hazardSifts
