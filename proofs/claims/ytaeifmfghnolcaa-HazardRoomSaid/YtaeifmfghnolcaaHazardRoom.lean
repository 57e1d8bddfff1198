/-
  HazardRoom: whoever keeps what others name has room for as many words as were promised. No condition.
-/
import Derived.Test.YtaeifmfghnolcaaLift
import Derived.Test.YtaeifmfghnolcaaHazLives
import Derived.Test.YtaeifmfghnolcaaOpen
namespace Go.Proofs.Ytaeifmfghnolcaa.hazardRoom
open Go.ChangeShapes Go.WideShapes Go.ChangeAt Go.RowKit RefP HazP
set_option linter.unusedVariables false
set_option linter.unusedSimpArgs false

def numsTo (k : Nat) : List Int := (List.range k).map (fun (i : Nat) => (i : Int) + 1)
theorem numsTo_length (k : Nat) : (numsTo k).length = k := by simp [numsTo]
theorem numsTo_succ (k : Nat) : numsTo (k + 1) = numsTo k ++ [(k : Int) + 1] := by simp [numsTo, List.range_succ]
theorem numsTo_nodup (k : Nat) : (numsTo k).Nodup := by
  induction k with
  | zero => simp [numsTo]
  | succ k ih =>
    rw [numsTo_succ]
    refine List.nodup_append.2 ⟨ih, by simp, ?_⟩
    intro a ha b hb
    simp only [numsTo, List.mem_map, List.mem_range] at ha
    obtain ⟨i, hi, rfl⟩ := ha
    simp only [List.mem_singleton] at hb
    omega
theorem nodup_le : ∀ (nm l : List Int), l.Nodup → (∀ x ∈ l, x ∈ nm) → l.length ≤ nm.length := by
  intro nm
  induction nm with
  | nil =>
    intro l _ h
    cases l with
    | nil => simp
    | cons x l => exact absurd (h x (by simp)) (by simp)
  | cons y nm ih =>
    intro l hl h
    by_cases hy : y ∈ l
    · have h1 := ih (l.erase y) (hl.erase y) (fun x hx => by
        have h2 := (hl.mem_erase_iff).1 hx
        rcases List.mem_cons.1 (h x h2.2) with e | e
        · exact absurd e h2.1
        · exact e)
      rw [List.length_erase_of_mem hy] at h1
      simp only [List.length_cons]
      omega
    · have h1 := ih l hl (fun x hx => by
        rcases List.mem_cons.1 (h x hx) with e | e
        · subst e; exact absurd hx hy
        · exact e)
      simp only [List.length_cons]
      omega
theorem kept_le (k : Nat) (nm : List Int) : (siftL (numsTo k) nm true).length ≤ nm.length := by
  refine nodup_le nm _ ((numsTo_nodup k).filter _) (fun x hx => ?_)
  have := (List.mem_filter.1 hx).2
  simp only [beq_true] at this
  exact memB_iff.1 this
theorem listGe {w : World} {base o : Nat} {r : Int} {a : Option Addr} {c : Nat} {l : List Int} (h : ListAt w base o r a c l) : ∀ p, a = some p → base ≤ p.block := fun p e => (h.own.lt p.block (by rw [e]; rfl)).1
set_option maxRecDepth 100000 in
set_option maxHeartbeats 3200000 in
theorem walk (a : Option Addr) (c : Nat) (nm : List Int) (t r : Int) (w : World) (h : U64s w a nm) (hc : nm.length ≤ c) (t0 : 0 ≤ t) (t1 : t ≤ 255) (r0 : 0 ≤ r) (r1 : r ≤ 255) :
    Calls Try.prog 11 #[.int .u8 t, .int .u8 r, .slice a nm.length c] w fun e w' => e = .returned (.bool true) ∧ Below w.heap.size w w' := by
  have hlen := h.len
  obtain ⟨T, hT⟩ : ∃ T : Nat, t % 16 + 1 = (T : Int) := ⟨(t % 16 + 1).toNat, by omega⟩
  obtain ⟨R, hR⟩ : ∃ R : Nat, r % 40 + 1 = (R : Int) := ⟨(r % 40 + 1).toNat, by omega⟩
  have T0 : 1 ≤ T ∧ T ≤ 16 := by omega
  have R0 : 1 ≤ R ∧ R ≤ 40 := by omega
  obtain ⟨S, hS⟩ : ∃ S : Nat, S = 2 * T + R := ⟨_, rfl⟩
  have hroom : roomI (T : Int) (R : Int) = (S : Int) := by unfold roomI; rw [if_neg (by omega)]; omega
  have hS1 : 2 * T + R ≤ S := by omega
  have hS2 : S ≤ 2 * T + R := by omega
  clear hS
  by_cases hbig : 2 * T < nm.length
  · have d1 : decide (2 * (T : Int) < (nm.length : Int)) = true := by simp; omega
    have b1 : 2 * (T : Int) < (nm.length : Int) := by omega
    have b2 : 2 * (T : Int) ≤ (c : Int) := by omega
    obtain ⟨m, hm, hU⟩ : ∃ m : List Int, m.length = 2 * T ∧ U64s w a m := by
      have e : (nm.take (2 * T)).length = 2 * T := by simp; omega
      refine ⟨nm.take (2 * T), e, ⟨⟨fun h0 => ?_⟩, fun x hx => h.rng x (List.mem_of_mem_take hx), by omega⟩⟩
      obtain ⟨b, off, ha, hb, hcc⟩ := h.row.get (by omega)
      refine ⟨b, off, ha, hb, fun i hi => ?_⟩
      rw [hcc i (by omega)]
      unfold u64F
      rw [at0_take nm (2 * T) i (by omega)]
    have hN : 2 * T ≤ 2 * T := Nat.le_refl _
    go_enter Try.func11, Try.ntmps11
    go_wp2_with fail
    have hrm := room_any (T : Int) (R : Int) w (by omega) (by omega) (by omega) (by omega)
    rw [hroom] at hrm
    refine hrm.mono ?_
    rintro e w1 ⟨rfl, rfl⟩
    clear hrm hroom
    go_wp2_with fail
    refine (hazNew_yes (S : Int) w (by omega) (by omega)).mono ?_
    rintro e w1 ⟨⟨o, rfl, ho, hL⟩, hb1⟩
    have L1 := hL w.heap.size (Nat.le_refl _)
    clear hL
    go_wp2_with fail
    go_loopw [10] (fun u10 wr => ∃ (k : Nat) (ax : Option Addr) (cx : Nat), k ≤ S ∧ u10 = .int .u64 ((k : Int) + 1) ∧ ListAt wr w.heap.size o (S : Int) ax cx (numsTo k) ∧ Below w.heap.size w wr) (fun i _ => S + 5 - (intOf i).toNat)
    case atStart => exact ⟨0, none, 0, Nat.zero_le _, rfl, L1, hb1⟩
    case round =>
      clear L1 hb1
      obtain ⟨k, ax, cx, hk, rfl, L, hb⟩ := hrel
      have hbs := hb.size
      have hf := full_any wr w.heap.size o (S : Int) ax cx (numsTo k) L
      rw [numsTo_length] at hf
      by_cases hlt : k < S
      · have hlt1 : ((k : Int) + 1) < 2000 := by omega
        rw [show decide ((S : Int) ≤ (k : Int)) = false by simp; omega] at hf
        have hk1 : (k : Int) + 1 + 1 ≤ 18446744073709551615 := by omega
        have hk0 : (0 : Int) ≤ (k : Int) + 1 + 1 := by omega
        go_wp2_with fail
        refine hf.mono ?_
        rintro e w2 ⟨rfl, hb2⟩
        have hbs2 := hb2.size
        go_wp2_with fail
        refine (add_yes w2 w.heap.size o (S : Int) ax cx (numsTo k) ((k : Int) + 1) (L.below hb2) (by rw [numsTo_length]; omega) (by omega) (by omega)).mono ?_
        rintro e w3 ⟨⟨a3, c3, rfl, L3, _⟩, C3⟩
        rw [← numsTo_succ] at L3
        have hb3 := C3.below (below_push2 hb hb2 (Nat.le_refl _)) (Nat.le_refl _) ho (listGe L)
        go_wp2_with fail
        go_roundw
        case rel => exact ⟨k + 1, a3, c3, by omega, by go_num, L3, hb3⟩
        case measure => simp [intOf]; omega
      · obtain rfl : k = S := by omega
        rw [show decide ((k : Int) ≤ (k : Int)) = true by simp] at hf
        go_wp2_with fail
        refine hf.mono ?_
        rintro e w2 ⟨rfl, hb2⟩
        have L2 := L.below hb2
        have B2 := below_push2 hb hb2 (Nat.le_refl _)
        clear hf L hb hb2
        go_wp2_with fail
        refine (words_any w2 o (k : Int) ax cx (numsTo k) L2.head L2.words (by rw [numsTo_length]; omega)).mono ?_
        rintro e w3 ⟨a3, c3, rfl, O3, hb3⟩
        have U3 := O3.words (by rw [numsTo_length]; omega)
        have B3 := below_push2 B2 hb3 (Nat.le_refl _)
        have L3 := L2.below hb3
        have hs3 := siftL_length (numsTo k) m true
        rw [numsTo_length] at hs3
        have hkl := kept_le k m
        have hsv := sift_any a3 a c3 c (numsTo k) m w3 U3 (hU.below B3) (by rw [numsTo_length]; omega)
        rw [hm] at hsv hkl
        clear O3 B2 L2 hb3
        go_wp2_with fail
        refine hsv.mono ?_
        rintro e w4 ⟨ya, yc, na, nc, rfl, Y, N, hb4⟩
        have UY := Y.words (by omega)
        have L4 := L3.below hb4
        have B4 := below_push2 B3 hb4 (Nat.le_refl _)
        have hbs4 := B4.size
        clear hsv Y N hb4 L3 B3 U3
        go_wp2_with fail
        refine (keep_yes w4 w.heap.size o (k : Int) ax cx (numsTo k) ya yc (siftL (numsTo k) m true) L4 UY (by omega) (by omega)).mono ?_
        rintro e w5 ⟨⟨a5, c5, rfl, L5, _⟩, C5⟩
        have B5 := C5.below B4 (Nat.le_refl _) ho (by simp)
        clear UY L4 C5 B4
        go_wp2_with fail
        go_loopw [59] (fun u59 wx => ∃ (i : Nat) (ay : Option Addr) (cy : Nat) (l : List Int), i ≤ R ∧ u59 = .int .i64 i ∧ ListAt wx w.heap.size o (k : Int) ay cy l ∧ l.length ≤ 2 * T + i ∧ Below w.heap.size w wx) (fun i _ => R - (intOf i).toNat)
        case atStart => exact ⟨0, a5, c5, _, Nat.zero_le _, rfl, L5, by omega, B5⟩
        case round =>
          clear L5 B5
          obtain ⟨i, ay, cy, l, hi, rfl, L, hll, hb⟩ := hrel
          have hbs := hb.size
          by_cases hlt : i < R
          · have hlt' : (i : Int) < (R : Int) := by omega
            go_wp2_with fail
            refine (add_yes _ w.heap.size o (k : Int) ay cy l (5000 + (i : Int)) L (by omega) (by omega) (by omega)).mono ?_
            rintro e w6 ⟨⟨a6, c6, rfl, L6, _⟩, C6⟩
            have B6 := C6.below hb (Nat.le_refl _) ho (listGe L)
            go_wp2_with fail
            go_roundw
            case rel => exact ⟨i + 1, a6, c6, _, by omega, by go_num, L6, by simp; omega, B6⟩
            case measure => simp [intOf]; omega
          · obtain rfl : i = R := by omega
            go_wp2_with fail
            refine (lives_any _).mono ?_
            rintro e w6 ⟨rfl, hb6⟩
            go_wp2_with fail
            go_ret
            exact ⟨rfl, below_push2 hb hb6 (Nat.le_refl _)⟩
  · have d1 : decide (2 * (T : Int) < (nm.length : Int)) = false := by simp; omega
    obtain ⟨m, hm, hU⟩ : ∃ m : List Int, m.length = nm.length ∧ U64s w a m := ⟨nm, rfl, h⟩
    have hN : nm.length ≤ 2 * T := by omega
    go_enter Try.func11, Try.ntmps11
    go_wp2_with fail
    have hrm := room_any (T : Int) (R : Int) w (by omega) (by omega) (by omega) (by omega)
    rw [hroom] at hrm
    refine hrm.mono ?_
    rintro e w1 ⟨rfl, rfl⟩
    clear hrm hroom
    go_wp2_with fail
    refine (hazNew_yes (S : Int) w (by omega) (by omega)).mono ?_
    rintro e w1 ⟨⟨o, rfl, ho, hL⟩, hb1⟩
    have L1 := hL w.heap.size (Nat.le_refl _)
    clear hL
    go_wp2_with fail
    go_loopw [10] (fun u10 wr => ∃ (k : Nat) (ax : Option Addr) (cx : Nat), k ≤ S ∧ u10 = .int .u64 ((k : Int) + 1) ∧ ListAt wr w.heap.size o (S : Int) ax cx (numsTo k) ∧ Below w.heap.size w wr) (fun i _ => S + 5 - (intOf i).toNat)
    case atStart => exact ⟨0, none, 0, Nat.zero_le _, rfl, L1, hb1⟩
    case round =>
      clear L1 hb1
      obtain ⟨k, ax, cx, hk, rfl, L, hb⟩ := hrel
      have hbs := hb.size
      have hf := full_any wr w.heap.size o (S : Int) ax cx (numsTo k) L
      rw [numsTo_length] at hf
      by_cases hlt : k < S
      · have hlt1 : ((k : Int) + 1) < 2000 := by omega
        rw [show decide ((S : Int) ≤ (k : Int)) = false by simp; omega] at hf
        have hk1 : (k : Int) + 1 + 1 ≤ 18446744073709551615 := by omega
        have hk0 : (0 : Int) ≤ (k : Int) + 1 + 1 := by omega
        go_wp2_with fail
        refine hf.mono ?_
        rintro e w2 ⟨rfl, hb2⟩
        have hbs2 := hb2.size
        go_wp2_with fail
        refine (add_yes w2 w.heap.size o (S : Int) ax cx (numsTo k) ((k : Int) + 1) (L.below hb2) (by rw [numsTo_length]; omega) (by omega) (by omega)).mono ?_
        rintro e w3 ⟨⟨a3, c3, rfl, L3, _⟩, C3⟩
        rw [← numsTo_succ] at L3
        have hb3 := C3.below (below_push2 hb hb2 (Nat.le_refl _)) (Nat.le_refl _) ho (listGe L)
        go_wp2_with fail
        go_roundw
        case rel => exact ⟨k + 1, a3, c3, by omega, by go_num, L3, hb3⟩
        case measure => simp [intOf]; omega
      · obtain rfl : k = S := by omega
        rw [show decide ((k : Int) ≤ (k : Int)) = true by simp] at hf
        go_wp2_with fail
        refine hf.mono ?_
        rintro e w2 ⟨rfl, hb2⟩
        have L2 := L.below hb2
        have B2 := below_push2 hb hb2 (Nat.le_refl _)
        clear hf L hb hb2
        go_wp2_with fail
        refine (words_any w2 o (k : Int) ax cx (numsTo k) L2.head L2.words (by rw [numsTo_length]; omega)).mono ?_
        rintro e w3 ⟨a3, c3, rfl, O3, hb3⟩
        have U3 := O3.words (by rw [numsTo_length]; omega)
        have B3 := below_push2 B2 hb3 (Nat.le_refl _)
        have L3 := L2.below hb3
        have hs3 := siftL_length (numsTo k) m true
        rw [numsTo_length] at hs3
        have hkl := kept_le k m
        have hsv := sift_any a3 a c3 c (numsTo k) m w3 U3 (hU.below B3) (by rw [numsTo_length]; omega)
        rw [hm] at hsv hkl
        clear O3 B2 L2 hb3
        go_wp2_with fail
        refine hsv.mono ?_
        rintro e w4 ⟨ya, yc, na, nc, rfl, Y, N, hb4⟩
        have UY := Y.words (by omega)
        have L4 := L3.below hb4
        have B4 := below_push2 B3 hb4 (Nat.le_refl _)
        have hbs4 := B4.size
        clear hsv Y N hb4 L3 B3 U3
        go_wp2_with fail
        refine (keep_yes w4 w.heap.size o (k : Int) ax cx (numsTo k) ya yc (siftL (numsTo k) m true) L4 UY (by omega) (by omega)).mono ?_
        rintro e w5 ⟨⟨a5, c5, rfl, L5, _⟩, C5⟩
        have B5 := C5.below B4 (Nat.le_refl _) ho (by simp)
        clear UY L4 C5 B4
        go_wp2_with fail
        go_loopw [59] (fun u59 wx => ∃ (i : Nat) (ay : Option Addr) (cy : Nat) (l : List Int), i ≤ R ∧ u59 = .int .i64 i ∧ ListAt wx w.heap.size o (k : Int) ay cy l ∧ l.length ≤ 2 * T + i ∧ Below w.heap.size w wx) (fun i _ => R - (intOf i).toNat)
        case atStart => exact ⟨0, a5, c5, _, Nat.zero_le _, rfl, L5, by omega, B5⟩
        case round =>
          clear L5 B5
          obtain ⟨i, ay, cy, l, hi, rfl, L, hll, hb⟩ := hrel
          have hbs := hb.size
          by_cases hlt : i < R
          · have hlt' : (i : Int) < (R : Int) := by omega
            go_wp2_with fail
            refine (add_yes _ w.heap.size o (k : Int) ay cy l (5000 + (i : Int)) L (by omega) (by omega) (by omega)).mono ?_
            rintro e w6 ⟨⟨a6, c6, rfl, L6, _⟩, C6⟩
            have B6 := C6.below hb (Nat.le_refl _) ho (listGe L)
            go_wp2_with fail
            go_roundw
            case rel => exact ⟨i + 1, a6, c6, _, by omega, by go_num, L6, by simp; omega, B6⟩
            case measure => simp [intOf]; omega
          · obtain rfl : i = R := by omega
            go_wp2_with fail
            refine (lives_any _).mono ?_
            rintro e w6 ⟨rfl, hb6⟩
            go_wp2_with fail
            go_ret
            exact ⟨rfl, below_push2 hb hb6 (Nat.le_refl _)⟩

set_option maxRecDepth 100000 in
theorem contract (H : Type) (enc : TypeId × Value → H) (W : World) (base : Nat) (args : Array Value) (ds : List (DataW H)) (p : List MemPlace)
    (hval : ∀ (j : Nat) t v, Try.f11.params[j]? = some t → args[j]? = some v → Value.okWide Try.prog W .any base t v)
    (hA : DataW.TrodAll enc Try.prog W 0 (fun _ => true) true Try.f11.params.toList args.toList ds p) :
    Calls Try.prog 11 args W fun e W' => e = .returned (.bool true) ∧ Below W.heap.size W W' := by
  rw [Try.params11] at hA hval
  obtain ⟨v0, vs0, d0, ds0, p0, q0, hargs, rfl, rfl, h0, r0⟩ := trodAll_cons hA
  obtain ⟨v1, vs1, d1, ds1, p1, q1, rfl, rfl, rfl, h1, r1⟩ := trodAll_cons r0
  obtain ⟨v2, vs2, d2, ds2, p2, q2, rfl, rfl, rfl, h2, r2⟩ := trodAll_cons r1
  obtain ⟨rfl, rfl, rfl⟩ := trodAll_nil r2
  obtain rfl : args = #[v0, v1, v2] := by cases args; simp_all
  obtain ⟨a0, rfl, w0⟩ := Lift.int_of Try.underlying5 (hval 0 5 v0 rfl rfl) h0
  obtain ⟨a1, rfl, w1⟩ := Lift.int_of Try.underlying5 (hval 1 5 v1 rfl rfl) h1
  obtain ⟨a, nm, c, rfl, hc, hN⟩ := Open.u64s Try.underlying22 Try.underlying23 (by kernel_rfl) (hval 2 22 v2 rfl rfl) h2
  have u0 := Lift.u8_range w0
  have u1 := Lift.u8_range w1
  exact walk a c nm a0 a1 W hN hc u0.1 u0.2 u1.1 u1.2

/-! THE ROW's STEP -/
set_option maxRecDepth 100000 in
theorem lifted (os : Os) (started : os.Started) (H : Type) (enc : TypeId × Value → H) :
    ReturnsInHanded {} Try.checked os 11 .any (Rows.hazardRoomSpec.pre6 enc Try.prog Try.f11 Rows.hazardRoomRow.domain false) (Rows.hazardRoomSpec.post enc Try.prog Try.f11 false true false false) := by
  refine returnsInHanded_of_change (C := Try.checked) Lift.own started (by kernel_rfl) Try.func11
    (ChangeSpec.witness6 (enc := enc) (C := Try.checked) false ⟨#[], #[.int .u8 0, .int .u8 0, .slice none 0 0], []⟩ 8 (by kernel_rfl) (by kernel_rfl) (by kernel_rfl) (by kernel_rfl)) ?_
  intro W base args ds gs before hval0 hW hcnd _
  have hval : ∀ (j : Nat) t v, Try.f11.params[j]? = some t → args[j]? = some v → Value.okWide Try.prog W .any base t v := hval0
  have hW' := hW
  obtain ⟨p, q, hA0, hV, rfl, hfz, hnd⟩ := hW
  have hA : DataW.TrodAll enc Try.prog W 0 (fun _ => true) true Try.f11.params.toList args.toList ds p := hA0
  have hlen : ds.length = 3 := by
    have hl := Lift.trodAll_len _ _ _ _ hA
    rw [Try.params11] at hl
    simpa using hl
  have hall := fun W' (hb : Below W.heap.size W W') => Lift.trodAll_below Lift.laidOut hb Try.f11.params.toList args.toList ds p (by kernel_rfl) hA
  obtain ⟨rfl, rfl⟩ := trodVars_none hV
  refine (contract H enc W base args ds p hval hA).mono fun e W' ⟨he, bel⟩ => ?_
  subst he
  have hspec : (Rows.hazardRoomSpec.fn H (ds ++ [])).results = [.lit (.bool true)] ∧ (Rows.hazardRoomSpec.fn H (ds ++ [])).args = ds ∧ (Rows.hazardRoomSpec.fn H (ds ++ [])).vars = [] := by
    match ds, hlen with
    | [d1, d2, d3], _ => exact ⟨rfl, rfl, rfl⟩
  exact ⟨_, rfl, _, _, _, [], _, [], hW', by rw [hspec.1]; exact trodAll_mk1 (shut_bool Try.underlying4 _), by rw [hspec.2.1]; exact hall W' bel, by rw [hspec.2.2]; rfl, bel.frame _, fun h => by cases h⟩

theorem over : Rows.hazardRoomRow.holds Try.pinned (OpenSpec.ofChange Rows.hazardRoomSpec) :=
  OpenClaim.holds_of_wide 11 Try.f11 rfl rfl rfl rfl rfl rfl rfl ⟨rfl, rfl, rfl, rfl, rfl⟩ rfl rfl rfl rfl rfl (by kernel_rfl) Try.func11 (by kernel_rfl)
    (of_decide_eq_true (by kernel_rfl)) (by unfold Func.isWrapper; first | (rw [if_pos (by decide +kernel)]; kernel_rfl) | (rw [if_neg (by decide +kernel)]; exact ⟨rfl, rfl⟩))
    (fun os started H enc _ => lifted os started H enc)

theorem proved : Rows.HazardRoomSaid := over
#print axioms proved
end Go.Proofs.Ytaeifmfghnolcaa.hazardRoom
