/-
  What the words of references, uses and gates are, in plain arithmetic (no program in sight).
-/
import Derived.RowKit
import Derived.Laws.BitsAllLaws
import Derived.Laws.BitsLemmas
namespace Go.Proofs.Ytnecikholpiefaa.RefP
set_option linter.unusedVariables false

def topW : Int := 18446744073709551615
theorem topW_eq : topW = 18446744073709551615 := rfl

def packI (p g : Int) : Int := if p < 0 ∨ 8192 ≤ p ∨ g < 1 ∨ 4294967295 < g then 0 else g * 16384 + p + 1
def useI (s g : Int) : Int := if s < 0 ∨ 2 < s ∨ 4294967295 < g then topW else g * 4 + s

theorem packI_no (p g : Int) (h : p < 0 ∨ 8192 ≤ p ∨ g < 1 ∨ 4294967295 < g) : packI p g = 0 := if_pos h
theorem packI_yes (p g : Int) (h1 : 0 ≤ p) (h2 : p < 8192) (h3 : 1 ≤ g) (h4 : g ≤ 4294967295) : packI p g = g * 16384 + p + 1 := if_neg (by omega)
theorem useI_no (s g : Int) (h : s < 0 ∨ 2 < s ∨ 4294967295 < g) : useI s g = topW := if_pos h
theorem useI_yes (s g : Int) (h1 : 0 ≤ s) (h2 : s ≤ 2) (h4 : g ≤ 4294967295) : useI s g = g * 4 + s := if_neg (by omega)

theorem packI_lo (p g : Int) : 0 ≤ packI p g := by unfold packI; split <;> omega
theorem packI_hi (p g : Int) : packI p g ≤ 18446744073709551615 := by unfold packI; split <;> omega
theorem useI_lo (s g : Int) (h : 0 ≤ g) : 0 ≤ useI s g := by unfold useI topW; split <;> omega
theorem useI_hi (s g : Int) : useI s g ≤ 18446744073709551615 := by unfold useI topW; split <;> omega

/-- does a word say a reference? -/
def opensB (x : Int) : Bool := decide (1 ≤ x % 16384 ∧ x % 16384 ≤ 8192 ∧ 1 ≤ x / 16384 ∧ x / 16384 ≤ 4294967295)
def openP (x : Int) : Int := if opensB x = true then x % 16384 - 1 else 0
def openG (x : Int) : Int := if opensB x = true then x / 16384 else 0

theorem opensB_yes {x : Int} (h : opensB x = true) : 1 ≤ x % 16384 ∧ x % 16384 ≤ 8192 ∧ 1 ≤ x / 16384 ∧ x / 16384 ≤ 4294967295 := of_decide_eq_true h
theorem opensB_no {x : Int} (h : opensB x = false) : ¬ (1 ≤ x % 16384 ∧ x % 16384 ≤ 8192 ∧ 1 ≤ x / 16384 ∧ x / 16384 ≤ 4294967295) := of_decide_eq_false h
theorem openP_yes {x : Int} (h : opensB x = true) : openP x = x % 16384 - 1 := if_pos h
theorem openG_yes {x : Int} (h : opensB x = true) : openG x = x / 16384 := if_pos h
theorem openP_no {x : Int} (h : opensB x = false) : openP x = 0 := if_neg (by simp [h])
theorem openG_no {x : Int} (h : opensB x = false) : openG x = 0 := if_neg (by simp [h])

/-- what was packed is told again -/
theorem pack_of_open (x : Int) (h : opensB x = true) : packI (x % 16384 - 1) (x / 16384) = x := by
  have := opensB_yes h
  rw [packI_yes _ _ (by omega) (by omega) (by omega) (by omega)]; omega
theorem pack_not_open (x : Int) (h0 : 0 ≤ x) (hx : x ≠ 0) (h : opensB x = false) : packI (x % 16384 - 1) (x / 16384) ≠ x := by
  have := opensB_no h
  rw [packI_no _ _ (by omega)]; omega
theorem open_of_pack (p g : Int) (h : packI p g ≠ 0) : opensB (packI p g) = true ∧ openP (packI p g) = p ∧ openG (packI p g) = g := by
  have hc : ¬ (p < 0 ∨ 8192 ≤ p ∨ g < 1 ∨ 4294967295 < g) := fun hc => h (packI_no p g hc)
  have e := packI_yes p g (by omega) (by omega) (by omega) (by omega)
  have ho : opensB (packI p g) = true := by rw [e]; exact decide_eq_true (by omega)
  refine ⟨ho, ?_, ?_⟩
  · rw [openP_yes ho, e]; omega
  · rw [openG_yes ho, e]; omega
theorem open_bounds (x : Int) : 0 ≤ openP x ∧ openP x ≤ 8191 ∧ 0 ≤ openG x ∧ openG x ≤ 4294967295 := by
  cases h : opensB x
  · rw [openP_no h, openG_no h]; omega
  · have := opensB_yes h
    rw [openP_yes h, openG_yes h]; omega

/-- does a word say a use? -/
def statesB (x : Int) : Bool := decide (x % 4 ≤ 2 ∧ x / 4 ≤ 4294967295)
def stateS (x : Int) : Int := if statesB x = true then x % 4 else 0
def stateG (x : Int) : Int := if statesB x = true then x / 4 else 0
theorem statesB_yes {x : Int} (h : statesB x = true) : x % 4 ≤ 2 ∧ x / 4 ≤ 4294967295 := of_decide_eq_true h
theorem statesB_no {x : Int} (h : statesB x = false) : ¬ (x % 4 ≤ 2 ∧ x / 4 ≤ 4294967295) := of_decide_eq_false h
theorem stateS_yes {x : Int} (h : statesB x = true) : stateS x = x % 4 := if_pos h
theorem stateG_yes {x : Int} (h : statesB x = true) : stateG x = x / 4 := if_pos h
theorem stateS_no {x : Int} (h : statesB x = false) : stateS x = 0 := if_neg (by simp [h])
theorem stateG_no {x : Int} (h : statesB x = false) : stateG x = 0 := if_neg (by simp [h])
theorem statesB_top : statesB 18446744073709551615 = false := decide_eq_false (by omega)
theorem use_of_state (x : Int) (h : statesB x = true) : useI (x % 4) (x / 4) = x := by
  have := statesB_yes h
  rw [useI_yes _ _ (by omega) (by omega) (by omega)]; omega
theorem use_not_state (x : Int) (hx : x ≠ topW) (h : statesB x = false) : useI (x % 4) (x / 4) ≠ x := by
  have := statesB_no h
  rw [useI_no _ _ (by omega)]; exact fun e => hx e.symm
theorem state_of_use (s g : Int) (h0 : 0 ≤ g) (h : useI s g ≠ topW) : statesB (useI s g) = true ∧ stateS (useI s g) = s ∧ stateG (useI s g) = g := by
  have hc : ¬ (s < 0 ∨ 2 < s ∨ 4294967295 < g) := fun hc => h (useI_no s g hc)
  have e := useI_yes s g (by omega) (by omega) (by omega)
  have ho : statesB (useI s g) = true := by rw [e]; exact decide_eq_true (by omega)
  refine ⟨ho, ?_, ?_⟩
  · rw [stateS_yes ho, e]; omega
  · rw [stateG_yes ho, e]; omega
theorem state_bounds (x : Int) (h0 : 0 ≤ x) : 0 ≤ stateS x ∧ stateS x ≤ 2 ∧ 0 ≤ stateG x ∧ stateG x ≤ 4294967295 := by
  cases h : statesB x
  · rw [stateS_no h, stateG_no h]; omega
  · have := statesB_yes h
    rw [stateS_yes h, stateG_yes h]; omega

/-- is there such a gate? -/
def gateB (s t x : Int) : Bool := decide (0 ≤ t ∧ t ≤ 15 ∧ (s = 0 ∧ t = 0 ∧ x = 0 ∨ (s = 1 ∨ s = 3) ∧ x = 0 ∨ s = 2 ∧ opensB x = true))
theorem gateB_yes {s t x : Int} (h : gateB s t x = true) : 0 ≤ t ∧ t ≤ 15 ∧ (s = 0 ∧ t = 0 ∧ x = 0 ∨ (s = 1 ∨ s = 3) ∧ x = 0 ∨ s = 2 ∧ opensB x = true) := of_decide_eq_true h
theorem gateB_no {s t x : Int} (h : gateB s t x = false) : ¬ (0 ≤ t ∧ t ≤ 15 ∧ (s = 0 ∧ t = 0 ∧ x = 0 ∨ (s = 1 ∨ s = 3) ∧ x = 0 ∨ s = 2 ∧ opensB x = true)) := of_decide_eq_false h
theorem gateB_mk {s t x : Int} (h : 0 ≤ t ∧ t ≤ 15 ∧ (s = 0 ∧ t = 0 ∧ x = 0 ∨ (s = 1 ∨ s = 3) ∧ x = 0 ∨ s = 2 ∧ opensB x = true)) : gateB s t x = true := decide_eq_true h
theorem gateB_mk_no {s t x : Int} (h : ¬ (0 ≤ t ∧ t ≤ 15 ∧ (s = 0 ∧ t = 0 ∧ x = 0 ∨ (s = 1 ∨ s = 3) ∧ x = 0 ∨ s = 2 ∧ opensB x = true))) : gateB s t x = false := decide_eq_false h
def shutI (s t x : Int) : Int := if gateB s t x = true then s * 4611686018427387904 + t * 72057594037927936 + x else topW
theorem shutI_yes {s t x : Int} (h : gateB s t x = true) : shutI s t x = s * 4611686018427387904 + t * 72057594037927936 + x := if_pos h
theorem shutI_no {s t x : Int} (h : gateB s t x = false) : shutI s t x = topW := if_neg (by simp [h])
theorem gateB_bounds {s t x : Int} (h : gateB s t x = true) (hx : 0 ≤ x) : 0 ≤ s ∧ s ≤ 3 ∧ 0 ≤ t ∧ t ≤ 15 ∧ x < 72057594037927936 := by
  obtain ⟨h1, h2, h3⟩ := gateB_yes h
  refine ⟨by omega, by omega, h1, h2, ?_⟩
  rcases h3 with h3 | h3 | ⟨_, h3⟩
  · omega
  · omega
  · have := opensB_yes h3; omega
theorem shutI_lo (s t x : Int) (hx : 0 ≤ x) : 0 ≤ shutI s t x := by
  cases h : gateB s t x
  · rw [shutI_no h, topW_eq]; omega
  · have := gateB_bounds h hx
    rw [shutI_yes h]; omega
theorem shutI_hi (s t x : Int) (hx : 0 ≤ x) : shutI s t x ≤ 18446744073709551615 := by
  cases h : gateB s t x
  · rw [shutI_no h, topW_eq]; omega
  · have := gateB_bounds h hx
    rw [shutI_yes h]; omega

/-- does a word say a gate? -/
def gatedB (x : Int) : Bool := gateB (x / 4611686018427387904) (x % 4611686018427387904 / 72057594037927936) (x % 72057594037927936)
def gatedS (x : Int) : Int := if gatedB x = true then x / 4611686018427387904 else 0
def gatedT (x : Int) : Int := if gatedB x = true then x % 4611686018427387904 / 72057594037927936 else 0
def gatedW (x : Int) : Int := if gatedB x = true then x % 72057594037927936 else 0
theorem gatedS_yes {x : Int} (h : gatedB x = true) : gatedS x = x / 4611686018427387904 := if_pos h
theorem gatedT_yes {x : Int} (h : gatedB x = true) : gatedT x = x % 4611686018427387904 / 72057594037927936 := if_pos h
theorem gatedW_yes {x : Int} (h : gatedB x = true) : gatedW x = x % 72057594037927936 := if_pos h
theorem gatedS_no {x : Int} (h : gatedB x = false) : gatedS x = 0 := if_neg (by simp [h])
theorem gatedT_no {x : Int} (h : gatedB x = false) : gatedT x = 0 := if_neg (by simp [h])
theorem gatedW_no {x : Int} (h : gatedB x = false) : gatedW x = 0 := if_neg (by simp [h])
theorem gatedB_top : gatedB 18446744073709551615 = false := by unfold gatedB; exact gateB_mk_no (by omega)
theorem shut_of_gated (x : Int) (h : gatedB x = true) : shutI (x / 4611686018427387904) (x % 4611686018427387904 / 72057594037927936) (x % 72057594037927936) = x := by
  rw [shutI_yes h]; omega
theorem shut_not_gated (x : Int) (hx : x ≠ topW) (h : gatedB x = false) : shutI (x / 4611686018427387904) (x % 4611686018427387904 / 72057594037927936) (x % 72057594037927936) ≠ x := by
  rw [shutI_no h]; exact fun e => hx e.symm
theorem gated_of_shut (s t x : Int) (hx : 0 ≤ x) (h : shutI s t x ≠ topW) : gatedB (shutI s t x) = true ∧ gatedS (shutI s t x) = s ∧ gatedT (shutI s t x) = t ∧ gatedW (shutI s t x) = x := by
  have hg : gateB s t x = true := by
    cases hg : gateB s t x
    · exact absurd (shutI_no hg) h
    · rfl
  have hb := gateB_bounds hg hx
  have e := shutI_yes hg
  have e1 : shutI s t x / 4611686018427387904 = s := by rw [e]; omega
  have e2 : shutI s t x % 4611686018427387904 / 72057594037927936 = t := by rw [e]; omega
  have e3 : shutI s t x % 72057594037927936 = x := by rw [e]; omega
  have ho : gatedB (shutI s t x) = true := by unfold gatedB; rw [e1, e2, e3]; exact hg
  exact ⟨ho, by rw [gatedS_yes ho, e1], by rw [gatedT_yes ho, e2], by rw [gatedW_yes ho, e3]⟩

/-! bits -/
theorem or_join (i a b : Nat) (hi : a % 2 ^ i = 0) (hb : b < 2 ^ i) (ha : a + b < 18446744073709551616) : bits .or .u64 (a : Int) (b : Int) = ((a + b : Nat) : Int) := by
  rw [u64_or_nat a b (by omega) (by omega), nat_join i a b hi hb]
theorem pack_bits (p g : Int) (h1 : 0 ≤ p) (h2 : p < 8192) (h3 : 1 ≤ g) (h4 : g ≤ 4294967295) : bits .or .u64 (g * 16384) (p + 1) = g * 16384 + p + 1 := by
  obtain ⟨p, rfl⟩ := Int.eq_ofNat_of_zero_le h1
  obtain ⟨g, rfl⟩ := Int.eq_ofNat_of_zero_le (show 0 ≤ g by omega)
  have := or_join 14 (g * 16384) (p + 1) (by omega) (by omega) (by omega)
  rw [show ((g : Int) * 16384) = ((g * 16384 : Nat) : Int) by omega, show ((p : Int) + 1) = ((p + 1 : Nat) : Int) by omega, this]; omega
theorem use_bits (s g : Int) (h1 : 0 ≤ s) (h2 : s ≤ 2) (h3 : 0 ≤ g) (h4 : g ≤ 4294967295) : bits .or .u64 (g * 4) s = g * 4 + s := by
  obtain ⟨s, rfl⟩ := Int.eq_ofNat_of_zero_le h1
  obtain ⟨g, rfl⟩ := Int.eq_ofNat_of_zero_le (show 0 ≤ g by omega)
  have := or_join 2 (g * 4) s (by omega) (by omega) (by omega)
  rw [show ((g : Int) * 4) = ((g * 4 : Nat) : Int) by omega, this]; omega
theorem shut_bits (s t x : Int) (h1 : 0 ≤ s) (h2 : s ≤ 3) (h3 : 0 ≤ t) (h4 : t ≤ 15) (h5 : 0 ≤ x) (h6 : x < 72057594037927936) :
    bits .or .u64 (bits .or .u64 (s * 4611686018427387904) (t * 72057594037927936)) x = s * 4611686018427387904 + t * 72057594037927936 + x := by
  obtain ⟨s, rfl⟩ := Int.eq_ofNat_of_zero_le h1
  obtain ⟨t, rfl⟩ := Int.eq_ofNat_of_zero_le h3
  obtain ⟨x, rfl⟩ := Int.eq_ofNat_of_zero_le h5
  have a := or_join 62 (s * 4611686018427387904) (t * 72057594037927936) (by omega) (by omega) (by omega)
  have b := or_join 56 (s * 4611686018427387904 + t * 72057594037927936) x (by omega) (by omega) (by omega)
  rw [show ((s : Int) * 4611686018427387904) = ((s * 4611686018427387904 : Nat) : Int) by omega, show ((t : Int) * 72057594037927936) = ((t * 72057594037927936 : Nat) : Int) by omega, a, b]; omega
theorem wrap_u64 (n : Int) : IntKind.u64.wrap n = n % 18446744073709551616 := by simp [IntKind.wrap, IntKind.bits, IntKind.signed]
end Go.Proofs.Ytnecikholpiefaa.RefP
