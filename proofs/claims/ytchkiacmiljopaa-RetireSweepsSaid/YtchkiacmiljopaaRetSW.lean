/-
  retire: the document's Swept; appending any row: contracts.
-/
import Derived.Test.YtchkiacmiljopaaRetB
import Derived.Test.YtchkiacmiljopaaRetZ
namespace Go.Proofs.Ytchkiacmiljopaa.MemP
open Go.RowKit RefP CellP HazP Dp
set_option linter.unusedVariables false
set_option linter.unusedSimpArgs false
set_option maxHeartbeats 1600000 in
theorem swept_any (a b : Option Addr) (c d : Nat) (l nm : List Int) (w : World) (h : U64s w a l) (hn : U64s w b nm) (hsm : l.length ≤ 60000) :
    Calls Try.prog 19 #[.slice a l.length c, .slice b nm.length d] w (SiftAt w l nm) := by
  go_enter Try.func19, Try.ntmps19
  go_wp2_with fail
  refine (dsift_any a b c d l nm true w h hn hsm).mono ?_
  rintro e w1 ⟨ya, yc, rfl, Y, hb1⟩
  go_wp2_with fail
  refine (dsift_any a b c d l nm false w1 (h.below hb1) (hn.below hb1) hsm).mono ?_
  rintro e w2 ⟨na, nc, rfl, N, hb2⟩
  go_wp2_with fail
  go_ret2
  exact ⟨ya, yc, na, nc, rfl, Y.below hb2, N.lower hb1.size, below_push2 hb1 hb2 (Nat.le_refl _)⟩
/-- a row is appended, whatever it is -/
structure AddAny (w : World) (base : Nat) (a : Option Addr) (c : Nat) (l : List Int) (v : Value) (m : Nat) (l' : List Int) (a' : Option Addr) (cap : Nat) (w' : World) : Prop where
  run : ∀ ty, (Builtin.append_ #[29, 29] ty #[.slice a l.length c, v]).run Try.prog w = .ok (.slice a' (l.length + m) cap) w'
  own : OwnsU w' base a' cap l'
  fr : Fr (blkS a) w w'
  at' : ∀ q ∈ blkS a', q ∈ blkS a ∨ w.heap.size ≤ q
theorem addAny {w : World} (base : Nat) {a : Option Addr} {c : Nat} {l : List Int} (h : OwnsU w base a c l) {b : Option Addr} {c' : Nat} {xs : List Int} (hx : U64s w b xs) (hn : l.length + xs.length ≤ 65536) (hbase : base ≤ w.heap.size) :
    ∃ a' cap w', AddAny w base a c l (.slice b xs.length c') xs.length (l ++ xs) a' cap w' := by
  cases xs with
  | nil =>
    obtain ⟨i0, hi, hz0, hz1, hz2⟩ := info_parts' infoWord
    refine ⟨a, c, w, ⟨fun ty => ?_, by simpa using h, Fr.refl _ _, fun q hq => .inl hq⟩⟩
    exact run_append_zero 29 ty 35 i0 1 Try.underlying29 hi _ _ _ h.own b c'
  | cons x xs =>
    obtain ⟨g, cap, w', K⟩ := addAll base h (c' := c') hx (by simp) hn hbase
    refine ⟨some ⟨g, 0, none⟩, cap, w', ⟨K.run, K.own, Fr.of_grown K.grown (fun q e => blkS_own e), fun q hq => ?_⟩⟩
    obtain rfl : q = g := by simpa [blkS] using hq
    rcases K.at' with k | k
    · exact .inl (blkS_own k)
    · exact .inr (by omega)
/-- what hazards are loaded -/
def hzL (T : Nat) (nm : List Int) : List Int := (List.range (2 * T)).map fun k => at0 nm k
theorem hzL_len (T : Nat) (nm : List Int) : (hzL T nm).length = 2 * T := by simp [hzL]
theorem hzL_is {T : Nat} {L : List (Int × Int)} {nm : List Int} (h : StL T L 60 nm) : HzIs 60 T L (hzL T nm) := fun k hk => by
  rw [haz_at hk]
  have := h.hz k hk
  have e : 2 * ((60 : Nat) : Int) + 3 * (T : Int) + (k : Int) = 120 + 3 * (T : Int) + (k : Int) := by omega
  rw [e, this]
  have hg : (hzL T nm)[k]? = some (at0 nm k) := by
    unfold hzL
    rw [List.getElem?_map, List.getElem?_range hk]
    rfl
  conv => rhs; unfold at0
  rw [List.getD_eq_getElem?_getD, hg]
  rfl
theorem hzL_mem {T : Nat} {nm : List Int} (hl : nm.length ≤ 2 * T) (x : Int) (hx : x ≠ 0) : x ∈ hzL T nm ↔ x ∈ nm := by
  unfold hzL
  rw [List.mem_map]
  constructor
  · rintro ⟨k, hk, rfl⟩
    by_cases hkn : k < nm.length
    · exact at0_mem nm k hkn
    · have h0 : at0 nm k = 0 := by
        unfold at0
        rw [List.getD_eq_getElem?_getD, List.getElem?_eq_none (by omega)]
        rfl
      exact absurd h0 hx
  · intro hm
    obtain ⟨k, hk, rfl⟩ := List.getElem_of_mem hm
    exact ⟨k, List.mem_range.2 (by omega), at0_of nm k hk⟩
/-- there are no more accesses than that -/
theorem rcost_le {T n cnt : Nat} (hT : 1 ≤ T ∧ T ≤ 4) (hn : n ≤ 60) (h : cnt ≤ n * (2 * T) + n) : decide (rcostI (T : Int) (n : Int) < (cnt : Int)) = false := by
  have hm : n * (2 * T) + n ≤ n * (4 * T + 1024) := by
    have : n * (2 * T) + n = n * (2 * T + 1) := by rw [Nat.mul_add, Nat.mul_one]
    rw [this]
    exact Nat.mul_le_mul_left _ (by omega)
  rw [decide_eq_false_iff_not]
  unfold rcostI
  by_cases h0 : n = 0
  · subst h0
    rw [if_neg (by omega)]
    omega
  · rw [if_pos (by omega)]
    have hc : ((n * (4 * T + 1024) : Nat) : Int) = (n : Int) * (4 * (T : Int) + 1024) := by rw [Int.natCast_mul, Int.natCast_add, Int.natCast_mul]; rfl
    have h1 : n * (4 * T + 1024) ≤ 60 * (4 * 4 + 1024) := Nat.mul_le_mul hn (by omega)
    split
    · rw [← hc]; omega
    · omega
/-- the use of a block behind what is freed -/
theorem free_load {T : Nat} {L : List (Int × Int)} {nm fr : List Int} (h : StL T L 60 nm) (hfr : ∀ x ∈ fr, Pk 60 x) (i : Nat) (hi : i < 60) : loadW (freeL 60 T L fr) (60 + (i : Int)) = if memB fr (packI (i : Int) 1) = true then useI 0 1 else useI 1 1 := by
  have hl := h.len
  rw [freeL_load (by omega) fr L _ (by omega) hfr, h.us i hi]
  by_cases hm : memB fr (packI (i : Int) 1) = true
  · rw [if_pos hm, if_pos ⟨i, memB_iff.1 hm, hi, by omega⟩]
  · rw [if_neg hm, if_neg]
    rintro ⟨p, hp, hp60, e⟩
    obtain rfl : p = i := by omega
    exact hm (memB_iff.2 hp)
end Go.Proofs.Ytchkiacmiljopaa.MemP
