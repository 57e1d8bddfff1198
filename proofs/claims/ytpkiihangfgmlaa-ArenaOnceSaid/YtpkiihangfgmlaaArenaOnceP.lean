/-
  ArenaOnce: plain laws: what a claim, a put, a get and two frees of one place make.
-/
import Derived.Test.YtpkiihangfgmlaaArenaLaw
namespace Go.Proofs.Ytpkiihangfgmlaa.arenaOnce
open Go.RowKit RefP CellP ArP
set_option linter.unusedVariables false
set_option linter.unusedSimpArgs false

def top : Int := 4294967295
def Inv (L : List B3) : Prop := ∀ i, i < L.length → ((at3 L i).1 = 0 ∧ 0 ≤ (at3 L i).2.1 ∧ (at3 L i).2.1 < 4294967295) ∨ ((at3 L i).1 = 2 ∧ (at3 L i).2.1 = 4294967295)
def Met (L : List B3) (M : List Int) : Prop := ∀ i, i < M.length → ∃ (j : Nat) (g : Int), j < L.length ∧ at0 M i = packI j g ∧ 1 ≤ g ∧ g ≤ (at3 L j).2.1
theorem rest_inv {g : Int} (h0 : 0 ≤ g) (h1 : g ≤ 4294967295) : ((rest3 g).1 = 0 ∧ 0 ≤ (rest3 g).2.1 ∧ (rest3 g).2.1 < 4294967295) ∨ ((rest3 g).1 = 2 ∧ (rest3 g).2.1 = 4294967295) := by
  by_cases h : g = 4294967295
  · right; subst h; exact ⟨rfl, rfl⟩
  · left; refine ⟨restI_no h, h0, ?_⟩; show g < _; omega
theorem Inv.start {n : Nat} {g : Int} (h0 : 0 ≤ g) (h1 : g ≤ 4294967295) : Inv (List.replicate n (rest3 g)) := by
  intro i hi
  have : at3 (List.replicate n (rest3 g)) i = rest3 g := by
    rw [at3_of _ _ hi]; simp
  rw [this]; exact rest_inv h0 h1
theorem Inv.set {L : List B3} (h : Inv L) (k : Nat) (hk : k < L.length) {g : Int} (h0 : 0 ≤ g) (h1 : g ≤ 4294967295) : Inv (L.set k (rest3 g)) := by
  intro i hi
  rw [List.length_set] at hi
  rw [at3_set _ _ _ _ hk]
  split
  · exact rest_inv h0 h1
  · exact h i hi
theorem Inv.used {L : List B3} (h : Inv L) : many3 L 1 = 0 := by
  unfold many3
  rw [List.countP_eq_zero]
  intro p hp
  obtain ⟨i, hi, rfl⟩ := List.getElem_of_mem hp
  have := h i hi
  rw [at3_of L i hi] at this
  intro e
  simp at e
  omega
theorem Met.nil (L : List B3) : Met L [] := fun i hi => by simp at hi
theorem pack_inj {j k g g' : Int} (hj0 : 0 ≤ j) (hj1 : j < 8192) (hk0 : 0 ≤ k) (hk1 : k < 8192) (hg0 : 1 ≤ g) (hg1 : g ≤ 4294967295) (hg0' : 1 ≤ g') (hg1' : g' ≤ 4294967295) (e : packI j g = packI k g') : j = k ∧ g = g' := by
  rw [packI_yes j g hj0 hj1 hg0 hg1, packI_yes k g' hk0 hk1 hg0' hg1'] at e
  omega
/-- a word that is told anew was not told -/
theorem Met.fresh {L : List B3} {M : List Int} (h : Met L M) (hI : Inv L) (hl : L.length ≤ 8) (k : Nat) (hk : k < L.length) (h1 : (at3 L k).2.1 < 4294967295) (h0 : 0 ≤ (at3 L k).2.1) (i : Nat) (hi : i < M.length) : at0 M i ≠ packI k ((at3 L k).2.1 + 1) := by
  obtain ⟨j, g, hj, e, g0, g1⟩ := h i hi
  intro e2
  rw [e] at e2
  have hgm : g ≤ 4294967295 := by
    rcases hI j hj with q | q <;> omega
  obtain ⟨e3, e4⟩ := pack_inj (by omega) (by omega) (by omega) (by omega) g0 hgm (by omega) (by omega) e2
  have : j = k := by omega
  subst this
  omega
theorem Met.next {L : List B3} {M : List Int} (h : Met L M) (k : Nat) (hk : k < L.length) (h0 : 0 ≤ (at3 L k).2.1) : Met (L.set k (rest3 ((at3 L k).2.1 + 1))) (M ++ [packI k ((at3 L k).2.1 + 1)]) := by
  intro i hi
  by_cases hlt : i < M.length
  · obtain ⟨j, g, hj, e, g0, g1⟩ := h i hlt
    refine ⟨j, g, by simpa using hj, by rw [at0_append _ _ _ hlt, e], g0, ?_⟩
    rw [at3_set _ _ _ _ hk]
    split
    · rename_i e2; subst e2; show g ≤ (at3 L j).2.1 + 1; omega
    · exact g1
  · have hi2 : i = M.length := by simp at hi; omega
    subst hi2
    refine ⟨k, (at3 L k).2.1 + 1, by simpa using hk, at0_snoc _ _, by omega, ?_⟩
    rw [at3_set _ _ _ _ hk, if_pos rfl]
    show _ ≤ (at3 L k).2.1 + 1
    omega
/-- one place, step by step -/
theorem nextV_small {g : Int} (h0 : 0 ≤ g) (h1 : g < 4294967295) : nextV g = g + 1 := by unfold nextV; omega
structure Steps (L : List B3) (k : Nat) (W : Int) (y : Int) : Prop where
  c0 : claimE L k = 0
  c1 : claimW L k = W
  w0 : 0 ≤ W ∧ W ≤ 18446744073709551615
  p0 : atE (claimL L k) W = 0
  g0 : atE (putL (claimL L k) W y) W = 0
  g1 : getX (putL (claimL L k) W y) W = y
  e0 : atE (freeL (putL (claimL L k) W y) W) W = 24
  e1 : freeL (putL (claimL L k) W y) W = L.set k (rest3 ((at3 L k).2.1 + 1))
  e2 : freeL (freeL (putL (claimL L k) W y) W) W = L.set k (rest3 ((at3 L k).2.1 + 1))
theorem atE_of {l : List B3} {W : Int} {k : Nat} {g : Int} (ho : opensB W = true) (hp : openP W = k) (hg : openG W = g) (hk : k < l.length) (h2 : (at3 l k).2.1 = g) : atE l W = if (at3 l k).1 ≠ 1 then 24 else 0 := by
  have hn : namesB l W = true := by simp [namesB, ho, hp]; omega
  rw [atE_in hn, hp, Int.toNat_natCast, hg, if_neg (by simpa using h2)]
theorem steps {L : List B3} (hl : L.length ≤ 8) (k : Nat) (hk : k < L.length) (hs : (at3 L k).1 = 0) (h0 : 0 ≤ (at3 L k).2.1) (h1 : (at3 L k).2.1 < 4294967295) (y : Int) : Steps L k (packI k ((at3 L k).2.1 + 1)) y := by
  have hin : inB L.length k = true := inB_mk (by omega) (by omega)
  have c0 : claimE L k = 0 := by rw [claimE_in hin, Int.toNat_natCast, hs]; rfl
  have hnv := nextV_small h0 h1
  have c1 : claimW L k = packI k ((at3 L k).2.1 + 1) := by rw [claimW_yes c0, Int.toNat_natCast, hnv]
  have hL1 : claimL L k = L.set k (1, (at3 L k).2.1 + 1, 0) := by rw [claimL_yes c0, Int.toNat_natCast, hnv]
  have hpk := packI_yes (k : Int) ((at3 L k).2.1 + 1) (by omega) (by omega) (by omega) (by omega)
  obtain ⟨o1, o2, o3⟩ := open_of_pack (k : Int) ((at3 L k).2.1 + 1) (by rw [hpk]; omega)
  have hgs : ∀ (p : B3), p.2.1 = (at3 L k).2.1 + 1 → ∀ l, l = L.set k p → atE l (packI k ((at3 L k).2.1 + 1)) = if p.1 ≠ 1 then 24 else 0 := by
    intro p hp l e
    subst e
    have ha : at3 (L.set k p) k = p := by rw [at3_set _ _ _ _ hk, if_pos rfl]
    rw [atE_of o1 o2 o3 (by simpa using hk) (by rw [ha, hp]), ha]
  have hget : ∀ (p : B3), at3 (L.set k p) k = p := fun p => by rw [at3_set _ _ _ _ hk, if_pos rfl]
  have p0 := hgs (1, (at3 L k).2.1 + 1, 0) rfl _ hL1
  rw [if_neg (by simp)] at p0
  have hL2 : putL (claimL L k) (packI k ((at3 L k).2.1 + 1)) y = L.set k (1, (at3 L k).2.1 + 1, y) := by
    unfold putL
    rw [if_pos p0, o2, Int.toNat_natCast, hL1, hget, List.set_set]
  have g0 := hgs (1, (at3 L k).2.1 + 1, y) rfl _ hL2
  rw [if_neg (by simp)] at g0
  have hL3 : freeL (putL (claimL L k) (packI k ((at3 L k).2.1 + 1)) y) (packI k ((at3 L k).2.1 + 1)) = L.set k (rest3 ((at3 L k).2.1 + 1)) := by
    unfold freeL
    rw [if_pos g0, o2, Int.toNat_natCast, hL2, hget, List.set_set]
  have e0 := hgs (rest3 ((at3 L k).2.1 + 1)) rfl _ hL3
  rw [if_pos (by have := restI_rng ((at3 L k).2.1 + 1); show restI _ ≠ 1; unfold restI; split <;> omega)] at e0
  refine ⟨c0, c1, ⟨packI_lo _ _, packI_hi _ _⟩, p0, g0, ?_, e0, hL3, ?_⟩
  · unfold getX
    rw [if_pos g0, o2, Int.toNat_natCast, hL2, hget]
  · show (if atE _ _ = 0 then _ else _) = _
    rw [if_neg (by rw [e0]; omega), hL3]
theorem full {L : List B3} (k : Nat) (hk : k < L.length) (hs : (at3 L k).1 = 2) : claimE L k = 22 ∧ claimW L k = 0 ∧ claimL L k = L := by
  have hin : inB L.length k = true := inB_mk (by omega) (by omega)
  have c0 : claimE L k = 22 := by rw [claimE_in hin, Int.toNat_natCast, hs]; rfl
  exact ⟨c0, if_neg (by omega), if_neg (by omega)⟩
end Go.Proofs.Ytpkiihangfgmlaa.arenaOnce
