/-
  claim: two that claim, giving back, and claiming again: plain laws.
-/
import Derived.Test.YtppclnnkleebkaaClaimC
import Derived.Test.YtppclnnkleebkaaOpenInts
namespace Go.Proofs.Ytppclnnkleebkaa.MemP
open Go.RowKit RefP CellP
set_option linter.unusedVariables false
set_option linter.unusedSimpArgs false
theorem loadW_store (L : List (Int × Int)) (i x j : Int) (hi : 0 ≤ i ∧ i < L.length) : loadW (storeL L i x) j = if j = i then x else loadW L j := by
  rw [storeL_yes x (inB_mk hi.1 hi.2)]
  have hl : (writeL L i x).length = L.length := writeL_length _ _ _
  by_cases hj : j = i
  · subst hj
    rw [if_pos rfl, loadW_yes (by rw [hl]; exact inB_mk hi.1 hi.2)]
    have hlt : j.toNat < L.length := by omega
    simp [at2, writeL, List.getElem?_set, hlt]
  · rw [if_neg hj]
    cases hb : inB L.length j
    · rw [loadW_no (by rw [hl]; exact hb), loadW_no hb]
    · rw [loadW_yes (by rw [hl]; exact hb), loadW_yes hb]
      have := inB_yes hb
      have hne : ¬ i.toNat = j.toNat := by omega
      simp [at2, writeL, List.getElem?_set, hne]
theorem packI1 (p : Nat) (h : p < 8192) : packI p 1 = 16384 + p + 1 := by rw [packI_yes _ _ (by omega) (by omega) (by omega) (by omega)]; omega
theorem pk_open {p : Nat} (h : p < 8192) : opensB (packI p 1) = true ∧ openP (packI p 1) = p ∧ openG (packI p 1) = 1 := open_of_pack _ _ (by rw [packI1 p h]; omega)
theorem w0_fresh {n p : Nat} (h : p < n) : w0 n (freshL n 2 0) p = (if p = 0 then useI 1 1 else 0) ∧ v0 n (freshL n 2 0) p = 0 := by
  have hl : (freshL n 2 0).length = 2 * n + 11 := by simp [freshL]
  have hin : inB (freshL n 2 0).length ((n : Int) + p) = true := inB_mk (by omega) (by rw [hl]; omega)
  have hlt : n + p < 2 * n + 5 * 2 + 1 := by omega
  have e : ((n : Int) + (p : Int)).toNat = n + p := by omega
  have hgt : (freshL n 2 0)[n + p]? = some (freshW n 2 0 (n + p), 0) := by
    unfold freshL
    rw [List.getElem?_map, List.getElem?_range hlt]
    rfl
  have hw : freshW n 2 0 (n + p) = if p = 0 then useI 1 1 else 0 := by
    unfold freshW
    rw [if_neg (by omega)]
    by_cases h0 : p = 0
    · subst h0
      rw [if_pos (by omega), if_pos rfl]
      rfl
    · rw [if_neg (by omega), if_pos (by omega), if_neg h0]
      rfl
  unfold w0 v0
  rw [loadW_yes hin, loadV_yes hin, e]
  unfold at2
  rw [List.getD_eq_getElem?_getD, hgt, hw]
  exact ⟨rfl, rfl⟩
theorem fresh_rng (n : Nat) : Rng (freshL n 2 0) := by
  intro x hx
  unfold freshL at hx
  obtain ⟨i, hi, rfl⟩ := List.mem_map.1 hx
  refine ⟨?_, by simp⟩
  unfold freshW
  have h1 := packI_lo 0 (nextV 0)
  have h2 := packI_hi 0 (nextV 0)
  have h3 := useI_lo 1 (nextV 0) (by decide +kernel)
  have h4 := useI_hi 1 (nextV 0)
  have h5 := useI_lo 0 0 (by omega)
  have h6 := useI_hi 0 0
  split
  · exact ⟨h1, h2⟩
  · split
    · exact ⟨h3, h4⟩
    · split
      · exact ⟨h5, h6⟩
      · simp
theorem CI.start {n : Nat} {L0 : List (Int × Int)} (hl : 2 * n ≤ L0.length) (hr : Rng L0) : CI n L0 L0 ([] ++ []) := ⟨⟨rfl, hl⟩, by simp, by simp, by simp, fun p h1 h2 => ⟨rfl, rfl⟩, hr⟩
abbrev newQ (f : Nat) : QS := ⟨[], f, 0, true, 0, 0⟩
theorem TI.start {n f : Nat} {L0 : List (Int × Int)} (h : f < n) (o : List Nat) : TI n L0 [] o (newQ f) := ⟨rfl, h, Nat.zero_le _, fun d hd => by simp at hd, fun e => by simp at e⟩
theorem may_fresh {n p : Nat} (h : p < n) (hm : mayI (w0 n (freshL n 2 0) p) = true) : 0 < p ∧ wd n (freshL n 2 0) p = packI p 1 := by
  have hw := (w0_fresh h).1
  rw [hw] at hm
  by_cases h0 : p = 0
  · subst h0
    rw [if_pos rfl] at hm
    exact absurd hm (by decide +kernel)
  · refine ⟨by omega, ?_⟩
    unfold wd
    rw [hw, if_neg h0]
    rfl
theorem ph1_len {n : Nat} {L : List (Int × Int)} {c o : List Nat} (hn : 1 ≤ n) (h : CI n (freshL n 2 0) L (c ++ o)) : c.length + o.length ≤ n - 1 := by
  have h0 : 0 ∉ c ++ o := fun k => by
    have := h.lt 0 k
    have := (may_fresh this.1 this.2).1
    omega
  have := nat_below (l := 0 :: (c ++ o)) (n := n) (List.nodup_cons.2 ⟨h0, h.nd⟩) (fun p hp => by
    rcases List.mem_cons.1 hp with e | e
    · omega
    · exact (h.lt p e).1)
  simp at this
  omega
theorem ph1_full {n : Nat} {L : List (Int × Int)} {c o : List Nat} (hn : 1 ≤ n) (h : CI n (freshL n 2 0) L (c ++ o)) (hu : ∀ p, p < n → Ud n (freshL n 2 0) c o p) : c.length + o.length = n - 1 := by
  have h1 := ph1_len hn h
  have h2 := nodup_len_nat (0 :: (c ++ o)) (List.range n) List.nodup_range (fun p hp => by
    rcases hu p (List.mem_range.1 hp) with q | q | q
    · simp [q]
    · simp [q]
    · by_cases h0 : p = 0
      · simp [h0]
      · rw [(w0_fresh (List.mem_range.1 hp)).1, if_neg h0] at q
        exact absurd q (by decide +kernel))
  simp at h2
  omega
theorem ph1_word {n : Nat} {L : List (Int × Int)} {c o : List Nat} (h : CI n (freshL n 2 0) L (c ++ o)) (p : Nat) (hp : p ∈ c) : p < n ∧ wd n (freshL n 2 0) p = packI p 1 := by
  have := h.lt p (by simp [hp])
  exact ⟨this.1, (may_fresh this.1 this.2).2⟩
theorem ph1_apart {n : Nat} {L : List (Int × Int)} {c o : List Nat} (hn : n ≤ 8192) (h : CI n (freshL n 2 0) L (c ++ o)) (x : Int) (hx : x ∈ c.map (wd n (freshL n 2 0))) : HazP.memB (o.map (wd n (freshL n 2 0))) x = false := by
  obtain ⟨p, hp, rfl⟩ := List.mem_map.1 hx
  have h1 := ph1_word h p hp
  simp only [HazP.memB, decide_eq_false_iff_not]
  intro hm
  obtain ⟨q, hq, e⟩ := List.mem_map.1 hm
  have h2 := ph1_word h.swap q hq
  rw [h1.2, h2.2, packI1 p (by omega), packI1 q (by omega)] at e
  have : q = p := by omega
  subst this
  exact (List.nodup_append.1 h.nd).2.2 q hp q hq rfl
theorem ph1_good {n : Nat} {L : List (Int × Int)} {c o : List Nat} (hn : n ≤ 8192) (h : CI n (freshL n 2 0) L (c ++ o)) (x : Int) (hx : x ∈ c.map (wd n (freshL n 2 0))) : GdW n x = true ∧ ∃ p : Nat, p < n ∧ x = packI p 1 := by
  obtain ⟨p, hp, rfl⟩ := List.mem_map.1 hx
  have h1 := ph1_word h p hp
  have ho := pk_open (p := p) (by omega)
  rw [h1.2]
  refine ⟨?_, p, h1.1, rfl⟩
  unfold GdW
  rw [ho.1, ho.2.1]
  simp; omega
theorem kept_back {n : Nat} {l : List Int} (h : ∀ x ∈ l, GdW n x = true) : keptW n (l ++ [0, 5]) = l := by
  unfold keptW
  rw [List.filter_append, List.filter_eq_self.2 h]
  have h0 : GdW n 0 = false := by
    unfold GdW
    rw [show opensB 0 = false by decide +kernel]
    rfl
  have h5 : GdW n 5 = false := by
    unfold GdW
    rw [show opensB 5 = false by decide +kernel]
    rfl
  simp [h0, h5]
theorem doneQ_le {n : Nat} {L0 : List (Int × Int)} {c o : List Nat} {s : QS} (hn : 1 ≤ n) (h : TI n L0 c o s) (hc : c.length ≤ n - 1) : doneQ n s ≤ 2 * n * n := by
  have hl : s.l.length = c.length := by rw [h.l]; simp
  have hs := h.sn
  have h1 : 2 * n * s.l.length ≤ 2 * n * (n - 1) := Nat.mul_le_mul_left _ (by omega)
  have h2 : 2 * n * n = 2 * n * (n - 1) + 2 * n := by
    obtain ⟨k, rfl⟩ : ∃ k, n = k + 1 := ⟨n - 1, by omega⟩
    rw [Nat.add_sub_cancel, Nat.mul_add (2 * (k + 1)) k 1, Nat.mul_one]
  unfold doneQ
  cases hld : s.ld
  · have := (h.ld hld).1
    simp; omega
  · simp; omega
theorem potQ_le {n many : Nat} {s : QS} (hn : 1 ≤ n) (hm : many ≤ 19) : potQ n many s < 40 * n := by
  have h1 : 2 * n * (many - s.l.length) ≤ 2 * n * 19 := Nat.mul_le_mul_left _ (by omega)
  unfold potQ
  omega
theorem tellQ_len {n T many : Nat} {s : QS} {L : List (Int × Int)} (ho : ¬ overQ n many s) (h : s.l.length ≤ many) : (tellQ n T s L).l.length ≤ many := by
  have : s.l.length < many := by unfold overQ at ho; omega
  unfold tellQ
  split
  · split <;> simp [onQ] <;> omega
  · split <;> simp [onQ, gotQ] <;> omega
theorem qrun_len {n T many : Nat} : ∀ (m : Nat) {s : QS} {L : List (Int × Int)}, s.l.length ≤ many → (qrun n T many m s L).2.2.1.l.length ≤ many
  | 0, s, L, h => h
  | m + 1, s, L, h => by
    by_cases ho : overQ n many s
    · have e : qrun n T many (m + 1) s L = (0, true, s, L) := if_pos ho
      rw [e]; exact h
    · have e : qrun n T many (m + 1) s L = ((qrun n T many m (tellQ n T s L) (doQ n T s L)).1 + 1, (qrun n T many m (tellQ n T s L) (doQ n T s L)).2) := if_neg ho
      rw [e]
      exact qrun_len m (tellQ_len ho h)
/-! given back -/
def backL (n : Nat) (L : List (Int × Int)) (l : List Int) : List (Int × Int) := l.foldl (fun L x => storeL L ((n : Int) + openP x) (HazP.freedI x)) L
theorem backL_succ {n : Nat} {L : List (Int × Int)} {l : List Int} {k : Nat} (h : k < l.length) : backL n L (l.take (k + 1)) = storeL (backL n L (l.take k)) ((n : Int) + openP (at0 l k)) (HazP.freedI (at0 l k)) := by
  rw [take_succ_at0 l k h]; simp [backL]
theorem backL_keeps {n : Nat} (hn : n ≤ 8192) : ∀ (l : List Int) (L : List (Int × Int)), 2 * n ≤ L.length → Rng L → (∀ x ∈ l, ∃ p : Nat, p < n ∧ x = packI p 1) → (backL n L l).length = L.length ∧ Rng (backL n L l) ∧ ∀ p : Nat, p < n → (packI p 1 ∈ l ∨ mayI (loadW L ((n : Int) + p)) = true) → mayI (loadW (backL n L l) ((n : Int) + p)) = true
  | [], L, hL, hr, h => ⟨rfl, hr, fun p hp k => by
      rcases k with k | k
      · simp at k
      · exact k⟩
  | x :: l, L, hL, hr, h => by
    obtain ⟨q, hq, rfl⟩ := h x (by simp)
    have ho := pk_open (p := q) (by omega)
    have hf : HazP.freedI (packI q 1) = useI 0 1 := by simp [HazP.freedI, ho.1, ho.2.2]
    have hs : ∀ j : Nat, loadW (storeL L ((n : Int) + q) (useI 0 1)) ((n : Int) + j) = if (n : Int) + j = (n : Int) + q then useI 0 1 else loadW L ((n : Int) + j) := fun j => loadW_store _ _ _ _ (by omega)
    obtain ⟨h1, h2, h3⟩ := backL_keeps hn l (storeL L ((n : Int) + q) (useI 0 1)) (by rw [storeL_length]; exact hL) (hr.store _ _ (by decide +kernel) (by decide +kernel)) (fun y hy => h y (by simp [hy]))
    have e : backL n L (packI q 1 :: l) = backL n (storeL L ((n : Int) + q) (useI 0 1)) l := by
      simp [backL, ho.2.1, hf]
    rw [e]
    refine ⟨by rw [h1, storeL_length], h2, fun p hp k => h3 p hp ?_⟩
    rw [hs]
    by_cases epq : p = q
    · subst epq
      right
      rw [if_pos rfl]
      decide +kernel
    · rcases k with k | k
      · rcases List.mem_cons.1 k with k | k
        · rw [packI1 p (by omega), packI1 q (by omega)] at k
          omega
        · exact .inl k
      · right
        rw [if_neg (by omega)]
        exact k
/-- claiming again ends well -/
theorem ph2_ok {n : Nat} {L1 L2 L3 : List (Int × Int)} {c o c3 : List Nat} {s3 : QS} (hn : n ≤ 8192) (h : CI n (freshL n 2 0) L1 (c ++ o)) (e2 : L2 = backL n L1 (c.map (wd n (freshL n 2 0)))) (h3 : CI n L2 L3 (c3 ++ [])) (t3 : TI n L2 c3 [] s3) (ho : overQ n c.length s3) (hr : Rng L1) : c.length ≤ s3.l.length := by
  rcases ho with k | k
  · exact k
  · have hl := h.len
    have hfl : (freshL n 2 0).length = 2 * n + 11 := by simp [freshL]
    have hk := (backL_keeps hn (c.map (wd n (freshL n 2 0))) L1 (by omega) hr (fun x hx => (ph1_good hn h x hx).2)).2.2
    have hsub : ∀ p ∈ c, p ∈ c3 := fun p hp => by
      have h1 := ph1_word h p hp
      have hm := hk p h1.1 (.inl (List.mem_map.2 ⟨p, hp, h1.2⟩))
      rcases t3.all k p h1.1 with q | q | q
      · exact q
      · simp at q
      · unfold w0 at q
        rw [e2, hm] at q
        cases q
    rw [t3.l, List.length_map]
    exact nodup_len_nat c3 c (List.nodup_append.1 h.nd).1 hsub
end Go.Proofs.Ytppclnnkleebkaa.MemP
