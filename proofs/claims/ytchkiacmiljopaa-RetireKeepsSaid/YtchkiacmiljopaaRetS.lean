/-
  retire: the plain machine against the document's sweeps.
-/
import Derived.Test.YtchkiacmiljopaaRetQ
namespace Go.Proofs.Ytchkiacmiljopaa.MemP
open Go.RowKit RefP CellP HazP
set_option linter.unusedVariables false
set_option linter.unusedSimpArgs false
theorem loadW_store (L : List (Int × Int)) (i x j : Int) (hi : 0 ≤ i ∧ i < L.length) : loadW (storeL L i x) j = if j = i then x else loadW L j := by
  rw [storeL_yes x (inB_mk hi.1 hi.2)]
  have hl : (writeL L i x).length = L.length := writeL_length _ _ _
  by_cases hj : j = i
  · subst hj
    rw [if_pos rfl, loadW_yes (by rw [hl]; exact inB_mk hi.1 hi.2)]
    have hlt : j.toNat < L.length := by omega
    simp [at2, writeL, List.getElem?_set, hlt]
  · rw [if_neg hj]
    cases hb : inB L.length j
    · rw [loadW_no (by rw [hl]; exact hb), loadW_no hb]
    · rw [loadW_yes (by rw [hl]; exact hb), loadW_yes hb]
      have := inB_yes hb
      have hne : ¬ i.toNat = j.toNat := by omega
      simp [at2, writeL, List.getElem?_set, hne]
/-- the words of blocks below N, of the first generation -/
def Pk (N : Nat) (x : Int) : Prop := ∃ p : Nat, p < N ∧ x = packI p 1
theorem packI1 (p : Nat) (h : p < 8192) : packI p 1 = 16384 + p + 1 := by rw [packI_yes _ _ (by omega) (by omega) (by omega) (by omega)]; omega
theorem Pk.open {N : Nat} (hN : N ≤ 8192) {p : Nat} (hp : p < N) : opensB (packI p 1) = true ∧ openP (packI p 1) = p ∧ openG (packI p 1) = 1 := open_of_pack _ _ (by rw [packI1 p (by omega)]; omega)
theorem Pk.good {N : Nat} (hN : N ≤ 8192) {x : Int} (h : Pk N x) : GoodW N x := by
  obtain ⟨p, hp, rfl⟩ := h
  have ho := Pk.open hN hp
  refine ⟨⟨packI_lo _ _, packI_hi _ _⟩, ho.1, by rw [ho.2.1]; omega, by rw [ho.2.1]; omega⟩
theorem Pk.pos {N : Nat} (hN : N ≤ 8192) {x : Int} (h : Pk N x) : x ≠ 0 := by
  obtain ⟨p, hp, rfl⟩ := h
  rw [packI1 p (by omega)]; omega
theorem freed_pk {N : Nat} (hN : N ≤ 8192) {p : Nat} (hp : p < N) : freedI (packI p 1) = useI 0 1 := by
  have ho := Pk.open hN hp
  simp [freedI, ho.1, ho.2.2]
theorem use_at {A T : Nat} {p : Nat} (hp : p < A) : atI A T 1 (p : Int) = A + p := by
  rw [atI_yes (by omega) (by simp [sizeI]; omega)]
  simp [fromI]
theorem nodup_len : ∀ (nm l : List Int), l.Nodup → (∀ x ∈ l, x ∈ nm) → l.length ≤ nm.length := by
  intro nm
  induction nm with
  | nil =>
    intro l _ h
    cases l with
    | nil => simp
    | cons x l => exact absurd (h x (by simp)) (by simp)
  | cons y nm ih =>
    intro l hl h
    by_cases hy : y ∈ l
    · have h1 := ih (l.erase y) (hl.erase y) (fun x hx => by
        have h2 := (hl.mem_erase_iff).1 hx
        rcases List.mem_cons.1 (h x h2.2) with e | e
        · exact absurd e h2.1
        · exact e)
      rw [List.length_erase_of_mem hy] at h1
      simp only [List.length_cons]
      omega
    · have h1 := ih l hl (fun x hx => by
        rcases List.mem_cons.1 (h x hx) with e | e
        · subst e; exact absurd hx hy
        · exact e)
      simp only [List.length_cons]
      omega
/-- what the document does: the list, what is freed, how many sweeps -/
def sweepF (r : Int) (nm : List Int) : List Int → List Int → List Int × List Int × Nat
  | [], l => (l, [], 0)
  | y :: W, l => if r ≤ (l.length : Int) then ((sweepF r nm W (siftL l nm true ++ [y])).1, siftL l nm false ++ (sweepF r nm W (siftL l nm true ++ [y])).2.1, (sweepF r nm W (siftL l nm true ++ [y])).2.2 + 1) else sweepF r nm W (l ++ [y])
theorem sweepF_len (r : Int) (nm : List Int) : ∀ W l, (sweepF r nm W l).2.2 ≤ W.length ∧ (sweepF r nm W l).2.1.length ≤ W.length + l.length
  | [], l => by simp [sweepF]
  | y :: W, l => by
    unfold sweepF
    split
    · have := sweepF_len r nm W (siftL l nm true ++ [y])
      have hb := siftL_both l nm
      simp only [List.length_append, List.length_cons, List.length_nil] at this ⊢
      omega
    · have := sweepF_len r nm W (l ++ [y])
      simp only [List.length_append, List.length_cons, List.length_nil] at this ⊢
      omega
theorem sweepF_mem (r : Int) (nm : List Int) : ∀ W l x, x ∈ (sweepF r nm W l).2.1 → x ∈ W ∨ x ∈ l
  | [], l, x, h => by simp [sweepF] at h
  | y :: W, l, x, h => by
    unfold sweepF at h
    split at h
    · rcases List.mem_append.1 h with q | q
      · exact .inr (List.mem_filter.1 q).1
      · rcases sweepF_mem r nm W _ x q with k | k
        · exact .inl (by simp [k])
        · rcases List.mem_append.1 k with k | k
          · exact .inr (List.mem_filter.1 k).1
          · exact .inl (by simp at k; simp [k])
    · rcases sweepF_mem r nm W _ x h with k | k
      · exact .inl (by simp [k])
      · rcases List.mem_append.1 k with k | k
        · exact .inr k
        · exact .inl (by simp at k; simp [k])
def freeL (A T : Nat) (L : List (Int × Int)) (l : List Int) : List (Int × Int) := l.foldl (fun L x => storeL L (atI A T 1 (openP x)) (freedI x)) L
theorem freeL_append (A T : Nat) (L : List (Int × Int)) (a b : List Int) : freeL A T L (a ++ b) = freeL A T (freeL A T L a) b := by simp [freeL]
theorem freeL_length (A T : Nat) : ∀ (l : List Int) (L : List (Int × Int)), (freeL A T L l).length = L.length
  | [], L => rfl
  | x :: l, L => by
    show (freeL A T (storeL L _ _) l).length = _
    rw [freeL_length A T l, storeL_length]
open Classical in
theorem freeL_load {A T : Nat} (hA : A ≤ 8192) : ∀ (l : List Int) (L : List (Int × Int)) (j : Int), 2 * A ≤ L.length → (∀ x ∈ l, Pk A x) → loadW (freeL A T L l) j = if ∃ p : Nat, packI p 1 ∈ l ∧ p < A ∧ j = A + p then useI 0 1 else loadW L j
  | [], L, j, hL, h => by simp [freeL]
  | x :: l, L, j, hL, h => by
    obtain ⟨p, hp, rfl⟩ := h x (by simp)
    have ho := Pk.open hA hp
    show loadW (freeL A T (storeL L (atI A T 1 (openP (packI p 1))) (freedI (packI p 1))) l) j = _
    rw [freeL_load hA l _ j (by rw [storeL_length]; exact hL) (fun y hy => h y (by simp [hy])), ho.2.1, use_at hp, freed_pk hA hp, loadW_store _ _ _ _ (by omega)]
    by_cases h1 : ∃ q : Nat, packI q 1 ∈ l ∧ q < A ∧ j = A + q
    · rw [if_pos h1]
      obtain ⟨q, hq, hqA, e⟩ := h1
      rw [if_pos ⟨q, by simp [hq], hqA, e⟩]
    · rw [if_neg h1]
      by_cases h2 : j = (A : Int) + p
      · rw [if_pos h2, if_pos ⟨p, by simp, hp, h2⟩]
      · rw [if_neg h2, if_neg]
        rintro ⟨q, hq, hqA, e⟩
        rcases List.mem_cons.1 hq with k | k
        · rw [packI1 q (by omega), packI1 p (by omega)] at k
          apply h2
          omega
        · exact h1 ⟨q, k, hqA, e⟩
/-- the hazards have these words -/
def HzIs (A T : Nat) (L : List (Int × Int)) (hz : List Int) : Prop := ∀ k : Nat, k < 2 * T → loadW L (hazI A T ((k : Int) / 2) ((k : Int) % 2)) = at0 hz k
theorem haz_at {A T k : Nat} (h : k < 2 * T) : hazI A T ((k : Int) / 2) ((k : Int) % 2) = 2 * A + 3 * T + k := by
  unfold hazI
  rw [if_pos (by omega)]
  omega
theorem HzIs.free {A T : Nat} (hA : A ≤ 8192) {L : List (Int × Int)} {hz l : List Int} (h : HzIs A T L hz) (hL : 2 * A ≤ L.length) (hl : ∀ x ∈ l, Pk A x) : HzIs A T (freeL A T L l) hz := fun k hk => by
  rw [freeL_load hA l L _ hL hl, if_neg, h k hk]
  rintro ⟨p, _, hp, e⟩
  rw [haz_at hk] at e
  omega
theorem prun_loads {A T : Nat} {r : Int} {W fr l hz : List Int} {L : List (Int × Int)} (hz2 : hz.length = 2 * T) (H : HzIs A T L hz) (n : Nat) :
    ∀ m a, a + m = 2 * T → ∃ accs, accs.length = m ∧ prun A T r (n + m) ⟨W, 1, a, hz.take a, fr, l⟩ L = (accs ++ (prun A T r n ⟨W, 1, 2 * T, hz, fr, l⟩ L).1, (prun A T r n ⟨W, 1, 2 * T, hz, fr, l⟩ L).2)
  | 0, a, h => by
    obtain rfl : a = 2 * T := by omega
    refine ⟨[], rfl, ?_⟩
    rw [← hz2, List.take_length]
    simp
  | m + 1, a, h => by
    obtain ⟨accs, hl, e⟩ := prun_loads (A := A) (r := r) (W := W) (fr := fr) (l := l) hz2 H n m (a + 1) (by omega)
    have ho : outB T ⟨W, 1, a, hz.take a, fr, l⟩ = true := by simp [outB]; omega
    have hn : nrm T r 4 ⟨W, 1, a, hz.take a, fr, l⟩ = ⟨W, 1, a, hz.take a, fr, l⟩ := nrm_out ho
    have ha : accS A T ⟨W, 1, a, hz.take a, fr, l⟩ = (1, hazI A T ((a : Int) / 2) ((a : Int) % 2), 0, 0) := rfl
    refine ⟨(1, hazI A T ((a : Int) / 2) ((a : Int) % 2), 0, 0) :: accs, by simp [hl], ?_⟩
    rw [← Nat.add_assoc, prun_yes (by rw [hn]; simp), hn, ha]
    have ht : tellS ⟨W, 1, a, hz.take a, fr, l⟩ (loadW L (hazI A T ((a : Int) / 2) ((a : Int) % 2))) = ⟨W, 1, a + 1, hz.take (a + 1), fr, l⟩ := by
      rw [H a (by omega), take_succ_at0 hz a (by omega)]
      rfl
    have hd : doL L (1, hazI A T ((a : Int) / 2) ((a : Int) % 2), 0, 0) = L := by simp [doL]
    simp only [ht, hd, e]
    simp
theorem prun_stores {A T : Nat} {r : Int} {W l nm : List Int} {a : Nat} (n : Nat) :
    ∀ (fr : List Int) (L : List (Int × Int)), ∃ accs, accs.length = fr.length ∧ prun A T r (n + fr.length) ⟨W, 2, a, nm, fr, l⟩ L = (accs ++ (prun A T r n ⟨W, 2, a, nm, [], l⟩ (freeL A T L fr)).1, (prun A T r n ⟨W, 2, a, nm, [], l⟩ (freeL A T L fr)).2)
  | [], L => ⟨[], rfl, by simp [freeL]⟩
  | x :: fr, L => by
    obtain ⟨accs, hl, e⟩ := prun_stores (A := A) (T := T) (r := r) (W := W) (l := l) (nm := nm) (a := a) n fr (storeL L (atI A T 1 (openP x)) (freedI x))
    have ho : outB T ⟨W, 2, a, nm, x :: fr, l⟩ = true := by simp [outB]
    have hn : nrm T r 4 ⟨W, 2, a, nm, x :: fr, l⟩ = ⟨W, 2, a, nm, x :: fr, l⟩ := nrm_out ho
    have ha : accS A T ⟨W, 2, a, nm, x :: fr, l⟩ = (2, atI A T 1 (openP x), 0, freedI x) := rfl
    refine ⟨(2, atI A T 1 (openP x), 0, freedI x) :: accs, by simp [hl], ?_⟩
    rw [List.length_cons, ← Nat.add_assoc, prun_yes (by rw [hn]; simp), hn, ha]
    have ht : ∀ z, tellS ⟨W, 2, a, nm, x :: fr, l⟩ z = ⟨W, 2, a, nm, fr, l⟩ := fun z => rfl
    have hd : doL L (2, atI A T 1 (openP x), 0, freedI x) = storeL L (atI A T 1 (openP x)) (freedI x) := by simp [doL]
    simp only [ht, hd, e]
    rfl
theorem sift_same {N : Nat} (hN : N ≤ 8192) {l nm hz : List Int} (b : Bool) (hl : ∀ x ∈ l, Pk N x) (h : ∀ x, x ≠ 0 → (x ∈ hz ↔ x ∈ nm)) : siftL l hz b = siftL l nm b := by
  unfold siftL
  refine List.filter_congr fun x hx => ?_
  have := h x ((hl x hx).pos hN)
  simp [memB, this]
/-- the machine does what the document says -/
theorem prun_sweeps {A T : Nat} (hA : A ≤ 8192) (hT : 1 ≤ T) {r : Int} {hz nm : List Int} (hr : (2 * T : Nat) < r) (hz2 : hz.length = 2 * T) (hzn : ∀ x, x ≠ 0 → (x ∈ hz ↔ x ∈ nm)) :
    ∀ (W l : List Int) (L : List (Int × Int)) (a : Nat) (nms : List Int) (n : Nat), (l ++ W).Nodup → (∀ x ∈ l ++ W, Pk A x) → 2 * A ≤ L.length → HzIs A T L hz →
      (sweepF r nm W l).2.2 * (2 * T) + (sweepF r nm W l).2.1.length < n →
      ∃ accs s', prun A T r n ⟨W, 0, a, nms, [], l⟩ L = (accs, true, s', freeL A T L (sweepF r nm W l).2.1) ∧ s'.l = (sweepF r nm W l).1 ∧ accs.length = (sweepF r nm W l).2.2 * (2 * T) + (sweepF r nm W l).2.1.length
  | [], l, L, a, nms, n, _, _, _, _, hn => by
    obtain ⟨n, rfl⟩ : ∃ m, n = m + 1 := ⟨n - 1, by omega⟩
    have ho : outB T ⟨[], 0, a, nms, [], l⟩ = true := by simp [outB]
    refine ⟨[], ⟨[], 0, a, nms, [], l⟩, ?_, rfl, by simp [sweepF]⟩
    rw [prun_no (by rw [nrm_out ho]), nrm_out ho]
    rfl
  | y :: W, l, L, a, nms, n, hnd, hpk, hL, hH, hn => by
    obtain ⟨n, rfl⟩ : ∃ m, n = m + 1 := ⟨n - 1, by omega⟩
    have ho : outB T ⟨y :: W, 0, a, nms, [], l⟩ = false := by simp [outB]
    have hi : istep r ⟨y :: W, 0, a, nms, [], l⟩ = addS r ⟨y :: W, 0, a, nms, [], l⟩ := rfl
    by_cases hf : r ≤ (l.length : Int)
    · have he : sweepF r nm (y :: W) l = ((sweepF r nm W (siftL l nm true ++ [y])).1, siftL l nm false ++ (sweepF r nm W (siftL l nm true ++ [y])).2.1, (sweepF r nm W (siftL l nm true ++ [y])).2.2 + 1) := if_pos hf
      rw [he] at hn ⊢
      simp only at hn ⊢
      have hap : addP r (y :: W) l = (y :: W, l) := if_pos hf
      have ha : addS r ⟨y :: W, 0, a, nms, [], l⟩ = ⟨y :: W, 1, 0, hz.take 0, [], l⟩ := by simp [addS, hap]
      have hpl : ∀ x ∈ l, Pk A x := fun x hx => hpk x (by simp [hx])
      have hST := sift_same hA true hpl hzn
      have hSF := sift_same hA false hpl hzn
      have hKl : (siftL l nm true).length ≤ 2 * T := by
        rw [← hST, ← hz2]
        refine nodup_len hz _ ((List.nodup_append.1 hnd).1.filter _) (fun x hx => ?_)
        have := (List.mem_filter.1 hx).2
        simp only [beq_true] at this
        exact memB_iff.1 this
      have hnk : ¬ r ≤ ((siftL l nm true).length : Int) := by omega
      have hnd' : ((siftL l nm true ++ [y]) ++ W).Nodup := by
        have h1 := List.nodup_append.1 hnd
        rw [List.append_assoc]
        refine List.nodup_append.2 ⟨h1.1.filter _, h1.2.1, fun x hx z hz' => h1.2.2 x (List.mem_filter.1 hx).1 z (by simpa using hz')⟩
      have hpk' : ∀ x ∈ (siftL l nm true ++ [y]) ++ W, Pk A x := fun x hx => by
        simp only [List.mem_append, List.mem_cons, List.not_mem_nil, or_false] at hx
        rcases hx with (q | q) | q
        · exact hpl x (List.mem_filter.1 q).1
        · exact hpk x (by simp [q])
        · exact hpk x (by simp [q])
      have hpF : ∀ x ∈ siftL l nm false, Pk A x := fun x hx => hpl x (List.mem_filter.1 hx).1
      have hmul : ((sweepF r nm W (siftL l nm true ++ [y])).2.2 + 1) * (2 * T) = (sweepF r nm W (siftL l nm true ++ [y])).2.2 * (2 * T) + 2 * T := by rw [Nat.add_mul, Nat.one_mul]
      rw [hmul, List.length_append] at hn ⊢
      obtain ⟨accs3, s3, e3, hl3, hc3⟩ := prun_sweeps hA hT hr hz2 hzn W (siftL l nm true ++ [y]) (freeL A T L (siftL l nm false)) (2 * T) hz (n + 1 - 2 * T - (siftL l nm false).length) hnd' hpk' (by rw [freeL_length]; exact hL) (hH.free hA hL hpF) (by omega)
      generalize (sweepF r nm W (siftL l nm true ++ [y])).2.2 * (2 * T) = c3 at *
      obtain ⟨n3, hn3⟩ : ∃ n3, n + 1 - 2 * T - (siftL l nm false).length = n3 + 1 := ⟨n - 2 * T - (siftL l nm false).length, by omega⟩
      rw [hn3] at e3
      obtain ⟨accs1, hl1, e1⟩ := prun_loads (A := A) (r := r) (W := y :: W) (fr := []) (l := l) hz2 hH (n3 + 1 + (siftL l nm false).length) (2 * T) 0 (by omega)
      obtain ⟨accs2, hl2, e2⟩ := prun_stores (A := A) (T := T) (r := r) (W := y :: W) (l := siftL l nm true) (nm := hz) (a := 2 * T) (n3 + 1) (siftL l nm false) L
      have e : n + 1 = n3 + 1 + (siftL l nm false).length + 2 * T := by omega
      rw [prun_istep hT (by simp) ho, hi, ha, e, e1]
      have ho1 : outB T ⟨y :: W, 1, 2 * T, hz, [], l⟩ = false := by simp [outB]
      have hi1 : istep r ⟨y :: W, 1, 2 * T, hz, [], l⟩ = ⟨y :: W, 2, 2 * T, hz, siftL l nm false, siftL l nm true⟩ := by
        rw [← hST, ← hSF]; rfl
      have ho2 : outB T ⟨y :: W, 2, 2 * T, hz, [], siftL l nm true⟩ = false := by simp [outB]
      have hi2 : istep r ⟨y :: W, 2, 2 * T, hz, [], siftL l nm true⟩ = ⟨W, 0, 2 * T, hz, [], siftL l nm true ++ [y]⟩ := by
        simp [istep, sweptS, sweptL, hnk]
      have ee : n3 + 1 + (siftL l nm false).length = (n3 + (siftL l nm false).length) + 1 := by omega
      rw [ee, prun_istep hT (by simp) ho1, hi1, ← ee, e2, prun_istep hT (by simp) ho2, hi2, e3, freeL_append]
      refine ⟨accs1 ++ (accs2 ++ accs3), s3, rfl, hl3, ?_⟩
      simp only [List.length_append]
      omega
    · have he : sweepF r nm (y :: W) l = sweepF r nm W (l ++ [y]) := if_neg hf
      rw [he] at hn ⊢
      have hap : addP r (y :: W) l = addP r W (l ++ [y]) := if_neg hf
      have ha : addS r ⟨y :: W, 0, a, nms, [], l⟩ = addS r ⟨W, 0, a, nms, [], l ++ [y]⟩ := by simp [addS, hap]
      have hih := prun_sweeps hA hT hr hz2 hzn W (l ++ [y]) L a nms (n + 1) (by simpa using hnd) (by simpa using hpk) hL hH hn
      rw [prun_istep hT (by simp) ho, hi, ha]
      cases W with
      | nil =>
        have : addS r ⟨[], 0, a, nms, [], l ++ [y]⟩ = ⟨[], 0, a, nms, [], l ++ [y]⟩ := by simp [addS, addP]
        rw [this]
        exact hih
      | cons z W =>
        have ho2 : outB T ⟨z :: W, 0, a, nms, [], l ++ [y]⟩ = false := by simp [outB]
        rw [prun_istep hT (by simp) ho2] at hih
        exact hih
end Go.Proofs.Ytchkiacmiljopaa.MemP
