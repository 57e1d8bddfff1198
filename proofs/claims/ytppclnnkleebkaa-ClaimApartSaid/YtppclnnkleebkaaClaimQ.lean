/-
  claim: tasks as plain things: no block is claimed twice; how many accesses there are; what it means that a task ends.
-/
import Derived.Test.YtppclnnkleebkaaClaimT
namespace Go.Proofs.Ytppclnnkleebkaa.MemP
open Go.RowKit RefP CellP
set_option linter.unusedVariables false
set_option linter.unusedSimpArgs false
/-- a task of claiming -/
structure QS where
  l : List Int
  place : Nat
  seen : Nat
  ld : Bool
  word : Int
  ver : Int
def overQ (n many : Nat) (s : QS) : Prop := many ≤ s.l.length ∨ n ≤ s.seen
instance (n many : Nat) (s : QS) : Decidable (overQ n many s) := by unfold overQ; exact inferInstance
def accQ (n T : Nat) (s : QS) : Int × Int × Int × Int := if s.ld = true then (1, atI n T 1 s.place, 0, 0) else (3, atI n T 1 s.place, s.ver, useI 1 (stateG s.word + 1))
def onQ (n : Nat) (s : QS) : QS := { s with place := (s.place + 1) % n, seen := s.seen + 1, ld := true }
def gotQ (n : Nat) (s : QS) : QS := { s with l := s.l ++ [packI s.place (stateG s.word + 1)], place := (s.place + 1) % n, seen := 0, ld := true }
/-- behind an access -/
def tellQ (n T : Nat) (s : QS) (L : List (Int × Int)) : QS :=
  if s.ld = true then (if mayI (loadW L (atI n T 1 s.place)) = true then { s with word := loadW L (atI n T 1 s.place), ver := loadV L (atI n T 1 s.place), ld := false } else onQ n s)
  else if casB L (atI n T 1 s.place) s.ver = true then gotQ n s else onQ n s
def doQ (n T : Nat) (s : QS) (L : List (Int × Int)) : List (Int × Int) := if s.ld = true then L else casL L (atI n T 1 s.place) s.ver (useI 1 (stateG s.word + 1))
/-- the statements' Run: how many accesses, whether it ended, what is then -/
def qrun (n T many : Nat) : Nat → QS → List (Int × Int) → Nat × Bool × QS × List (Int × Int)
  | 0, s, L => (0, false, s, L)
  | m + 1, s, L => if overQ n many s then (0, true, s, L) else ((qrun n T many m (tellQ n T s L) (doQ n T s L)).1 + 1, (qrun n T many m (tellQ n T s L) (doQ n T s L)).2)
/-! cells behind what was claimed -/
def w0 (n : Nat) (L0 : List (Int × Int)) (p : Nat) : Int := loadW L0 ((n : Int) + p)
def v0 (n : Nat) (L0 : List (Int × Int)) (p : Nat) : Int := loadV L0 ((n : Int) + p)
def wd (n : Nat) (L0 : List (Int × Int)) (p : Nat) : Int := packI p (stateG (w0 n L0 p) + 1)
structure CI (n : Nat) (L0 L : List (Int × Int)) (cl : List Nat) : Prop where
  len : L.length = L0.length ∧ 2 * n ≤ L0.length
  nd : cl.Nodup
  lt : ∀ p ∈ cl, p < n ∧ mayI (w0 n L0 p) = true
  yes : ∀ p, p < n → p ∈ cl → loadW L ((n : Int) + p) = useI 1 (stateG (w0 n L0 p) + 1) ∧ loadV L ((n : Int) + p) = nextV (v0 n L0 p)
  no : ∀ p, p < n → p ∉ cl → loadW L ((n : Int) + p) = w0 n L0 p ∧ loadV L ((n : Int) + p) = v0 n L0 p
  rng : Rng L0
def Ud (n : Nat) (L0 : List (Int × Int)) (c o : List Nat) (p : Nat) : Prop := p ∈ c ∨ p ∈ o ∨ mayI (w0 n L0 p) = false
structure TI (n : Nat) (L0 : List (Int × Int)) (c o : List Nat) (s : QS) : Prop where
  l : s.l = c.map (wd n L0)
  pl : s.place < n
  sn : s.seen ≤ n
  us : ∀ d, d < s.seen → Ud n L0 c o ((s.place + n - 1 - d) % n)
  ld : s.ld = false → s.seen < n ∧ mayI (w0 n L0 s.place) = true ∧ s.word = w0 n L0 s.place ∧ s.ver = v0 n L0 s.place
theorem CI.swap {n : Nat} {L0 L : List (Int × Int)} {c o : List Nat} (h : CI n L0 L (c ++ o)) : CI n L0 L (o ++ c) := by
  have hm : ∀ p, p ∈ o ++ c ↔ p ∈ c ++ o := fun p => by simp [or_comm]
  exact ⟨h.len, (List.perm_append_comm.nodup_iff).1 h.nd, fun p hp => h.lt p ((hm p).1 hp), fun p h1 h2 => h.yes p h1 ((hm p).1 h2), fun p h1 h2 => h.no p h1 (fun k => h2 ((hm p).2 k)), h.rng⟩
theorem TI.more {n : Nat} {L0 : List (Int × Int)} {c o o' : List Nat} {s : QS} (h : TI n L0 c o s) (k : ∀ p ∈ o, p ∈ o') : TI n L0 c o' s :=
  ⟨h.l, h.pl, h.sn, fun d hd => by
    rcases h.us d hd with q | q | q
    · exact .inl q
    · exact .inr (.inl (k _ q))
    · exact .inr (.inr q), h.ld⟩
theorem back_mod {n place d : Nat} (hp : place < n) (hd : d < n) : ((place + 1) % n + n - 1 - d) % n = if d = 0 then place else (place + n - 1 - (d - 1)) % n := by
  by_cases h1 : place + 1 < n
  · rw [Nat.mod_eq_of_lt h1]
    split
    · rename_i h0
      subst h0
      rw [show place + 1 + n - 1 - 0 = place + n by omega, Nat.add_mod_right, Nat.mod_eq_of_lt hp]
    · rw [show place + 1 + n - 1 - d = place + n - 1 - (d - 1) by omega]
  · obtain rfl : n = place + 1 := by omega
    rw [Nat.mod_self]
    split
    · rename_i h0
      subst h0
      rw [show 0 + (place + 1) - 1 - 0 = place by omega, Nat.mod_eq_of_lt (by omega)]
    · rw [show place + (place + 1) - 1 - (d - 1) = (0 + (place + 1) - 1 - d) + (place + 1) by omega, Nat.add_mod_right]
/-- when so many places were seen as there are, all are used -/
theorem TI.all {n : Nat} {L0 : List (Int × Int)} {c o : List Nat} {s : QS} (h : TI n L0 c o s) (hs : n ≤ s.seen) (p : Nat) (hp : p < n) : Ud n L0 c o p := by
  have hpl := h.pl
  by_cases hlt : p < s.place
  · have := h.us (s.place - 1 - p) (by omega)
    rwa [show s.place + n - 1 - (s.place - 1 - p) = p + n by omega, Nat.add_mod_right, Nat.mod_eq_of_lt hp] at this
  · have := h.us (s.place + n - 1 - p) (by omega)
    rwa [show s.place + n - 1 - (s.place + n - 1 - p) = p by omega, Nat.mod_eq_of_lt hp] at this
theorem TI.on {n : Nat} {L0 : List (Int × Int)} {c o : List Nat} {s : QS} (h : TI n L0 c o s) (hn : 1 ≤ n) (hs : s.seen < n) (hu : Ud n L0 c o s.place) : TI n L0 c o (onQ n s) := by
  refine ⟨h.l, Nat.mod_lt _ hn, hs, fun d hd => ?_, fun e => by simp [onQ] at e⟩
  show Ud n L0 c o (((s.place + 1) % n + n - 1 - d) % n)
  have hd' : d < s.seen + 1 := hd
  rw [back_mod h.pl (by omega)]
  split
  · exact hu
  · exact h.us (d - 1) (by omega)
def potQ (n many : Nat) (s : QS) : Nat := 2 * n * (many - s.l.length) - (2 * s.seen + (if s.ld = true then 0 else 1))
def doneQ (n : Nat) (s : QS) : Nat := 2 * n * s.l.length + 2 * s.seen + (if s.ld = true then 0 else 1)
theorem useI_not (g : Int) (hg : 0 ≤ g ∧ g ≤ 4294967295) : mayI (useI 1 g) = false := by
  have hu : useI 1 g = g * 4 + 1 := useI_yes _ _ (by omega) (by omega) hg.2
  unfold mayI
  cases hs : statesB (useI 1 g)
  · rfl
  · have : stateS (useI 1 g) = 1 := by rw [stateS_yes hs, hu]; omega
    rw [this]
    simp
theorem mayI_yes {x : Int} (h : mayI x = true) : statesB x = true ∧ stateS x = 0 ∧ stateG x < 4294967295 := by
  unfold mayI at h
  simp only [Bool.and_eq_true, beq_iff_eq, decide_eq_true_eq] at h
  exact ⟨h.1, h.2.1, h.2.2⟩
theorem mayI_gen {x : Int} (h : mayI x = true) (h0 : 0 ≤ x) : 0 ≤ stateG x + 1 ∧ stateG x + 1 ≤ 4294967295 := by
  have k := mayI_yes h
  have := (state_bounds x h0).2.2
  omega
/-- one access of a task -/
theorem step_q {n T : Nat} {L0 L : List (Int × Int)} {c o : List Nat} {s : QS} {many : Nat} (hn : 1 ≤ n) (hC : CI n L0 L (c ++ o)) (h : TI n L0 c o s) (ho : ¬ overQ n many s) :
    ∃ c', CI n L0 (doQ n T s L) (c' ++ o) ∧ TI n L0 c' o (tellQ n T s L) ∧ (∀ p ∈ c, p ∈ c') ∧ potQ n many (tellQ n T s L) + 1 ≤ potQ n many s ∧ doneQ n s + 1 ≤ doneQ n (tellQ n T s L) ∧ c.length ≤ c'.length := by
  have ho1 : s.l.length < many ∧ s.seen < n := by unfold overQ at ho; omega
  have hpl := h.pl
  have hat : atI n T 1 (s.place : Int) = (n : Int) + s.place := by
    rw [atI_yes (by omega) (by simp [sizeI]; omega)]
    simp [fromI]
  have hlen := hC.len
  have hin : inB L.length ((n : Int) + s.place) = true := inB_mk (by omega) (by omega)
  have hK : 2 * n * (many - s.l.length) = 2 * n * (many - (s.l.length + 1)) + 2 * n := by
    rw [show many - s.l.length = (many - (s.l.length + 1)) + 1 by omega, Nat.mul_add, Nat.mul_one]
  cases hld : s.ld
  · -- it writes
    obtain ⟨hs, hm, hw, hv⟩ := h.ld hld
    have hr0 := load_rng hC.rng ((n : Int) + s.place)
    have hg := mayI_gen hm hr0.1.1
    have hd : doQ n T s L = casL L ((n : Int) + s.place) s.ver (useI 1 (stateG s.word + 1)) := by simp [doQ, hld, hat]
    by_cases hmem : s.place ∈ c ++ o
    · have hy := hC.yes s.place hpl hmem
      have hne : casB L ((n : Int) + s.place) s.ver = false := by
        unfold casB
        rw [hin, Bool.true_and, decide_eq_false_iff_not, ← loadV_yes hin, hy.2, hv]
        exact nextV_ne hr0.2.1 hr0.2.2
      have ht : tellQ n T s L = onQ n s := by simp [tellQ, hld, hat, hne]
      rw [hd, casL_no _ hne, ht]
      refine ⟨c, hC, h.on hn hs (by rcases List.mem_append.1 hmem with q | q; exact .inl q; exact .inr (.inl q)), fun p hp => hp, ?_, ?_, Nat.le_refl _⟩
      · simp only [potQ, onQ, hld]; simp; omega
      · simp only [doneQ, onQ, hld]; simp; omega
    · have hno := hC.no s.place hpl hmem
      have hyes : casB L ((n : Int) + s.place) s.ver = true := by
        unfold casB
        rw [hin, Bool.true_and, decide_eq_true_eq, ← loadV_yes hin, hno.2, hv]
      have ht : tellQ n T s L = gotQ n s := by simp [tellQ, hld, hat, hyes]
      rw [hd, casL_yes _ hyes, ht]
      have hwr : ∀ j : Nat, j < n → (loadW (writeL L ((n : Int) + s.place) (useI 1 (stateG s.word + 1))) ((n : Int) + j) = if j = s.place then useI 1 (stateG s.word + 1) else loadW L ((n : Int) + j)) ∧
          (loadV (writeL L ((n : Int) + s.place) (useI 1 (stateG s.word + 1))) ((n : Int) + j) = if j = s.place then nextV (loadV L ((n : Int) + s.place)) else loadV L ((n : Int) + j)) := fun j hj => by
        have hl : (writeL L ((n : Int) + s.place) (useI 1 (stateG s.word + 1))).length = L.length := writeL_length _ _ _
        have hjn : inB L.length ((n : Int) + j) = true := inB_mk (by omega) (by omega)
        rw [loadW_yes (by rw [hl]; exact hjn), loadV_yes (by rw [hl]; exact hjn), loadW_yes hjn, loadV_yes hjn, loadV_yes hin]
        have hlt : ((n : Int) + s.place).toNat < L.length := by omega
        by_cases e : j = s.place
        · subst e
          simp [at2, writeL, List.getElem?_set, hlt]
        · have hne : ¬ ((n : Int) + s.place).toNat = ((n : Int) + j).toNat := by omega
          simp [at2, writeL, List.getElem?_set, hne, e]
      have hmc : s.place ∉ c := fun k => hmem (by simp [k])
      have hmo : s.place ∉ o := fun k => hmem (by simp [k])
      have hmm : ∀ p, p ∈ (c ++ [s.place]) ++ o ↔ p = s.place ∨ p ∈ c ++ o := fun p => by simp [or_assoc, or_comm, or_left_comm]
      have hnd : ((c ++ [s.place]) ++ o).Nodup := by
        have hp : ((c ++ [s.place]) ++ o).Perm (s.place :: (c ++ o)) := by
          rw [List.append_assoc]
          exact List.perm_middle
        exact (hp.nodup_iff).2 (List.nodup_cons.2 ⟨hmem, hC.nd⟩)
      refine ⟨c ++ [s.place], ⟨⟨by rw [writeL_length]; exact hC.len.1, hC.len.2⟩, hnd, fun p hp => ?_, fun p h1 h2 => ?_, fun p h1 h2 => ?_, hC.rng⟩, ⟨?_, Nat.mod_lt _ hn, by simp [gotQ], fun d hd => by simp [gotQ] at hd, fun e => by simp [gotQ] at e⟩, fun p hp => by simp [hp], ?_, ?_, by simp⟩
      · rcases (hmm p).1 hp with e | e
        · subst e; exact ⟨hpl, hm⟩
        · exact hC.lt p e
      · rw [(hwr p h1).1, (hwr p h1).2]
        by_cases e : p = s.place
        · subst e
          rw [if_pos rfl, if_pos rfl, hw, hno.2]
          exact ⟨rfl, rfl⟩
        · rw [if_neg e, if_neg e]
          exact hC.yes p h1 (by rcases (hmm p).1 h2 with q | q; exact absurd q e; exact q)
      · rw [(hwr p h1).1, (hwr p h1).2]
        have e : p ≠ s.place := fun e => h2 ((hmm p).2 (.inl e))
        rw [if_neg e, if_neg e]
        exact hC.no p h1 (fun k => h2 ((hmm p).2 (.inr k)))
      · show s.l ++ [packI s.place (stateG s.word + 1)] = (c ++ [s.place]).map (wd n L0)
        rw [h.l, List.map_append, hw]
        rfl
      · simp only [potQ, gotQ, hld, List.length_append, List.length_cons, List.length_nil]; simp; omega
      · simp only [doneQ, gotQ, hld, List.length_append, List.length_cons, List.length_nil, Nat.mul_add]; simp; omega
  · -- it loads
    have hd : doQ n T s L = L := by simp [doQ, hld]
    rw [hd]
    by_cases hmay : mayI (loadW L ((n : Int) + s.place)) = true
    · have ht : tellQ n T s L = { s with word := loadW L ((n : Int) + s.place), ver := loadV L ((n : Int) + s.place), ld := false } := by simp [tellQ, hld, hat, hmay]
      rw [ht]
      have hnm : s.place ∉ c ++ o := fun k => by
        have hy := (hC.yes s.place hpl k).1
        have hr0 := load_rng hC.rng ((n : Int) + s.place)
        rw [hy, useI_not _ (mayI_gen (hC.lt _ k).2 hr0.1.1)] at hmay
        cases hmay
      have hno := hC.no s.place hpl hnm
      refine ⟨c, hC, ⟨h.l, h.pl, h.sn, h.us, fun _ => ⟨ho1.2, by rw [← hno.1]; exact hmay, hno.1, hno.2⟩⟩, fun p hp => hp, ?_, ?_, Nat.le_refl _⟩
      · simp only [potQ, hld]; simp; omega
      · simp only [doneQ, hld]; simp
    · have ht : tellQ n T s L = onQ n s := by simp [tellQ, hld, hat, hmay]
      rw [ht]
      have hu : Ud n L0 c o s.place := by
        by_cases hmem : s.place ∈ c ++ o
        · rcases List.mem_append.1 hmem with q | q
          · exact .inl q
          · exact .inr (.inl q)
        · rw [(hC.no s.place hpl hmem).1] at hmay
          exact .inr (.inr (by simpa using hmay))
      refine ⟨c, hC, h.on hn ho1.2 hu, fun p hp => hp, ?_, ?_, Nat.le_refl _⟩
      · simp only [potQ, onQ, hld]; simp; omega
      · simp only [doneQ, onQ, hld]; simp; omega
/-- a whole Run -/
theorem qrun_all {n T many : Nat} {L0 : List (Int × Int)} {o : List Nat} (hn : 1 ≤ n) : ∀ (m : Nat) {c : List Nat} {s : QS} {L : List (Int × Int)}, CI n L0 L (c ++ o) → TI n L0 c o s → potQ n many s < m →
    ∃ c', (qrun n T many m s L).2.1 = true ∧ overQ n many (qrun n T many m s L).2.2.1 ∧ CI n L0 (qrun n T many m s L).2.2.2 (c' ++ o) ∧ TI n L0 c' o (qrun n T many m s L).2.2.1 ∧ (∀ p ∈ c, p ∈ c') ∧ (qrun n T many m s L).1 ≤ potQ n many s ∧ doneQ n s + (qrun n T many m s L).1 ≤ doneQ n (qrun n T many m s L).2.2.1
  | 0, c, s, L, hC, h, hp => by omega
  | m + 1, c, s, L, hC, h, hp => by
    by_cases ho : overQ n many s
    · have e : qrun n T many (m + 1) s L = (0, true, s, L) := if_pos ho
      rw [e]
      exact ⟨c, rfl, ho, hC, h, fun p hp => hp, Nat.zero_le _, Nat.le_refl _⟩
    · have e : qrun n T many (m + 1) s L = ((qrun n T many m (tellQ n T s L) (doQ n T s L)).1 + 1, (qrun n T many m (tellQ n T s L) (doQ n T s L)).2) := if_neg ho
      obtain ⟨c1, hC1, h1, hs1, hp1, hd1, _⟩ := step_q (T := T) (many := many) hn hC h ho
      obtain ⟨c2, q1, q2, q3, q4, q5, q6, q7⟩ := qrun_all (T := T) (many := many) hn m hC1 h1 (by omega)
      rw [e]
      exact ⟨c2, q1, q2, q3, q4, fun p hp => q5 p (hs1 p hp), by simp only; omega, by simp only; omega⟩
end Go.Proofs.Ytppclnnkleebkaa.MemP
