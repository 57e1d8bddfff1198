/-
  retire: the plain machine while others write into hazards: nothing is lost, nothing that one hazard names is freed.
-/
import Derived.Test.YtchkiacmiljopaaRetS
namespace Go.Proofs.Ytchkiacmiljopaa.MemP
open Go.RowKit RefP CellP HazP
set_option linter.unusedVariables false
set_option linter.unusedSimpArgs false
def frS (s : RS) : List Int := if s.st = 2 then s.fr else []
structure Kp (T : Nat) (ws : List Int) (p0 : Int) (s : RS) (fw : List Int) : Prop where
  perm : (fw ++ (s.W ++ (frS s ++ s.l))).Perm ws
  fit : Fit T s
  hz : s.st = 1 → 0 < s.nm.length → at0 s.nm 0 = p0
  two : s.st = 2 → s.l.length ≤ 2 * T ∧ p0 ∉ s.fr
  fw : p0 ∉ fw
theorem addP_perm (r : Int) : ∀ W l, ((addP r W l).1 ++ (addP r W l).2).Perm (W ++ l)
  | [], l => by simp [addP]
  | x :: W, l => by
    unfold addP
    split
    · exact List.Perm.refl _
    · refine (addP_perm r W (l ++ [x])).trans ?_
      rw [← List.append_assoc]
      exact (List.perm_append_comm (l₁ := W ++ l) (l₂ := [x]))
theorem sift_perm (l nm : List Int) : (siftL l nm false ++ siftL l nm true).Perm l := by
  have h := List.filter_append_perm (fun x => memB nm x == false) l
  have e : siftL l nm true = l.filter (fun x => !(memB nm x == false)) := by
    unfold siftL
    refine List.filter_congr fun x _ => ?_
    cases memB nm x <;> rfl
  rw [e]
  exact h
theorem Kp.istep {T : Nat} {r : Int} {ws : List Int} {p0 : Int} {s : RS} {fw : List Int} (hT : 1 ≤ T) (hr : ((2 * T : Nat) : Int) < r) (hn : ws.Nodup) (h : Kp T ws p0 s fw) (ho : outB T s = false) : Kp T ws p0 (MemP.istep r s) fw := by
  have hf := (istep_fit (r := r) h.fit ho).1
  obtain ⟨W, st, a, nm, fr, l⟩ := s
  have hst := h.fit.st
  simp only at hst
  have hp := h.perm
  have h012 : st = 0 ∨ st = 1 ∨ st = 2 := by omega
  rcases h012 with rfl | rfl | rfl
  · have hap := addP_perm r W l
    have hi : MemP.istep r ⟨W, 0, a, nm, fr, l⟩ = addS r ⟨W, 0, a, nm, fr, l⟩ := rfl
    rw [hi] at hf ⊢
    simp only [frS] at hp
    by_cases he : (addP r W l).1 = []
    · have e : addS r ⟨W, 0, a, nm, fr, l⟩ = ⟨[], 0, a, nm, fr, (addP r W l).2⟩ := by simp [addS, he]
      rw [e] at hf ⊢
      rw [he] at hap
      refine ⟨?_, hf, by simp, by simp, h.fw⟩
      simp only [frS]
      exact (List.Perm.append_left fw (by simpa using hap)).trans (by simpa using hp)
    · have e : addS r ⟨W, 0, a, nm, fr, l⟩ = ⟨(addP r W l).1, 1, 0, [], fr, (addP r W l).2⟩ := by simp [addS, he]
      rw [e] at hf ⊢
      refine ⟨?_, hf, by simp, by simp, h.fw⟩
      simp only [frS]
      exact (List.Perm.append_left fw (by simpa using hap)).trans (by simpa using hp)
  · have hi : MemP.istep r ⟨W, 1, a, nm, fr, l⟩ = ⟨W, 2, a, nm, siftL l nm false, siftL l nm true⟩ := rfl
    rw [hi] at hf ⊢
    have hat := h.fit.at' rfl
    simp only at hat
    have hge : 2 * T ≤ a := by
      simp [outB] at ho
      omega
    have hnl : nm.length = 2 * T := by omega
    simp only [frS] at hp
    have hnd : l.Nodup := by
      have h1 := (hp.nodup_iff).2 hn
      have h2 := (List.nodup_append.1 h1).2.1
      have h3 := (List.nodup_append.1 h2).2.1
      simpa using h3
    have hz := h.hz rfl (show 0 < nm.length by omega)
    simp only at hz
    refine ⟨?_, hf, by simp, fun _ => ⟨?_, fun hm => ?_⟩, h.fw⟩
    · simp only [frS]
      refine (List.Perm.append_left fw (List.Perm.append_left W (sift_perm l nm))).trans (by simpa using hp)
    · rw [← hnl]
      refine nodup_len nm _ (hnd.filter _) (fun x hx => ?_)
      have := (List.mem_filter.1 hx).2
      simp only [beq_true] at this
      exact memB_iff.1 this
    · have := (List.mem_filter.1 hm).2
      have hmem : memB nm p0 = true := memB_iff.2 (by rw [← hz]; exact at0_mem nm 0 (by omega))
      rw [hmem] at this
      simp at this
  · have h2 := h.two rfl
    simp only at h2
    have hW := h.fit.w (by simp)
    simp only at hW
    obtain ⟨y, W, rfl⟩ : ∃ y W', W = y :: W' := by
      cases W with
      | nil => exact absurd rfl hW
      | cons y W => exact ⟨y, W, rfl⟩
    have hf0 : fr = [] := by simpa [outB] using ho
    subst hf0
    have hi : MemP.istep r ⟨y :: W, 2, a, nm, [], l⟩ = ⟨W, 0, a, nm, [], l ++ [y]⟩ := by
      have : ¬ r ≤ (l.length : Int) := by omega
      simp [MemP.istep, sweptS, sweptL, this]
    rw [hi] at hf ⊢
    refine ⟨?_, hf, by simp, by simp, h.fw⟩
    simp only [frS] at hp ⊢
    have hq : (W ++ (l ++ [y])).Perm (y :: (W ++ l)) := by
      rw [← List.append_assoc]
      exact List.perm_append_comm (l₂ := [y])
    exact (List.Perm.append_left fw (by simpa using hq)).trans (by simpa using hp)
theorem Kp.nrm {T : Nat} {r : Int} {ws : List Int} {p0 : Int} {fw : List Int} (hT : 1 ≤ T) (hr : ((2 * T : Nat) : Int) < r) (hn : ws.Nodup) : ∀ (n : Nat) {s : RS}, Kp T ws p0 s fw → Kp T ws p0 (MemP.nrm T r n s) fw
  | 0, s, h => h
  | n + 1, s, h => by
    unfold MemP.nrm
    split
    · exact h
    · rename_i ho
      exact Kp.nrm hT hr hn n (h.istep hT hr hn (by simpa using ho))
theorem Kp.load {T : Nat} {ws : List Int} {p0 : Int} {fw : List Int} {W : List Int} {a : Nat} {nm fr l : List Int} (h : Kp T ws p0 ⟨W, 1, a, nm, fr, l⟩ fw) (ho : outB T ⟨W, 1, a, nm, fr, l⟩ = true) (x : Int) (hx : a = 0 → x = p0) : Kp T ws p0 (tellS ⟨W, 1, a, nm, fr, l⟩ x) fw := by
  have hf := (tell_fit h.fit ho (by simp) x).1
  have hat := h.fit.at' rfl
  simp only at hat
  refine ⟨h.perm, hf, fun _ _ => ?_, fun e => by simp [tellS] at e, h.fw⟩
  show at0 (nm ++ [x]) 0 = p0
  cases hn : nm with
  | nil =>
    rw [hn] at hat
    simp at hat
    simpa [at0] using hx (by omega)
  | cons y nm' =>
    have := h.hz rfl (show 0 < nm.length by rw [hn]; simp)
    rw [hn] at this
    simpa [at0] using this
theorem Kp.store {T : Nat} {ws : List Int} {p0 : Int} {fw : List Int} {W : List Int} {a : Nat} {nm fr l : List Int} {y : Int} (h : Kp T ws p0 ⟨W, 2, a, nm, y :: fr, l⟩ fw) (x : Int) : Kp T ws p0 (tellS ⟨W, 2, a, nm, y :: fr, l⟩ x) (fw ++ [y]) := by
  have hf := (tell_fit h.fit (by simp [outB]) (by simp) x).1
  have h2 := h.two rfl
  simp only [List.mem_cons, not_or] at h2
  refine ⟨?_, hf, fun e => by simp [tellS] at e, fun _ => ⟨h2.1, h2.2.2⟩, fun hm => ?_⟩
  · have hp := h.perm
    simp only [frS, if_pos] at hp
    show ((fw ++ [y]) ++ (W ++ (fr ++ l))).Perm ws
    refine List.Perm.trans ?_ hp
    rw [List.append_assoc]
    refine List.Perm.append_left fw ?_
    show (y :: (W ++ (fr ++ l))).Perm (W ++ (y :: (fr ++ l)))
    exact List.perm_middle.symm
  · rcases List.mem_append.1 hm with q | q
    · exact h.fw q
    · simp at q; exact h2.2.1 q
theorem Kp.fresh {T : Nat} {W : List Int} {p0 : Int} : Kp T W p0 ⟨W, 0, 0, [], [], []⟩ [] := ⟨by simp [frS], ⟨by simp, by simp, by simp⟩, by simp, by simp, by simp⟩
theorem Kp.over {T : Nat} {ws : List Int} {p0 : Int} {s : RS} {fw : List Int} (h : Kp T ws p0 s fw) (h0 : s.st = 0) (ho : outB T s = true) : fw.length + s.l.length = ws.length := by
  have hW : s.W = [] := by
    simp only [outB, h0] at ho
    simpa using ho
  have := h.perm.length_eq
  simpa [hW, frS, h0] using this
end Go.Proofs.Ytchkiacmiljopaa.MemP
