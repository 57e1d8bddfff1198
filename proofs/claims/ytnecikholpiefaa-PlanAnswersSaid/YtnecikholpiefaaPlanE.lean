/-
  What hands out words: contract.
-/
import Derived.Test.YtnecikholpiefaaPlanQ
namespace Go.Proofs.Ytnecikholpiefaa.Dp
open Go.RowKit RefP
set_option linter.unusedVariables false
set_option linter.unusedSimpArgs false
theorem words_tail {w : World} {S : List Nat} {b off c : Nat} {l : List Int} (h : HRow u64C w S ⟨some ⟨b, off, none⟩, c⟩ l) (h0 : 0 < l.length) (h1 : 1 < c) : HRow u64C w S ⟨some ⟨b, off + 1, none⟩, c - 1⟩ l.tail := by
  have hle := h.le
  have hcap := h.cap
  simp only at hle hcap
  refine ⟨by simp only [List.length_tail]; omega, by show c - 1 ≤ maxLen; omega, fun ht => ?_⟩
  obtain ⟨b', off', ha, hb, hn, hc⟩ := h.row h0
  simp only [Option.some.injEq, Addr.mk.injEq, and_true] at ha
  obtain ⟨rfl, rfl⟩ := ha
  refine ⟨b, off + 1, rfl, hb, hn, fun i x hx => ?_⟩
  rw [List.getElem?_tail] at hx
  obtain ⟨cs, hr, hv⟩ := hc (i + 1) x hx
  refine ⟨cs, hr, fun j v hj => ?_⟩
  have := hv j v hj
  rw [show off + 1 + i * u64C.k + j = off + (i + 1) * u64C.k + j by rw [Nat.succ_mul]; show off + 1 + i * 1 + j = off + (i * 1 + 1) + j; omega]
  exact this
theorem words_one {w : World} {S : List Nat} {q : Hd} {l : List Int} (h : HRow u64C w S q l) (h1 : q.c ≤ 1) (a : Option Addr) (c : Nat) (hc : c ≤ maxLen) : HRow u64C w S ⟨a, c⟩ l.tail := by
  have hle := h.le
  have e : l.tail = [] := by
    apply List.eq_nil_of_length_eq_zero
    rw [List.length_tail]; omega
  rw [e]
  exact ⟨Nat.zero_le _, hc, RowRep.nil _ _ _ _⟩
abbrev handA (q : Hd) (l : List Int) : Array Value := #[.slice q.a l.length q.c]
/-- the next word -/
def HandNext (w : World) (S : List Nat) (hb : Nat) (l : List Int) (e : Ending) (w' : World) : Prop :=
  ∃ q : Hd, e = .returned (.int .u64 (l.headD 0)) ∧ w' = w.setCell ⟨hb, 0, none⟩ (.slice q.a l.tail.length q.c) ∧ HRow u64C w S q l.tail
set_option maxHeartbeats 1600000 in
theorem next_11 (hb b off : Nat) (x : Int) (w : World) (B : Blk w hb #[.slice (some ⟨b, off, none⟩) 1 1] 68) (hc : w.cell? ⟨b, off, none⟩ = some (.int .u64 x)) :
    Calls Try.prog 22 #[.pointer (some ⟨hb, 0, none⟩)] w fun e w' => e = .returned (.int .u64 x) ∧ w' = w.setCell ⟨hb, 0, none⟩ (.slice (some ⟨b, off, none⟩) 0 0) := by
  have c0 := B.at 0 rfl
  have f0 := B.free 0
  go_enter Try.func22, Try.ntmps22
  go_wp2_with fail
  go_ret
  exact ⟨rfl, rfl⟩
set_option maxHeartbeats 1600000 in
theorem next_n (hb b off n c : Nat) (x : Int) (w : World) (B : Blk w hb #[.slice (some ⟨b, off, none⟩) n c] 68) (hc : w.cell? ⟨b, off, none⟩ = some (.int .u64 x)) (h0 : 0 < n) (h1 : n ≤ c) (h2 : 1 < c) (h3 : c ≤ 9223372036854775807) :
    Calls Try.prog 22 #[.pointer (some ⟨hb, 0, none⟩)] w fun e w' => e = .returned (.int .u64 x) ∧ w' = w.setCell ⟨hb, 0, none⟩ (.slice (some ⟨b, off + 1, none⟩) (n - 1) (c - 1)) := by
  have c0 := B.at 0 rfl
  have f0 := B.free 0
  have h0' : (0 : Int) < (n : Int) := by omega
  have h0'' : (1 : Int) ≤ (n : Int) := by omega
  have h1' : (n : Int) ≤ (c : Int) := by omega
  go_enter Try.func22, Try.ntmps22
  go_wp2_with fail
  go_ret
  exact ⟨rfl, rfl⟩
theorem next_any (S : List Nat) (hb : Nat) (q : Hd) (l : List Int) (w : World) (B : Blk w hb (handA q l) 68) (H : HRow u64C w S q l) (h0 : 0 < l.length) :
    Calls Try.prog 22 #[.pointer (some ⟨hb, 0, none⟩)] w fun e w' => HandNext w S hb l e w' := by
  have hmx : (maxLen : Nat) = 9223372036854775807 := by unfold maxLen; rfl
  have hle := H.le
  have hcap := H.cap
  obtain ⟨b, off, ha, hbl, hc, hu⟩ := word_cell H 0 h0
  rw [Nat.add_zero] at hc
  obtain ⟨qa, qc⟩ := q
  simp only at ha hle hcap
  subst ha
  have hh : l.headD 0 = l[0] := by
    cases l with
    | nil => simp at h0
    | cons x l => rfl
  have htl : l.tail.length = l.length - 1 := List.length_tail
  by_cases hc1 : qc ≤ 1
  · have e1 : l.length = 1 := by omega
    have e2 : qc = 1 := by omega
    subst e2
    have htl0 : l.tail.length = 0 := by omega
    have B' : Blk w hb #[.slice (some ⟨b, off, none⟩) 1 1] 68 := by
      have e : handA ⟨some ⟨b, off, none⟩, 1⟩ l = #[.slice (some ⟨b, off, none⟩) l.length 1] := rfl
      rw [e, e1] at B
      exact B
    refine (next_11 hb b off _ w B' hc).mono ?_
    rintro e w' ⟨rfl, rfl⟩
    refine ⟨⟨some ⟨b, off, none⟩, 0⟩, by rw [hh], ?_, words_one H (by show 1 ≤ 1; omega) _ _ (Nat.zero_le _)⟩
    rw [htl0]
  · refine (next_n hb b off l.length qc _ w B hc h0 hle (by omega) (by omega)).mono ?_
    rintro e w' ⟨rfl, rfl⟩
    refine ⟨⟨some ⟨b, off + 1, none⟩, qc - 1⟩, by rw [hh], ?_, words_tail H h0 (by omega)⟩
    rw [htl]
end Go.Proofs.Ytnecikholpiefaa.Dp
