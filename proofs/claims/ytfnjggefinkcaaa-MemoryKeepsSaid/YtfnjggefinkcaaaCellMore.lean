/-
  cell.Clone, the document's Write, and the law's like: contracts.
-/
import Derived.Test.YtfnjggefinkcaaaCellLives
import Derived.Test.YtfnjggefinkcaaaOwns
import Derived.StillTailTactics
import Derived.Deep.DeepCutAuto
namespace Go.Proofs.Ytfnjggefinkcaaa.CellP
open Go.RowKit RefP
set_option linter.unusedVariables false
set_option linter.unusedSimpArgs false

theorem infoCell : (Try.prog.info? 76).map (fun i => (i.zero, i.size, i.bytes)) = some (some (.agg #[.int .u64 0, .int .u64 0]), 2, 16) := by kernel_rfl
/-- new pairs in which one was written -/
def WroteAt (w : World) (l : List (Int × Int)) (e : Ending) (w' : World) : Prop :=
  ∃ a c, e = .returned (.slice a l.length c) ∧ PairsS w' a l ∧ Below w.heap.size w w' ∧ ∀ b off, a = some ⟨b, off, none⟩ → w.heap.size ≤ b

set_option maxHeartbeats 1600000 in
theorem write_any (a : Option Addr) (c : Nat) (l : List (Int × Int)) (i word : Int) (w : World) (h : PairsS w a l) (hin : inB l.length i = true) (x0 : 0 ≤ word) (x1 : word ≤ 18446744073709551615) :
    Calls Try.prog 46 #[.slice a l.length c, .int .i64 i, .int .u64 word] w (WroteAt w (writeL l i word)) := by
  obtain ⟨i0, i1⟩ := inB_yes hin
  obtain ⟨k, rfl⟩ := Int.eq_ofNat_of_zero_le i0
  have hk : k < l.length := by omega
  have hl := h.len
  have hW : Hid (writeL l k word = l.set k (word, nextV (at2 l k).2)) := by simp [Hid, writeL]
  obtain ⟨b, off, rfl, hbl, hc⟩ := h.row.get (by omega)
  obtain ⟨i0', hi, hz0, hz1, hz2⟩ := info_parts infoCell
  have e0 : (Value.agg #[.int .u64 0, .int .u64 0]).cells = #[.int .u64 0, .int .u64 0] := by simp [Value.cells]
  obtain ⟨g, cap, w1, A⟩ := appended (P := Try.prog) (w := w.alloc (.cells #[] 76)) (c' := c) 67 w.heap.size 76 i0' _ 2 16 Try.underlying67 hi hz0 hz1 hz2 (by rw [e0]; rfl) (by omega)
    (Owns.empty w w.heap.size _ 2 (fun _ => undef) (Nat.le_refl _)) (h.row.below (by (repeat (first | exact Below.refl _ _ | assumption | refine below_alloc2 ?_ (by first | exact Nat.le_refl _ | omega) _ | refine Below.drew ?_ | refine below_drewN ?_ _ | refine below_push2 ?_ ‹_› (by first | exact Nat.le_refl _ | omega) | refine Below.setCell ?_ (by first | (simp; done) | (simp; omega) | omega) _)))) (fun j _ => rfl) (by omega) (by unfold maxLen; omega) (by omega) (by simp)
  have hrun := A.run
  have R : PairsS w1 (some ⟨g, 0, none⟩) l := ⟨A.own.holds.congr' (by omega) (fun j hj => by simp), h.rng, h.len⟩
  have hg : w.heap.size ≤ g := A.own.blk g 0 rfl
  have hB := A.below w (by (repeat (first | exact Below.refl _ _ | assumption | refine below_alloc2 ?_ (by first | exact Nat.le_refl _ | omega) _ | refine Below.drew ?_ | refine below_drewN ?_ _ | refine below_push2 ?_ ‹_› (by first | exact Nat.le_refl _ | omega) | refine Below.setCell ?_ (by first | (simp; done) | (simp; omega) | omega) _))) (by simp)
  have hfr := fun j => A.own.frozenAt j
  have hlt := A.lt
  simp only [Nat.zero_add] at hrun hfr
  replace hrun := Lib.hid hrun
  obtain ⟨b', off', e', _, r0, r1⟩ := R.cell k hk
  simp only [Option.some.injEq, Addr.mk.injEq, and_true] at e'
  obtain ⟨rfl, rfl⟩ := e'
  have f0 := hfr (k * 2)
  have f1 := hfr (k * 2 + 1)
  simp only [Nat.zero_add] at r0 r1
  clear hfr A hi hz0 hz1 hz2 e0 hin i1
  have hkl : (k : Int) < (l.length : Int) := by omega
  go_enter Try.func46, Try.ntmps46
  go_wp2_with (at_builtin; refine wpList_append_run hrun.out rfl (by rfl) (by rfl) (by rfl) ?_)
  go_ret
  refine ⟨some ⟨g, 0, none⟩, cap, ?_, ?_, (hB.setCell hg _).setCell hg _, fun b off e => ?_⟩
  · rw [writeL_length]; rfl
  · rw [hW.out]
    have S := Holds.set (Holds.set R.row (k * 2) (by omega) (.int .u64 word)) (k * 2 + 1) (by omega) (.int .u64 (IntKind.u64.wrap ((at2 l k).2 + 1)))
    simp only [Nat.zero_add] at S
    refine ⟨?_, h.rng.set _ _ ⟨⟨x0, x1⟩, nextV_rng _⟩, by simpa using hl⟩
    rw [List.length_set]
    refine S.congr fun j _ => ?_
    rw [show IntKind.u64.wrap ((at2 l k).2 + 1) = nextV (at2 l k).2 from IntKind.wrap_u64 _]
    exact pairF_set hk j
  · simp only [Option.some.injEq, Addr.mk.injEq, and_true] at e
    omega

/-- the first k are those, the rest are fresh -/
def mixed (l : List (Int × Int)) (k : Nat) : List (Int × Int) := l.take k ++ List.replicate (l.length - k) (0, 0)
theorem mixed_length (l : List (Int × Int)) (k : Nat) (h : k ≤ l.length) : (mixed l k).length = l.length := by simp [mixed]; omega
theorem mixed_zero (l : List (Int × Int)) : mixed l 0 = List.replicate l.length (0, 0) := by simp [mixed]
theorem mixed_all (l : List (Int × Int)) : mixed l l.length = l := by simp [mixed]
theorem mixed_succ (l : List (Int × Int)) (k : Nat) (h : k < l.length) : (mixed l k).set k (at2 l k) = mixed l (k + 1) := by
  apply List.ext_getElem?
  intro j
  have e : at2 l k = l[k] := at2_of l k h
  rw [e]
  simp only [mixed, List.getElem?_set, List.getElem?_append, List.getElem?_take, List.getElem?_replicate, List.length_take, List.length_append, List.length_replicate]
  by_cases h1 : k = j
  · subst h1
    have : min k l.length = k := by omega
    have h2 : k < min (k + 1) l.length := by omega
    simp [h2, h]; omega
  · by_cases h3 : j < k
    · have h4 : j < min k l.length := by omega
      have h5 : j < min (k + 1) l.length := by omega
      have h6 : j < k + 1 := by omega
      simp [h1, h4, h5, h3, h6]
    · have h4 : ¬ j < min k l.length := by omega
      have h5 : ¬ j < min (k + 1) l.length := by omega
      simp only [h1, h4, h5, if_false]
      have : (j - min k l.length < l.length - k) ↔ (j - min (k + 1) l.length < l.length - (k + 1)) := by omega
      simp [this]
theorem at2_pair (l : List (Int × Int)) (k : Nat) : ((at2 l k).1, (at2 l k).2) = at2 l k := rfl

structure CloneRel (w : World) (o g o' g' : Nat) (l : List (Int × Int)) (k : Nat) (wr : World) : Prop where
  b : Below w.heap.size w wr
  src : CellsAt wr o g l
  dst : CellsAt wr o' g' (mixed l k)
  og : w.heap.size ≤ o' ∧ w.heap.size ≤ g' ∧ o < w.heap.size ∧ g < w.heap.size
theorem CellsAt.only {w w' : World} {o g r : Nat} {l : List (Int × Int)} (h : CellsAt w o g l) (hg : w.grownBy w' (some r)) (h1 : o ≠ r) (h2 : g ≠ r) : CellsAt w' o g l :=
  ⟨h.head.grown hg (by intro e; injection e; contradiction), h.rows.grown hg (by intro e; injection e; contradiction), h.ne, h.rng, h.len⟩
theorem CloneRel.next {w : World} {o g o' g' : Nat} {l : List (Int × Int)} {k : Nat} {wr : World} (h : CloneRel w o g o' g' l k wr) (hk : k < l.length) {wx : World} (hd : Below wr.heap.size wr wx) :
    CloneRel w o g o' g' l (k + 1) ((wx.setCell ⟨g', k * 2, none⟩ (.int .u64 (at2 l k).1)).setCell ⟨g', k * 2 + 1, none⟩ (.int .u64 (at2 l k).2)) := by
  have hr := h.src.rng.at k
  have hw := h.dst.write hd k (by rw [mixed_length l k (by omega)]; exact hk) _ _ hr.1 hr.2
  rw [at2_pair, mixed_succ l k hk] at hw
  obtain ⟨g1, g2, g3, g4⟩ := h.og
  have ho : wr.grownBy ((wx.setCell ⟨g', k * 2, none⟩ (.int .u64 (at2 l k).1)).setCell ⟨g', k * 2 + 1, none⟩ (.int .u64 (at2 l k).2)) (some g') := only_set (only_set (only_of_below hd _) _ _) _ _
  exact ⟨below_only h.b ho (Nat.le_refl _) g2, h.src.only ho (by omega) (by omega), hw, h.og⟩

end Go.Proofs.Ytfnjggefinkcaaa.CellP
