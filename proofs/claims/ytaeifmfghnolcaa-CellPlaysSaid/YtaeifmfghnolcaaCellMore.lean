/-
  cell.Clone, the document's Write, and the law's like: contracts.
-/
import Derived.Test.YtaeifmfghnolcaaCellLives
import Derived.Test.YtaeifmfghnolcaaOwns
import Derived.StillTailTactics
import Derived.Deep.DeepCutAuto
namespace Go.Proofs.Ytaeifmfghnolcaa.CellP
open Go.RowKit RefP
set_option linter.unusedVariables false
set_option linter.unusedSimpArgs false

theorem infoCell : (Try.prog.info? 48).map (fun i => (i.zero, i.size, i.bytes)) = some (some (.agg #[.int .u64 0, .int .u64 0]), 2, 16) := by kernel_rfl
/-- new pairs in which one was written -/
def WroteAt (w : World) (l : List (Int × Int)) (e : Ending) (w' : World) : Prop :=
  ∃ a c, e = .returned (.slice a l.length c) ∧ PairsS w' a l ∧ Below w.heap.size w w' ∧ ∀ b off, a = some ⟨b, off, none⟩ → w.heap.size ≤ b

set_option maxHeartbeats 1600000 in
theorem write_any (a : Option Addr) (c : Nat) (l : List (Int × Int)) (i word : Int) (w : World) (h : PairsS w a l) (hin : inB l.length i = true) (x0 : 0 ≤ word) (x1 : word ≤ 18446744073709551615) :
    Calls Try.prog 25 #[.slice a l.length c, .int .i64 i, .int .u64 word] w (WroteAt w (writeL l i word)) := by
  obtain ⟨i0, i1⟩ := inB_yes hin
  obtain ⟨k, rfl⟩ := Int.eq_ofNat_of_zero_le i0
  have hk : k < l.length := by omega
  have hl := h.len
  have hW : Hid (writeL l k word = l.set k (word, nextV (at2 l k).2)) := by simp [Hid, writeL]
  obtain ⟨b, off, rfl, hbl, hc⟩ := h.row.get (by omega)
  obtain ⟨i0', hi, hz0, hz1, hz2⟩ := info_parts infoCell
  have e0 : (Value.agg #[.int .u64 0, .int .u64 0]).cells = #[.int .u64 0, .int .u64 0] := by simp [Value.cells]
  obtain ⟨g, cap, w1, A⟩ := appended (P := Try.prog) (w := w.alloc (.cells #[] 48)) (c' := c) 45 w.heap.size 48 i0' _ 2 16 Try.underlying45 hi hz0 hz1 hz2 (by rw [e0]; rfl) (by omega)
    (Owns.empty w w.heap.size _ 2 (fun _ => undef) (Nat.le_refl _)) (h.row.below (by (repeat (first | exact Below.refl _ _ | assumption | refine below_alloc2 ?_ (by first | exact Nat.le_refl _ | omega) _ | refine Below.drew ?_ | refine below_drewN ?_ _ | refine below_push2 ?_ ‹_› (by first | exact Nat.le_refl _ | omega) | refine Below.setCell ?_ (by first | (simp; done) | (simp; omega) | omega) _)))) (fun j _ => rfl) (by omega) (by unfold maxLen; omega) (by omega) (by simp)
  have hrun := A.run
  have R : PairsS w1 (some ⟨g, 0, none⟩) l := ⟨A.own.holds.congr' (by omega) (fun j hj => by simp), h.rng, h.len⟩
  have hg : w.heap.size ≤ g := A.own.blk g 0 rfl
  have hB := A.below w (by (repeat (first | exact Below.refl _ _ | assumption | refine below_alloc2 ?_ (by first | exact Nat.le_refl _ | omega) _ | refine Below.drew ?_ | refine below_drewN ?_ _ | refine below_push2 ?_ ‹_› (by first | exact Nat.le_refl _ | omega) | refine Below.setCell ?_ (by first | (simp; done) | (simp; omega) | omega) _))) (by simp)
  have hfr := fun j => A.own.frozenAt j
  have hlt := A.lt
  simp only [Nat.zero_add] at hrun hfr
  replace hrun := Lib.hid hrun
  obtain ⟨b', off', e', _, r0, r1⟩ := R.cell k hk
  simp only [Option.some.injEq, Addr.mk.injEq, and_true] at e'
  obtain ⟨rfl, rfl⟩ := e'
  have f0 := hfr (k * 2)
  have f1 := hfr (k * 2 + 1)
  simp only [Nat.zero_add] at r0 r1
  clear hfr A hi hz0 hz1 hz2 e0 hin i1
  have hkl : (k : Int) < (l.length : Int) := by omega
  go_enter Try.func25, Try.ntmps25
  go_wp2_with (at_builtin; refine wpList_append_run hrun.out rfl (by rfl) (by rfl) (by rfl) ?_)
  go_ret
  refine ⟨some ⟨g, 0, none⟩, cap, ?_, ?_, (hB.setCell hg _).setCell hg _, fun b off e => ?_⟩
  · rw [writeL_length]; rfl
  · rw [hW.out]
    have S := Holds.set (Holds.set R.row (k * 2) (by omega) (.int .u64 word)) (k * 2 + 1) (by omega) (.int .u64 (IntKind.u64.wrap ((at2 l k).2 + 1)))
    simp only [Nat.zero_add] at S
    refine ⟨?_, h.rng.set _ _ ⟨⟨x0, x1⟩, nextV_rng _⟩, by simpa using hl⟩
    rw [List.length_set]
    refine S.congr fun j _ => ?_
    rw [show IntKind.u64.wrap ((at2 l k).2 + 1) = nextV (at2 l k).2 from IntKind.wrap_u64 _]
    exact pairF_set hk j
  · simp only [Option.some.injEq, Addr.mk.injEq, and_true] at e
    omega

/-- the first k are those, the rest are fresh -/
def mixed (l : List (Int × Int)) (k : Nat) : List (Int × Int) := l.take k ++ List.replicate (l.length - k) (0, 0)
theorem mixed_length (l : List (Int × Int)) (k : Nat) (h : k ≤ l.length) : (mixed l k).length = l.length := by simp [mixed]; omega
theorem mixed_zero (l : List (Int × Int)) : mixed l 0 = List.replicate l.length (0, 0) := by simp [mixed]
theorem mixed_all (l : List (Int × Int)) : mixed l l.length = l := by simp [mixed]
theorem mixed_succ (l : List (Int × Int)) (k : Nat) (h : k < l.length) : (mixed l k).set k (at2 l k) = mixed l (k + 1) := by
  apply List.ext_getElem?
  intro j
  have e : at2 l k = l[k] := at2_of l k h
  rw [e]
  simp only [mixed, List.getElem?_set, List.getElem?_append, List.getElem?_take, List.getElem?_replicate, List.length_take, List.length_append, List.length_replicate]
  by_cases h1 : k = j
  · subst h1
    have : min k l.length = k := by omega
    have h2 : k < min (k + 1) l.length := by omega
    simp [h2, h]; omega
  · by_cases h3 : j < k
    · have h4 : j < min k l.length := by omega
      have h5 : j < min (k + 1) l.length := by omega
      have h6 : j < k + 1 := by omega
      simp [h1, h4, h5, h3, h6]
    · have h4 : ¬ j < min k l.length := by omega
      have h5 : ¬ j < min (k + 1) l.length := by omega
      simp only [h1, h4, h5, if_false]
      have : (j - min k l.length < l.length - k) ↔ (j - min (k + 1) l.length < l.length - (k + 1)) := by omega
      simp [this]
theorem at2_pair (l : List (Int × Int)) (k : Nat) : ((at2 l k).1, (at2 l k).2) = at2 l k := rfl

set_option maxHeartbeats 800000 in
theorem clone_nil (w : World) : Calls Try.prog 24 #[.pointer none] w fun e w' => e = .returned (.pointer none) ∧ w = w' := by
  go_enter Try.func24, Try.ntmps24
  go_wp2_with fail
  go_ret
  exact ⟨rfl, rfl⟩

structure CloneRel (w : World) (o g o' g' : Nat) (l : List (Int × Int)) (k : Nat) (wr : World) : Prop where
  b : Below w.heap.size w wr
  src : CellsAt wr o g l
  dst : CellsAt wr o' g' (mixed l k)
  og : w.heap.size ≤ o' ∧ w.heap.size ≤ g' ∧ o < w.heap.size ∧ g < w.heap.size
theorem CellsAt.only {w w' : World} {o g r : Nat} {l : List (Int × Int)} (h : CellsAt w o g l) (hg : w.grownBy w' (some r)) (h1 : o ≠ r) (h2 : g ≠ r) : CellsAt w' o g l :=
  ⟨h.head.grown hg (by intro e; injection e; contradiction), h.rows.grown hg (by intro e; injection e; contradiction), h.ne, h.rng, h.len⟩
theorem CloneRel.next {w : World} {o g o' g' : Nat} {l : List (Int × Int)} {k : Nat} {wr : World} (h : CloneRel w o g o' g' l k wr) (hk : k < l.length) {wx : World} (hd : Below wr.heap.size wr wx) :
    CloneRel w o g o' g' l (k + 1) ((wx.setCell ⟨g', k * 2, none⟩ (.int .u64 (at2 l k).1)).setCell ⟨g', k * 2 + 1, none⟩ (.int .u64 (at2 l k).2)) := by
  have hr := h.src.rng.at k
  have hw := h.dst.write hd k (by rw [mixed_length l k (by omega)]; exact hk) _ _ hr.1 hr.2
  rw [at2_pair, mixed_succ l k hk] at hw
  obtain ⟨g1, g2, g3, g4⟩ := h.og
  have ho : wr.grownBy ((wx.setCell ⟨g', k * 2, none⟩ (.int .u64 (at2 l k).1)).setCell ⟨g', k * 2 + 1, none⟩ (.int .u64 (at2 l k).2)) (some g') := only_set (only_set (only_of_below hd _) _ _) _ _
  exact ⟨below_only h.b ho (Nat.le_refl _) g2, h.src.only ho (by omega) (by omega), hw, h.og⟩

set_option maxRecDepth 100000 in
set_option maxHeartbeats 1600000 in
theorem clone_any (o g : Nat) (l : List (Int × Int)) (w : World) (h : CellsAt w o g l) : Calls Try.prog 24 #[.pointer (some ⟨o, 0, none⟩)] w (MadeAt w l) := by
  have c0 := h.head.at 0 rfl
  have hl := h.len
  go_enter Try.func24, Try.ntmps24
  go_wp2_with fail
  refine (new_yes l.length _ hl).mono ?_
  rintro e w1 ⟨o', g', rfl, hC, hb1, hO, hG⟩
  have H1 := h.below hb1
  have d0 := H1.head.at 0 rfl
  have R0 : CloneRel w o g o' g' l 0 w1 := ⟨hb1, H1, by rw [mixed_zero]; exact hC, hO, hG, h.head.lt, h.rows.lt⟩
  clear c0 hb1 H1 hC hO hG
  go_wp2_with fail
  go_loopw [18] (fun i wr => ∃ k : Nat, k ≤ l.length ∧ i = .int .i64 k ∧ CloneRel w o g o' g' l k wr) (fun i _ => l.length - (intOf i).toNat)
  case atStart => exact ⟨0, Nat.zero_le _, rfl, R0⟩
  case round =>
    obtain ⟨k, hk, rfl, R⟩ := hrel
    by_cases hlt : k < l.length
    · have c0 := R.src.head.at 0 rfl
      have c1 := R.dst.head.at 0 rfl
      have hml := mixed_length l k hk
      rw [hml] at c1
      have s0 := R.src.rows.at _ (pairsA_0 l k hlt)
      have s1 := R.src.rows.at _ (pairsA_1 l k hlt)
      have t0 := R.dst.rows.at _ (pairsA_0 (mixed l k) k (by omega))
      have t1 := R.dst.rows.at _ (pairsA_1 (mixed l k) k (by omega))
      have f0 := R.dst.rows.free (k * 2)
      have f1 := R.dst.rows.free (k * 2 + 1)
      have hlt' : (k : Int) < (l.length : Int) := by omega
      clear hml
      go_upto_region 7 with (fail)
      go_still_tail 13, (by kernel_rfl)
      go_wp2_with fail
      go_roundw
      case rel => exact ⟨k + 1, by omega, by go_num, R.next hlt (Below.refl _ _).drew⟩
      case measure => simp [intOf]; omega
    · obtain rfl : k = l.length := by omega
      go_wp2_with fail
      go_ret
      have hd := R.dst
      rw [mixed_all] at hd
      exact ⟨o', g', rfl, hd, R.b, R.og.1, R.og.2.1⟩

set_option maxRecDepth 100000 in
set_option maxHeartbeats 1600000 in
theorem like_any (o g : Nat) (a : Option Addr) (c : Nat) (l : List (Int × Int)) (w : World) (h : CellsAt w o g l) (hp : PairsS w a l) :
    Calls Try.prog 26 #[.pointer (some ⟨o, 0, none⟩), .slice a l.length c] w fun e w' => e = .returned (.bool true) ∧ Below w.heap.size w w' := by
  have hl := h.len
  go_enter Try.func26, Try.ntmps26
  go_wp2_with fail
  refine (len_any _ _ _ _ h).mono ?_
  rintro e w1 ⟨rfl, rfl⟩
  go_wp2_with fail
  go_loopw [17] (fun i wr => ∃ k : Nat, k ≤ l.length ∧ i = .int .i64 k ∧ Below w.heap.size w wr) (fun i _ => l.length - (intOf i).toNat)
  case atStart => exact ⟨0, Nat.zero_le _, rfl, Below.refl _ _⟩
  case round =>
    obtain ⟨k, hk, rfl, hb⟩ := hrel
    by_cases hlt : k < l.length
    · obtain ⟨b, off, rfl, hbl, s0, s1⟩ := (hp.below hb).cell k hlt
      have hlt' : (k : Int) < (l.length : Int) := by omega
      have hin : inB l.length k = true := inB_mk (by omega) hlt'
      have e0 : loadW l k = (at2 l k).1 := loadW_yes hin
      have e1 : loadV l k = (at2 l k).2 := loadV_yes hin
      go_wp2_with fail
      refine (load_any _ _ _ _ _ (h.below (by (repeat (first | exact Below.refl _ _ | assumption | refine below_alloc2 ?_ (by first | exact Nat.le_refl _ | omega) _ | refine Below.drew ?_ | refine below_drewN ?_ _ | refine below_push2 ?_ ‹_› (by first | exact Nat.le_refl _ | omega) | refine Below.setCell ?_ (by first | (simp; done) | (simp; omega) | omega) _))))).mono ?_
      rintro e w2 ⟨rfl, hb2⟩
      rw [hin, e0, e1]
      have N := (Blk.new wr #[.int .u64 (at2 l k).1, .int .u64 (at2 l k).2] 48).below hb2
      have n0 := N.at 0 rfl
      have n1 := N.at 1 rfl
      clear e0 e1
      go_wp2_with fail
      go_roundw
      case rel => exact ⟨k + 1, by omega, by go_num, by (repeat (first | exact Below.refl _ _ | assumption | refine below_alloc2 ?_ (by first | exact Nat.le_refl _ | omega) _ | refine Below.drew ?_ | refine below_drewN ?_ _ | refine below_push2 ?_ ‹_› (by first | exact Nat.le_refl _ | omega) | refine Below.setCell ?_ (by first | (simp; done) | (simp; omega) | omega) _))⟩
      case measure => simp [intOf]; omega
    · obtain rfl : k = l.length := by omega
      go_wp2_with fail
      go_ret
      exact ⟨rfl, hb⟩
end Go.Proofs.Ytaeifmfghnolcaa.CellP
