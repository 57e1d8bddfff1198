/-
  gate.Sort: contract: the same ones, those ahead first, in new memory.
-/
import Derived.Test.YtaeifmfghnolcaaGateSort
import Derived.Test.YtaeifmfghnolcaaGateLives
import Derived.StillTailTactics
import Derived.Deep.DeepCutAuto
import Derived.Laws.MakeOwn
import Derived.Deep.RegionLaw
namespace Go.Proofs.Ytaeifmfghnolcaa.GateP
open Go.RowKit RefP
set_option linter.unusedVariables false
set_option linter.unusedSimpArgs false

theorem candF_0 (l : List (Int × Int)) (k : Nat) : candF l (k * 2) = .int .i64 (at2 l k).1 := by simp [candF]
theorem candF_1 (l : List (Int × Int)) (k : Nat) : candF l (k * 2 + 1) = .int .u64 (at2 l k).2 := by
  have e1 : (k * 2 + 1) % 2 = 1 := by omega
  have e2 : (k * 2 + 1) / 2 = k := by omega
  simp [candF, e1, e2]
theorem at2_set' (l : List (Int × Int)) (k i : Nat) (c : Int × Int) (h : k < l.length) : at2 (l.set k c) i = if i = k then c else at2 l i := by
  unfold at2
  rw [List.getD_eq_getElem?_getD, List.getElem?_set]
  by_cases e : k = i
  · subst e; simp [h]
  · have : ¬ i = k := fun x => e x.symm
    simp [e, this]
theorem candF_set {l : List (Int × Int)} {k : Nat} {a b : Int} (h : k < l.length) (m : Nat) : (if m = k * 2 + 1 then Value.int .u64 b else if m = k * 2 then Value.int .i64 a else candF l m) = candF (l.set k (a, b)) m := by
  unfold candF
  rw [at2_set' l k _ _ h]
  by_cases e1 : m = k * 2 + 1
  · subst e1
    have e2 : (k * 2 + 1) % 2 = 1 := by omega
    have e3 : (k * 2 + 1) / 2 = k := by omega
    simp [e2, e3]
  · by_cases e2 : m = k * 2
    · subst e2; simp
    · have e3 : ¬ m / 2 = k := by omega
      simp [e1, e2, e3]
theorem Owns.set {w : World} {base : Nat} {e : TypeId} {size g n c : Nat} {f : Nat → Value} (h : Owns w base e size (some ⟨g, 0, none⟩) n c f) (j : Nat) (v : Value) : Owns (w.setCell ⟨g, j, none⟩ v) base e size (some ⟨g, 0, none⟩) n c (fun i => if i = j then v else f i) := by
  have h1 := (h.stored j v).1
  have e : (rowL (n * size) f).set j v = rowL (n * size) (fun i => if i = j then v else f i) := by
    apply List.ext_getElem?
    intro i
    rw [List.getElem?_set, rowL_length]
    by_cases hi : i < n * size
    · rw [rowL_at _ _ i hi, rowL_at _ _ i hi]
      by_cases ej : j = i
      · subst ej; simp [hi]
      · have : ¬ i = j := fun x => ej x.symm
        simp [ej, this]
    · rw [List.getElem?_eq_none (by rw [rowL_length]; omega), List.getElem?_eq_none (by rw [rowL_length]; omega)]
      split <;> (try split) <;> first | rfl | omega
  rw [e] at h1
  exact h1
/-- a row of candidates that the call owns -/
structure OwnC (w : World) (base g n c : Nat) (l : List (Int × Int)) : Prop where
  own : Owns w base 30 2 (some ⟨g, 0, none⟩) n c (candF l)
  len : l.length = n
  rng : ∀ x ∈ l, (-9223372036854775808 ≤ x.1 ∧ x.1 ≤ 9223372036854775807) ∧ 0 ≤ x.2 ∧ x.2 ≤ 18446744073709551615
theorem OwnC.cell {w : World} {base g n c : Nat} {l : List (Int × Int)} (h : OwnC w base g n c l) (k : Nat) (hk : k < n) : w.cell? ⟨g, k * 2, none⟩ = some (.int .i64 (at2 l k).1) ∧ w.cell? ⟨g, k * 2 + 1, none⟩ = some (.int .u64 (at2 l k).2) := by
  obtain ⟨b, off, e, hb, hc⟩ := h.own.holds.get (by omega)
  simp only [Option.some.injEq, Addr.mk.injEq, and_true] at e
  obtain ⟨rfl, rfl⟩ := e
  have c0 := hc (k * 2) (by omega)
  have c1 := hc (k * 2 + 1) (by omega)
  rw [Nat.zero_add] at c0 c1
  rw [c0, c1, candF_0, candF_1]
  exact ⟨rfl, rfl⟩
theorem OwnC.free {w : World} {base g n c : Nat} {l : List (Int × Int)} (h : OwnC w base g n c l) (j : Nat) : w.frozen? ⟨g, j, none⟩ = false := h.own.frozenAt j
theorem OwnC.lt {w : World} {base g n c : Nat} {l : List (Int × Int)} (h : OwnC w base g n c l) : base ≤ g ∧ g < w.heap.size := World.ownsRow.lt h.own g rfl
theorem OwnC.below {w w' : World} {base g n c : Nat} {l : List (Int × Int)} (h : OwnC w base g n c l) (hb : Below w.heap.size w w') : OwnC w' base g n c l :=
  ⟨h.own.kept (row := none) ⟨hb.os, hb.tape, hb.output, hb.size, fun i hi _ => hb.block i hi⟩ (.inr (by simp [Value.ownBlock])), h.len, h.rng⟩
theorem OwnC.far {w : World} {base g n c : Nat} {l : List (Int × Int)} (h : OwnC w base g n c l) (a : Addr) (v : Value) (hne : g ≠ a.block) : OwnC (w.setCell a v) base g n c l :=
  ⟨h.own.kept (row := some a.block) ⟨rfl, rfl, rfl, by simp, fun i hi hn => Below.heap_setCell w a v i (fun e => hn (by rw [e]))⟩ (.inr (by simp [Value.ownBlock]; exact hne)), h.len, h.rng⟩
theorem OwnC.put {w : World} {base g n c : Nat} {l : List (Int × Int)} (h : OwnC w base g n c l) (k : Nat) (hk : k < n) (x : Int × Int) (hx : (-9223372036854775808 ≤ x.1 ∧ x.1 ≤ 9223372036854775807) ∧ 0 ≤ x.2 ∧ x.2 ≤ 18446744073709551615) :
    OwnC ((w.setCell ⟨g, k * 2, none⟩ (.int .i64 x.1)).setCell ⟨g, k * 2 + 1, none⟩ (.int .u64 x.2)) base g n c (l.set k x) := by
  refine ⟨(Owns.set (Owns.set h.own (k * 2) (.int .i64 x.1)) (k * 2 + 1) (.int .u64 x.2)).congr fun j _ => candF_set (by rw [h.len]; exact hk) j, by simpa using h.len, fun y hy => ?_⟩
  rcases List.mem_or_eq_of_mem_set hy with hy | rfl
  · exact h.rng y hy
  · exact hx
theorem OwnC.cands {w : World} {base g n c : Nat} {l : List (Int × Int)} (h : OwnC w base g n c l) (hn : n ≤ 9223372036854775807) : Cands w (some ⟨g, 0, none⟩) l :=
  ⟨by rw [h.len]; exact h.own.holds, h.rng, by rw [h.len]; exact hn⟩

theorem _root_.Go.World.alloc_drew_below (w : World) (o p : Obj) : Below w.heap.size w ((w.alloc o).alloc p).drew := (((Below.refl _ w).alloc (Nat.le_refl _) o).alloc (by simp) p).drew
theorem _root_.Go.Proofs.Ytaeifmfghnolcaa.RefP.Appended.belowB {P : Program} {w : World} {t : TypeId} {base : Nat} {e : TypeId} {size : Nat} {a : Option Addr} {n c : Nat} {x : Value} {m : Nat} {f : Nat → Value} {g cap : Nat} {w' : World}
    (A : Appended P w t base e size a n c x m f g cap w') (w0 : World) (B : Nat) (hB : B ≤ base) (h : Below B w0 w) (hs : base ≤ w.heap.size) : Below B w0 w' :=
  h.trans ((A.below w (Below.refl _ _) hs).mono hB)
/-! is it behind? -/
theorem Calls.regrown_same {P : Program} {f : FuncId} {args : Array Value} {w : World} {d : Nat} {os : Array Obj} {v : Value}
    (h : Calls P f args (Go.Sort.grow (redrawn w d) os) fun e w' => e = .returned v ∧ Go.Sort.grow (redrawn w d) os = w') : Calls P f args (Go.Sort.grow (redrawn w d) os) fun e w'' => e = .returned v ∧ ∃ p : Regrown, w'' = Go.Sort.grow (redrawn w p.d) p.os :=
  h.mono fun _ _ ⟨he, hw⟩ => ⟨he, ⟨d, os⟩, hw.symm⟩
set_option maxRecDepth 100000 in
set_option maxHeartbeats 1600000 in
theorem behind_any (a : Option Addr) (n c : Nat) (l m : List (Int × Int)) (bl bi bo g k c' i base mn : Nat) (w : World) (hl : Cands w a l) (hn : l.length = n) (hi : i < n)
    (BL : Blk w bl #[.slice a n c] 52) (BI : Blk w bi #[.int .i64 i] 3) (BO : Blk w bo #[.slice (some ⟨g, 0, none⟩) mn c'] 52) (O : OwnC w base g mn c' m) (hk : k ≤ mn) (hm : mn ≤ 9223372036854775807) :
    Calls Try.prog 60 #[.int .i64 k, .pointer (some ⟨bl, 0, none⟩), .pointer (some ⟨bi, 0, none⟩), .pointer (some ⟨bo, 0, none⟩)] w fun e w' => e = .returned (.bool (decide (0 < k) && ahead (at2 l i) (at2 m (k - 1)))) ∧ Below w.heap.size w w' := by
  by_cases h0 : 0 < k
  · have hq : decide ((0 : Int) < (k : Int)) = true := by simpa using h0
    have he : Hid ((decide (0 < k) && ahead (at2 l i) (at2 m (k - 1))) = aheadB (at2 l i).1 (at2 l i).2 (at2 m (k - 1)).1 (at2 m (k - 1)).2) := by simp [Hid, h0, ahead]
    have hln := hl.len
    obtain ⟨b, off, rfl, hb, c0, c1⟩ := hl.cell i (by omega)
    obtain ⟨d0, d1⟩ := O.cell (k - 1) (by omega)
    have x0 := cell_regrown (BL.at 0 rfl)
    have x1 := cell_regrown (BI.at 0 rfl)
    have x2 := cell_regrown (BO.at 0 rfl)
    have x3 := cell_regrown c0
    have x4 := cell_regrown c1
    have x5 := cell_regrown d0
    have x6 := cell_regrown d1
    have y1 : ((k : Int) - 1).toNat = k - 1 := by omega
    have y2 : (0 : Int) ≤ (k : Int) - 1 := by omega
    have y3 : (k : Int) - 1 < (mn : Int) := by omega
    have y4 : (i : Int) < (n : Int) := by omega
    clear c0 c1 d0 d1
    go_enter Try.func60, Try.ntmps60
    go_wp2_with fail
    refine wp_region_quiet_below (by kernel_rfl) (by kernel_rfl) ?_
    repeat (go_big_quiet_step (exact Calls.regrown_of (ahead_any _ _ _ _ _)))
    refine wpQuiet_nil ?_
    intro w1 hw'
    have hb1 := RefP.below_of_regrown hw'
    clear hw'
    clear x0 x1 x2 x3 x4 x5 x6
    go_wp2_with fail
    go_ret
    exact ⟨ret_b he.out.symm, hb1⟩
  · have hq : decide ((0 : Int) < (k : Int)) = false := by simpa using h0
    have he : Hid ((decide (0 < k) && ahead (at2 l i) (at2 m (k - 1))) = false) := by simp [Hid, h0]
    go_enter Try.func60, Try.ntmps60
    go_wp2_with fail
    refine wp_region_quiet_below (by kernel_rfl) (by kernel_rfl) ?_
    repeat (go_big_quiet_step (fail))
    refine wpQuiet_nil ?_
    intro w1 hw'
    have hb1 := RefP.below_of_regrown hw'
    clear hw'
    go_wp2_with fail
    go_ret
    exact ⟨ret_b he.out.symm, hb1⟩

theorem infoCand : (Try.prog.info? 30).map (fun i => (i.zero, i.size, i.bytes)) = some (some (.agg #[.int .i64 0, .int .u64 0]), 2, 16) := by kernel_rfl
def SortedAt (w : World) (l : List (Int × Int)) (e : Ending) (w' : World) : Prop :=
  ∃ g c s, e = .returned (.slice (some ⟨g, 0, none⟩) l.length c) ∧ Cands w' (some ⟨g, 0, none⟩) s ∧ Sorted s ∧ s.Perm l ∧ Below w.heap.size w w'
structure SortRel (w : World) (a : Option Addr) (c : Nat) (l : List (Int × Int)) (k g cap : Nat) (out : List (Int × Int)) (wr : World) : Prop where
  b : Below w.heap.size w wr
  L : Blk wr w.heap.size #[.slice a l.length c] 52
  O : Blk wr (w.heap.size + 1 + 1) #[.slice (some ⟨g, 0, none⟩) k cap] 52
  own : OwnC wr (w.heap.size + 1) g k cap out
  ne : g ≠ w.heap.size + 1 + 1
  sorted : Sorted out
  perm : out.Perm (l.take k)
structure InRel (w : World) (a : Option Addr) (c : Nat) (l : List (Int × Int)) (k g cap hi : Nat) (out : List (Int × Int)) (x : Int × Int) (at_ : Nat) (wr : World) : Prop where
  b : Below w.heap.size w wr
  L : Blk wr w.heap.size #[.slice a l.length c] 52
  I : Blk wr hi #[.int .i64 k] 3
  O : Blk wr (w.heap.size + 1 + 1) #[.slice (some ⟨g, 0, none⟩) ((k + 1 : Nat)) cap] 52
  own : OwnC wr (w.heap.size + 1) g (k + 1) cap (shiftL out x at_)
  ne : g ≠ w.heap.size + 1 + 1 ∧ g ≠ hi
  beh : ∀ j, at_ ≤ j → j < out.length → ahead x (at2 out j) = true
  len : out.length = k
theorem SortRel.below {w : World} {a : Option Addr} {c : Nat} {l : List (Int × Int)} {k g cap : Nat} {out : List (Int × Int)} {wr wx : World} (h : SortRel w a c l k g cap out wr) (hb : Below wr.heap.size wr wx) :
    SortRel w a c l k g cap out wx := ⟨below_push2 h.b hb (Nat.le_refl _), h.L.below hb, h.O.below hb, h.own.below hb, h.ne, h.sorted, h.perm⟩
theorem InRel.below {w : World} {a : Option Addr} {c : Nat} {l : List (Int × Int)} {k g cap hi : Nat} {out : List (Int × Int)} {x : Int × Int} {at_ : Nat} {wr wx : World} (h : InRel w a c l k g cap hi out x at_ wr) (hb : Below wr.heap.size wr wx) :
    InRel w a c l k g cap hi out x at_ wx := ⟨below_push2 h.b hb (Nat.le_refl _), h.L.below hb, h.I.below hb, h.O.below hb, h.own.below hb, h.ne, h.beh, h.len⟩
theorem InRel.step {w : World} {a : Option Addr} {c : Nat} {l : List (Int × Int)} {k g cap hi : Nat} {out : List (Int × Int)} {x : Int × Int} {at_ : Nat} {wr : World} (h : InRel w a c l k g cap hi out x at_ wr) (h0 : 0 < at_) (hk : at_ ≤ k) (ha : ahead x (at2 out (at_ - 1)) = true)
    (hr : ∀ y ∈ out, (-9223372036854775808 ≤ y.1 ∧ y.1 ≤ 9223372036854775807) ∧ 0 ≤ y.2 ∧ y.2 ≤ 18446744073709551615) :
    InRel w a c l k g cap hi out x (at_ - 1) ((wr.setCell ⟨g, at_ * 2, none⟩ (.int .i64 (at2 out (at_ - 1)).1)).setCell ⟨g, at_ * 2 + 1, none⟩ (.int .u64 (at2 out (at_ - 1)).2)) := by
  have hl := h.own.lt
  have hll := h.len
  have hp := h.own.put at_ (by omega) (at2 out (at_ - 1)) (hr _ (at2_mem out _ (by omega)))
  rw [shiftL_step out x at_ h0 (by omega)] at hp
  have hgw : w.heap.size ≤ g := by omega
  refine ⟨(h.b.setCell hgw _).setCell hgw _, (h.L.far _ _ (by simp; omega)).far _ _ (by simp; omega), (h.I.far _ _ (Ne.symm h.ne.2)).far _ _ (Ne.symm h.ne.2), (h.O.far _ _ (Ne.symm h.ne.1)).far _ _ (Ne.symm h.ne.1), hp, h.ne, fun j hj hjl => ?_, h.len⟩
  by_cases e : j = at_ - 1
  · subst e; exact ha
  · exact h.beh j (by omega) hjl
theorem InRel.done {w : World} {a : Option Addr} {c : Nat} {l : List (Int × Int)} {k g cap hi : Nat} {out : List (Int × Int)} {at_ : Nat} {wr : World} (h : InRel w a c l k g cap hi out (at2 l k) at_ wr) (hk : at_ ≤ k) (hlt : k < l.length)
    (ha : at_ = 0 ∨ ahead (at2 l k) (at2 out (at_ - 1)) = false) (hs : Sorted out) (hp : out.Perm (l.take k)) (hx : (-9223372036854775808 ≤ (at2 l k).1 ∧ (at2 l k).1 ≤ 9223372036854775807) ∧ 0 ≤ (at2 l k).2 ∧ (at2 l k).2 ≤ 18446744073709551615) :
    SortRel w a c l (k + 1) g cap (insL out (at2 l k) at_) ((wr.setCell ⟨g, at_ * 2, none⟩ (.int .i64 (at2 l k).1)).setCell ⟨g, at_ * 2 + 1, none⟩ (.int .u64 (at2 l k).2)) := by
  have hl := h.own.lt
  have hll := h.len
  have hput := h.own.put at_ (by omega) (at2 l k) hx
  rw [shiftL_ins out _ at_ (by omega)] at hput
  have hgw : w.heap.size ≤ g := by omega
  refine ⟨(h.b.setCell hgw _).setCell hgw _, (h.L.far _ _ (by simp; omega)).far _ _ (by simp; omega), (h.O.far _ _ (Ne.symm h.ne.1)).far _ _ (Ne.symm h.ne.1), hput, h.ne.1, insL_sorted out _ at_ (by omega) hs (fun j hj hjl => h.beh j hj hjl) ha, ?_⟩
  rw [take_succ_at2 l k hlt]
  exact (insL_perm out _ at_).trans (hp.append_right _)
theorem candF_append (out : List (Int × Int)) (x : Int × Int) (j : Nat) (h : j < (out.length + 1) * 2) : (if j < out.length * 2 then candF out j else candF [x] (j - out.length * 2)) = candF (out ++ [x]) j := by
  unfold candF
  by_cases hj : j < out.length * 2
  · have e : at2 (out ++ [x]) (j / 2) = at2 out (j / 2) := by simp [at2, List.getElem?_append_left (show j / 2 < out.length by omega)]
    rw [if_pos hj, e]
  · have e1 : j / 2 = out.length := by omega
    have e : at2 (out ++ [x]) (j / 2) = x := by rw [e1]; simp [at2]
    have e2 : (j - out.length * 2) / 2 = 0 := by omega
    have e3 : (j - out.length * 2) % 2 = j % 2 := by omega
    rw [if_neg hj, e, e2, e3]
    simp [at2]

set_option maxRecDepth 100000 in
set_option maxHeartbeats 3200000 in
theorem sort_any (a : Option Addr) (c : Nat) (l : List (Int × Int)) (w : World) (h : Cands w a l) (hsm : l.length ≤ 65536) :
    Calls Try.prog 28 #[.slice a l.length c] w (SortedAt w l) := by
  obtain ⟨i0, hi, hz0, hz1, hz2⟩ := info_parts infoCand
  have e0 : (Value.agg #[.int .i64 0, .int .u64 0]).cells = #[.int .i64 0, .int .u64 0] := by simp [Value.cells]
  have hmk : ∀ W, (Instr.makeSlice 52 (.int .i64 0) (.int .i64 l.length)).run Try.prog W = .ok (.slice (some ⟨W.heap.size, 0, none⟩) 0 l.length) (W.alloc (.cells (madeCells #[.int .i64 0, .int .u64 0] (l.length * 2)) 30)) := by
    intro W
    have hb : (i0.bytes : Int) * (l.length : Int) ≤ 281474976710656 := by rw [hz2]; omega
    have hr := run_make (P := Try.prog) W 52 30 i0 _ Try.underlying52 hi hz0 .i64 .i64 0 l.length (by omega) (by omega) hb (by omega)
    rw [e0, hz1] at hr
    simpa using hr
  have hmf : ∀ (fn : Fn) (first cap : Array Value) (w : World), (Instr.makeFunc fn first cap).run Try.prog w = .ok (.func fn first cap) w := fun _ _ _ _ => rfl
  go_enter Try.func28, Try.ntmps28
  go_wp2_with fail
  clear hmk
  have R0 : SortRel w a c l 0 (w.heap.size + 1) l.length [] (((w.alloc (.cells #[.slice a l.length c] 52)).alloc (.cells (madeCells #[.int .i64 0, .int .u64 0] (l.length * 2)) 30)).alloc (.cells #[.slice (some ⟨w.heap.size + 1, 0, none⟩) 0 l.length] 52)) := by
    refine ⟨by (repeat (first | exact Below.refl _ _ | assumption | refine below_alloc2 ?_ (by first | exact Nat.le_refl _ | omega) _ | refine Below.drew ?_ | refine below_drewN ?_ _ | refine below_push2 ?_ ‹_› (by first | exact Nat.le_refl _ | omega) | refine Below.setCell ?_ (by first | (simp; done) | (simp; omega) | omega) _)), ((Blk.new w _ _).alloc _).alloc _, ?_, ?_, by omega, List.Pairwise.nil, by simp⟩
    · have := Blk.new ((w.alloc (.cells #[.slice a l.length c] 52)).alloc (.cells (madeCells #[.int .i64 0, .int .u64 0] (l.length * 2)) 30)) #[.slice (some ⟨w.heap.size + 1, 0, none⟩) 0 l.length] 52
      simpa using this
    · refine ⟨?_, rfl, by simp⟩
      have := (World.ownsRow_made (base := w.heap.size + 1) (size := 2) (e := 30) (w.alloc (.cells #[.slice a l.length c] 52)) (madeCells #[.int .i64 0, .int .u64 0] (l.length * 2)) l.length (by simp) (by unfold maxLen; omega) (by rw [size_madeCells])).alloc (.cells #[.slice (some ⟨w.heap.size + 1, 0, none⟩) 0 l.length] 52)
      simpa [Owns, rowL] using this
  go_loopg [12] (l.length) (fun gk i wr => ∃ k : Nat, k ≤ l.length ∧ gk = l.length - k ∧ i = .int .i64 k ∧ ∃ g cap out, SortRel w a c l k g cap out wr)
  case atStart => exact ⟨0, Nat.zero_le _, rfl, rfl, _, _, _, R0⟩
  case round =>
    clear R0
    obtain ⟨k, hk, rfl, rfl, g, cap, out, R⟩ := hrel
    obtain ⟨wo, rfl⟩ : ∃ wo : World, wo = wr := ⟨_, rfl⟩
    have L0 := R.L.at 0 rfl
    have O0 := R.O.at 0 rfl
    have Of := R.O.free 0
    have Lz := R.L.lt
    have Oz := R.O.lt
    by_cases hlt : k < l.length
    · obtain ⟨b, off, rfl, hbl, s0, s1⟩ := (h.below R.b).cell k hlt
      have hlt' : (k : Int) < (l.length : Int) := by omega
      have hxr := h.rngD k hlt
      have hol := R.own.len
      have hgl := R.own.lt
      -- the append
      have HX : Holds ((wo.alloc (.cells #[.int .i64 k] 3)).alloc (.cells #[.int .i64 (at2 l k).1, .int .u64 (at2 l k).2] 30)).drew (some ⟨wo.heap.size + 1, 0, none⟩) (1 * 2) (candF [at2 l k]) := by
        have B := Blk.new (wo.alloc (.cells #[.int .i64 k] 3)) #[.int .i64 (at2 l k).1, .int .u64 (at2 l k).2] 30
        rw [show (wo.alloc (.cells #[.int .i64 k] 3)).heap.size = wo.heap.size + 1 by simp] at B
        exact Holds.of_blk B.drew _ _ (fun i hi => by rcases i with _ | _ | i <;> first | rfl | omega)
      obtain ⟨g', cap', w', A⟩ := appended (P := Try.prog) (c' := 1) 52 (w.heap.size + 1) 30 i0 _ 2 16 Try.underlying52 hi hz0 hz1 hz2 (by rw [e0]; rfl) (by omega)
        (R.own.below (wo.alloc_drew_below _ _)).own HX (fun j hj => by rcases j with _ | _ | j <;> first | rfl | omega) (by omega) (by unfold maxLen; omega) (by omega) (by simp; omega)
      have hrun := Lib.hid A.run
      have hat := A.at'
      have AO : OwnC w' (w.heap.size + 1) g' (k + 1) cap' (out ++ [at2 l k]) :=
        ⟨A.own.congr (fun j hj => by have hc := candF_append out (at2 l k) j (by rw [hol]; exact hj); rw [hol] at hc; exact hc), by simp [hol], fun y hy => by
          rcases List.mem_append.1 hy with hy | hy
          · exact R.own.rng y hy
          · rw [List.mem_singleton.1 hy]; exact hxr⟩
      have hgr : ∀ b cs T, b ≠ g → Blk ((wo.alloc (.cells #[.int .i64 k] 3)).alloc (.cells #[.int .i64 (at2 l k).1, .int .u64 (at2 l k).2] 30)).drew b cs T → Blk w' b cs T :=
        fun b cs T hne B => B.grown A.grown (by simp [Value.ownBlock]; exact hne)
      have hbel := A.belowB w w.heap.size (by omega) (by have hsz := R.b.size; exact ((R.b.alloc hsz _).alloc (by simp; omega) _).drew) (by simp; omega)
      have LB := hgr _ _ _ (by omega) ((R.L.alloc _).alloc _).drew
      have OB := hgr _ _ _ (Ne.symm R.ne) ((R.O.alloc _).alloc _).drew
      have IB := hgr _ _ _ (by omega) ((Blk.new wo #[.int .i64 k] 3).alloc (.cells #[.int .i64 (at2 l k).1, .int .u64 (at2 l k).2] 30)).drew
      have ob0 := OB.at 0 rfl
      have obf := OB.free 0
      have hg' : g' ≠ w.heap.size + 1 + 1 ∧ g' ≠ wo.heap.size := by
        rcases hat with e | e
        · simp only [Value.ownBlock, Option.some.injEq] at e
          subst e
          exact ⟨R.ne, by omega⟩
        · simp at e; omega
      clear hgr hat
      have IR : InRel w (some ⟨b, off, none⟩) c l k g' cap' wo.heap.size out (at2 l k) k (w'.setCell ⟨w.heap.size + 1 + 1, 0, none⟩ (.slice (some ⟨g', 0, none⟩) ((k + 1 : Nat)) cap')) := by
        refine ⟨hbel.setCell (by show w.heap.size ≤ w.heap.size + 1 + 1; omega) _, LB.far _ _ (by show w.heap.size ≠ w.heap.size + 1 + 1; omega), IB.far _ _ (by simp; omega), OB.set 0 _, ?_, hg', fun j hj hjl => by omega, hol⟩
        have := AO.far ⟨w.heap.size + 1 + 1, 0, none⟩ (.slice (some ⟨g', 0, none⟩) ((k + 1 : Nat)) cap') hg'.1
        rw [← hol, shiftL_all]; rwa [hol]
      clear LB OB IB AO hbel A
      have Oz1 : w.heap.size + 1 + 1 < wo.heap.size + 1 := by omega
      have Lz1 : w.heap.size < wo.heap.size + 1 := by omega
      have hbl1 : b < wo.heap.size + 1 := by omega
      go_upto_region 7 with (fail)
      go_cut [] (fun wx => InRel w (some ⟨b, off, none⟩) c l k g' cap' wo.heap.size out (at2 l k) k wx)
      case first =>
        go_region_law ((refine step_append_run hrun.out rfl (by rfl) (by rfl) (by rfl) ?_))
        all_goals
          go_wp2_with fail
          go_meet
          exact IR
      case rest =>
        have IR := hcut
        have hsorted := R.sorted
        have hperm := R.perm
        have hrng := R.own.rng
        clear R L0 O0 Of Lz Oz hgl HX hrun hg' Oz1 Lz1 hbl1 s0 s1
        go_wp2_with fail
        go_loopg [6] (k + 1) (fun gm u6 wx => ∃ m : Nat, m ≤ k ∧ gm = m + 1 ∧ u6 = .int .i64 m ∧ InRel w (some ⟨b, off, none⟩) c l k g' cap' wo.heap.size out (at2 l k) m wx)
        case atStart => exact ⟨k, Nat.le_refl _, rfl, rfl, IR⟩
        case round =>
          clear IR
          obtain ⟨m, hm, rfl, rfl, I⟩ := hrel
          have hC := h.below I.b
          have hll := I.len
          have hprev : 0 < m → at2 (shiftL out (at2 l k) m) (m - 1) = at2 out (m - 1) := fun h0 => shiftL_prev out _ m h0 (by omega)
          have hb := behind_any (some ⟨b, off, none⟩) l.length c l (shiftL out (at2 l k) m) w.heap.size wo.heap.size (w.heap.size + 1 + 1) g' m cap' k (w.heap.size + 1) (k + 1) wr hC rfl hlt I.L I.I I.O I.own (by omega) (by omega)
          generalize hB : (decide (0 < m) && ahead (at2 l k) (at2 (shiftL out (at2 l k) m) (m - 1))) = bv at hb
          have hb := Lib.hid hb
          cases bv
          · have hend : m = 0 ∨ ahead (at2 l k) (at2 out (m - 1)) = false := by
              by_cases h0 : 0 < m
              · rw [hprev h0] at hB
                right; simpa [h0] using hB
              · left; omega
            clear hB hprev
            go_upto_if 27 with (go_at_call 60; refine hb.out.mono ?_; rintro e wy ⟨rfl, hby⟩)
            have I2 := I.below hby
            have hC2 := h.below I2.b
            obtain ⟨b2, off2, e2, hb2, s0, s1⟩ := hC2.cell k hlt
            simp only [Option.some.injEq, Addr.mk.injEq, and_true] at e2
            obtain ⟨rfl, rfl⟩ := e2
            have l0 := I2.L.at 0 rfl
            have o0 := I2.O.at 0 rfl
            have i0' := I2.I.at 0 rfl
            obtain ⟨t0, t1⟩ := I2.own.cell m (by omega)
            have f0 := I2.own.free (m * 2)
            have f1 := I2.own.free (m * 2 + 1)
            have hmk1 : (m : Int) < (k : Int) + 1 := by omega
            have D := I2.done hm hlt hend hsorted hperm hxr
            clear I I2 hb hC hC2 hend
            go_upto_region 11 with (fail)
            go_still_tail 7, (by kernel_rfl)
            go_wp2_with fail
            go_roundg (l.length - (k + 1))
            case measure => omega
            case rel => exact ⟨k + 1, by omega, rfl, by go_num, _, _, _, D.below (Below.refl _ _).drew⟩
          · have hB2 : 0 < m ∧ ahead (at2 l k) (at2 (shiftL out (at2 l k) m) (m - 1)) = true := by simpa using hB
            obtain ⟨h0, ha⟩ := hB2
            rw [hprev h0] at ha
            clear hB
            go_upto_if 27 with (go_at_call 60; refine hb.out.mono ?_; rintro e wy ⟨rfl, hby⟩)
            have I2 := I.below hby
            have o0 := I2.O.at 0 rfl
            obtain ⟨t0, t1⟩ := I2.own.cell m (by omega)
            obtain ⟨s0, s1⟩ := I2.own.cell (m - 1) (by omega)
            rw [hprev h0] at s0 s1
            have f0 := I2.own.free (m * 2)
            have f1 := I2.own.free (m * 2 + 1)
            have hmk1 : (m : Int) < (k : Int) + 1 := by omega
            have y1 : ((m : Int) - 1).toNat = m - 1 := by omega
            have y2 : (0 : Int) ≤ (m : Int) - 1 := by omega
            have y3 : (m : Int) - 1 < (k : Int) + 1 := by omega
            have D := I2.step h0 hm ha hrng
            clear I I2 hb hC ha hprev
            have y4 : (1 : Int) ≤ (m : Int) := by omega
            have y5 : ¬ ((m : Int) - 1 < 0) := by omega
            have y6 : (m : Int) < (k : Int) + 1 + 1 := by omega
            have y7 : ¬ ((k : Int) + 1 ≤ (m : Int) - 1) := by omega
            have y0 : IntKind.i64.wrap ((m : Int) - 1) = (m : Int) - 1 := IntWalk.i64_in _ (by omega)
            go_upto_region 9 with (fail)
            go_still_tail 8, (by kernel_rfl)
            clear y0
            go_wp2_with fail
            go_roundg (m - 1 + 1)
            case measure => omega
            case rel => exact ⟨m - 1, by omega, rfl, by rw [show ((m - 1 : Nat) : Int) = (m : Int) - 1 by omega], D.below (Below.refl _ _).drew⟩
    · obtain rfl : k = l.length := by omega
      go_wp2_with fail
      go_ret
      refine ⟨g, cap, out, rfl, ?_, R.sorted, by have := R.perm; rwa [List.take_length] at this, R.b⟩
      exact R.own.cands h.len
end Go.Proofs.Ytaeifmfghnolcaa.GateP
