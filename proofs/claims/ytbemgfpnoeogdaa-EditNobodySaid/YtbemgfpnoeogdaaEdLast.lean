/-
  edit: the last change of a cell (a range over the edit's own iterator, inside a fence).
-/
import Derived.RangeFuncNested
import Derived.RangeFuncLeaves
import Derived.Shelf.Abstract
import Derived.WalkKit
import Derived.OwnWalkIn
import Derived.TacticsInMore
import Derived.LoopNIn
import Derived.LoopIn
import Derived.Test.YtbemgfpnoeogdaaEdIn
import Derived.Test.YtbemgfpnoeogdaaLightW
import Derived.Test.YtbemgfpnoeogdaaOwns
import Derived.Test.YtbemgfpnoeogdaaFAid
import Derived.Lib.Hide
namespace Go.Proofs.Ytbemgfpnoeogdaa.EdP
open Go.RowKit Go.Shelf RefP Dp
set_option linter.unusedVariables false
set_option linter.unusedSimpArgs false
attribute [local go_sem] Oper.semAt_some
abbrev changeA (q : NodeH) (x : ChangeV) : Array Value := #[.int .i64 x.cell, .int .i64 x.from_, .int .u64 x.word, .int .u64 x.ver, .bool x.empty, .bool x.lin, .int .i64 x.node.level, .string x.node.low, .string x.node.high, .bool x.node.last, .int .i64 x.node.next, .slice q.keys.a x.node.keys.length q.keys.c, .slice q.vals.a x.node.vals.length q.vals.c, .slice q.kids.a x.node.kids.length q.kids.c]
abbrev chz : Array Value := #[.int .i64 0, .int .i64 0, .int .u64 0, .int .u64 0, .bool false, .bool false, .int .i64 0, .string ⟨#[]⟩, .string ⟨#[]⟩, .bool false, .int .i64 0, .slice none 0 0, .slice none 0 0, .slice none 0 0]
abbrev Ch := NodeH × ChangeV
abbrev chA (p : Ch) : Array Value := changeA p.1 p.2
/-- the edit at E has the changes R, in rows below n₀ -/
def ChRow (n₀ : Nat) (W : World) (E : Nat) (R : List Ch) : Prop :=
  E < n₀ ∧ ∃ ca cc, W.cell? ⟨E, 1, none⟩ = some (.slice ca R.length cc) ∧ (0 < R.length → ∃ b off, ca = some ⟨b, off, none⟩ ∧ b < n₀ ∧ ∀ j (hj : j < R.length), W.rangeAt b (off + j * 14) (chA R[j]).toList)
theorem ChRow.below {n₀ : Nat} {A B : World} {E : Nat} {R : List Ch} (h : ChRow n₀ A E R) (k : Below n₀ A B) : ChRow n₀ B E R := by
  obtain ⟨h0, ca, cc, h1, h2⟩ := h
  refine ⟨h0, ca, cc, (k.cell (p := ⟨E, 1, none⟩) h0).trans h1, fun hp => ?_⟩
  obtain ⟨b, off, e, hb, hc⟩ := h2 hp
  exact ⟨b, off, e, hb, fun j hj i v hv => (k.cell (p := ⟨b, _, none⟩) hb).trans (hc j hj i v hv)⟩
/-- what has come when k rounds are over -/
def upto {α : Type} (f : Nat → α) (k : Nat) : List α := (List.range k).map f
theorem upto_succ {α : Type} (f : Nat → α) (k : Nat) : upto f (k + 1) = upto f k ++ [f k] := by simp [upto, List.range_succ]
theorem upto_length {α : Type} (f : Nat → α) (k : Nat) : (upto f k).length = k := by simp [upto]
abbrev It := Nat × Ch
abbrev itA (x : It) : Array Value := #[.int .i64 (x.1 : Int), .agg (chA x.2)]
def ch0 : Ch := (⟨Hd.nil, Hd.nil, Hd.nil⟩, ⟨0, 0, 0, 0, false, false, ⟨0, ⟨#[]⟩, ⟨#[]⟩, false, 0, [], [], []⟩⟩)
def fromBack (R : List Ch) (k : Nat) : It := (R.length - 1 - k, R.getD (R.length - 1 - k) ch0)
set_option maxRecDepth 100000 in
set_option maxHeartbeats 2000000 in
theorem back1_in (F : Fence) (n : Nat) (h64 : F.fn 64) (hro : F.round = none) (hn : 1 ≤ n) (l Bs n₀ E : Nat) (R : List Ch) (J Jx : List It → World → Prop)
    (hY : ∀ pre x W, J pre W → pre.length < R.length → YieldAt F (n - 1) Try.prog l (itA x) W fun e W' =>
      (e = .returned (.bool true) ∧ J (pre ++ [x]) W' ∧ Below n₀ W W') ∨ (e = .returned (.bool false) ∧ Jx (pre ++ [x]) W'))
    (W : World) (hBs : W.cell? ⟨Bs, 0, none⟩ = some (.pointer (some ⟨E, 0, none⟩))) (hBn : Bs < n₀) (hl : R.length ≤ 100) (hR : ChRow n₀ W E R) (h0 : J [] W) :
    CallsIn F n Try.prog 64 #[.func (.yield l) #[] #[], .pointer (some ⟨Bs, 0, none⟩)] W fun e W' => (∃ v, e = .returned v) ∧
      ((∃ ys, ys = upto (fromBack R) R.length ∧ J ys W') ∨ (∃ pre, (∃ k, k ≤ R.length ∧ pre = upto (fromBack R) k) ∧ Jx pre W')) := by
  obtain ⟨hE, ca, cc, hc, hrow⟩ := hR
  refine callsIn_of_wp Try.func64 rfl h64 ?_ hro
  simp only [Try.ntmps64, List.size_toArray, List.length_cons, List.length_nil, Nat.reduceAdd, Nat.reduceSub, Array.replicate_succ, Array.replicate_zero, List.push_toArray, List.append_toArray, List.nil_append, List.cons_append]
  gi_wp2
  gi_loopw [3] (fun i wr => ∃ k : Nat, J (upto (fromBack R) k) wr ∧ Below n₀ W wr ∧ ((k = R.length ∧ i = .int .i64 (-1)) ∨ ∃ j : Nat, k + 1 + j = R.length ∧ i = .int .i64 (j : Int))) (fun i _ => (intOf i + 1).toNat)
  case atStart =>
    refine ⟨0, h0, Below.refl _ _, ?_⟩
    by_cases hz : R.length = 0
    · exact .inl ⟨by omega, by rw [hz]; go_num⟩
    · exact .inr ⟨R.length - 1, by omega, by go_num⟩
  case round =>
    obtain ⟨k, hJs, hnx, hi⟩ := hrel
    have hbs : wr.cell? ⟨Bs, 0, none⟩ = some (.pointer (some ⟨E, 0, none⟩)) := (hnx.cell (p := ⟨Bs, 0, none⟩) hBn).trans hBs
    have hcs : wr.cell? ⟨E, 1, none⟩ = some (.slice ca R.length cc) := (hnx.cell (p := ⟨E, 1, none⟩) hE).trans hc
    rcases hi with ⟨rfl, rfl⟩ | ⟨j, hkj, rfl⟩
    · gi_wp2
      go_end0
      exact ⟨⟨_, rfl⟩, .inl ⟨_, rfl, hJs⟩⟩
    · have hjl : j < R.length := by omega
      have hjl' : (j : Int) < (R.length : Int) := by omega
      obtain ⟨b, off, rfl, hb, hcr⟩ := hrow (by omega)
      have hrj : wr.rangeAt b (off + j * 14) (chA R[j]).toList := fun i v hv => (hnx.cell (p := ⟨b, _, none⟩) hb).trans (hcr j hjl i v hv)
      have hfb : fromBack R k = (j, R[j]) := by
        have e : R.length - 1 - k = j := by omega
        unfold fromBack
        rw [e, List.getD_eq_getElem?_getD, List.getElem?_eq_getElem hjl]
        rfl
      obtain ⟨fn, tmps, assign, body, hy, hRd⟩ := hY _ (fromBack R k) wr hJs (by rw [upto_length]; omega)
      rw [hfb] at hy
      gi_wp2_with (refine wpListIn_load_mid rfl 97 _ rfl b (off + j * 14) rfl (chA R[j]).toList _ hrj Try.underlying97 rfl (by kernel_rfl) ?_)
      refine hRd.mono ?_
      rintro e W3 (⟨rfl, hJ3, hk3⟩ | ⟨rfl, hJx3⟩)
      · gi_wp2
        go_roundw
        case rel =>
          refine ⟨k + 1, by rw [upto_succ]; exact hJ3, hnx.trans hk3, ?_⟩
          by_cases hz : j = 0
          · subst hz
            exact .inl ⟨by omega, by go_num⟩
          · exact .inr ⟨j - 1, by omega, by go_num⟩
        case measure => simp [intOf]
      · gi_wp2
        refine bodyPost_ret (results_none rfl _ _ _) rfl ?_
        exact ⟨⟨_, rfl⟩, .inr ⟨_, ⟨k + 1, by omega, (upto_succ _ _).symm⟩, hJx3⟩⟩
set_option maxHeartbeats 1000000 in
theorem back_in (F : Fence) (n : Nat) (h59 : F.fn 59) (hro : F.round = none) (p0 : Option Addr) (w : World) :
    CallsIn F n Try.prog 59 #[.pointer p0] w fun e w' => e = .returned (.func (.func 64) #[] #[.pointer (some ⟨w.heap.size, 0, none⟩)]) ∧ w' = w.alloc (.cells #[.pointer p0] 31) := by
  refine callsIn_of_wp Try.func59 rfl h59 ?_ hro
  simp only [Try.ntmps59, List.size_toArray, List.length_cons, List.length_nil, Nat.reduceAdd, Nat.reduceSub, Array.replicate_succ, Array.replicate_zero, List.push_toArray, List.append_toArray, List.nil_append, List.cons_append]
  gi_wp2
  go_ret
  exact ⟨rfl, rfl⟩
theorem back_stops (F : Fence) (n : Nat) (h64 : F.fn 64) (hro : F.round = none) (hn : 1 ≤ n) (Bs n₀ E : Nat) (R : List Ch) (w : World) (hBs : Bs < n₀) (hn₀ : n₀ ≤ w.heap.size) (hl : R.length ≤ 100)
    (hc : w.cell? ⟨Bs, 0, none⟩ = some (.pointer (some ⟨E, 0, none⟩))) (hR : ChRow n₀ w E R) :
    SeqStopsK F n Try.prog 64 #[.pointer (some ⟨Bs, 0, none⟩)] itA (Below n₀) (fun ys => ys = upto (fromBack R) R.length) (fun pre => ∃ k, k ≤ R.length ∧ pre = upto (fromBack R) k) R.length w := fun l J Jx W hW _ _ hY h0 =>
  back1_in F n h64 hro hn l Bs n₀ E R J Jx hY W ((hW.cell (p := ⟨Bs, 0, none⟩) (Nat.lt_of_lt_of_le hBs hn₀)).trans hc) hBs hl (hR.below (hW.mono hn₀)) h0
theorem blk_kept {W W' : World} {row : Option Nat} {b : Nat} {cs : Array Value} {T : TypeId} (h : Blk W b cs T) (hg : W.grownBy W' row) (hrow : ∀ r, row = some r → ∃ o : Obj, W.heap[r]? = some o ∧ o.isCells = false) : Blk W' b cs T :=
  ⟨(grownBy_keeps_cells hg hrow h.h rfl).trans h.h⟩
theorem keeps_row {W : World} {b : Nat} {cs : Array Value} {T : TypeId} (h : Blk W b cs T) (ds : Array Value) : KeepsOthers W (W.setRow b ds) := by
  have F : FoP.Fr [b] W (W.setRow b ds) := FoP.Fr.row (S := [b]) b ds (by simp)
  refine ⟨F.size, fun k o hk ho => ?_⟩
  by_cases e : k = b
  · subst e
    rw [h.h] at hk
    cases hk
    cases ho
  · exact (F.block k (Array.getElem?_eq_some_iff.1 hk).1 (by simpa using e)).trans hk
theorem blkRow {w : World} {b : Nat} {cs : Array Value} {T : TypeId} (k : Blk w b cs T) (ds : Array Value) : Blk (w.setRow b ds) b ds T := FoP.Blk.row k ds
theorem blkRowFar {w : World} {b s : Nat} {cs : Array Value} {T : TypeId} (k : Blk w b cs T) (h : b ≠ s) (ds : Array Value) : Blk (w.setRow s ds) b cs T := (FoP.Fr.row (S := [s]) s ds (by simp)).blk k (by simpa using h)
theorem last_results {w : World} {g0 g1 : Nat} {n : Int} {cs : Array Value} {tmps : Array Value} (h4 : tmps.getD 4 undef = .pointer (some ⟨g0, 0, none⟩)) (h5 : tmps.getD 5 undef = .pointer (some ⟨g1, 0, none⟩)) (B0 : Blk w g0 #[.int .i64 n] 3) (B1 : Blk w g1 cs 97) (hi : (Try.prog.info? 97).map (·.size) = some cs.size) :
    (results Try.f44 tmps).run Try.prog w = .ok (.tuple #[.int .i64 n, .agg cs]) w := by
  have hp : tmps[4]?.getD undef = .pointer (some ⟨g0, 0, none⟩) := by simpa using h4
  have hp2 : tmps[5]?.getD undef = .pointer (some ⟨g1, 0, none⟩) := by simpa using h5
  have hc := B0.at 0 rfl
  have hr := run_loadVar_row w g1 97 97 cs (0, 0) _ B1.h Try.underlying97 rfl hi
  have hr0 : (loadVar 3 ⟨g0, 0, none⟩).run Try.prog w = .ok (.int .i64 n) w := by simp [go_sem, hc]
  simp [results, Try.f44, asAddr, hp, hp2, hr0, hr]
theorem blk_put {W : World} {b l : Nat} {o : Obj} {cs : Array Value} {T : TypeId} (h : Blk W b cs T) (hl : W.heap[l]? = some o) (ho : o.isCells = false) (o' : Obj) : Blk (W.putObj l o') b cs T :=
  blk_kept h (grownBy_putObj' W l o') (fun r e => by cases e; exact ⟨o, hl, ho⟩)
set_option maxRecDepth 100000 in
set_option maxHeartbeats 4000000 in
theorem last_in (F : Fence) (n : Nat) (h44 : F.fn 44) (h59 : F.fn 59) (h64 : F.fn 64) (hro : F.round = none) (hn : 3 ≤ n) (E : Nat) (R : List Ch) (cell : Int) (w : World) (hR : ChRow w.heap.size w E R) (hl : R.length ≤ 100) :
    CallsIn F n Try.prog 44 #[.pointer (some ⟨E, 0, none⟩), .int .i64 cell] w fun e W' => ((e = .returned (.tuple #[.int .i64 (-1), .agg chz]) ∧ ∀ j (hj : j < R.length), R[j].2.cell ≠ cell) ∨
      (∃ i, ∃ hi : i < R.length, e = .returned (.tuple #[.int .i64 (i : Int), .agg (chA R[i])]) ∧ R[i].2.cell = cell ∧ ∀ j (hj : j < R.length), i < j → R[j].2.cell ≠ cell)) ∧ Below w.heap.size w W' := by
  have h1 : 1 ≤ n := by omega
  refine callsIn_of_wp_marks Try.func44 rfl h44 ?_ hro
  simp only [Try.ntmps44, List.size_toArray, List.length_cons, List.length_nil, Nat.reduceAdd, Nat.reduceSub, Array.replicate_succ, Array.replicate_zero, List.push_toArray, List.append_toArray, List.nil_append, List.cons_append]
  gi_wp2_with (gi_at_call 59; refine (back_in F (n - 1) h59 hro _ _).mono ?_; rintro e w' ⟨rfl, rfl⟩)
  have hB0 : Below w.heap.size w ((((w.alloc (.cells #[.int .i64 cell] 3)).alloc (.cells #[.int .i64 0] 3)).alloc (.cells chz 97)).alloc (.cells #[.pointer (some ⟨E, 0, none⟩)] 31)) := by (repeat (first | exact Below.refl _ _ | assumption | refine below_alloc2 ?_ (by first | exact Nat.le_refl _ | omega) _ | refine Below.drew ?_ | refine below_drewN ?_ _ | refine below_push2 ?_ ‹_› (by first | exact Nat.le_refl _ | omega) | refine Below.setCell ?_ (by first | (simp; done) | (simp; omega) | omega) _))
  have bC := (((Blk.new w #[.int .i64 cell] 3).alloc (.cells #[.int .i64 0] 3)).alloc (.cells chz 97)).alloc (.cells #[.pointer (some ⟨E, 0, none⟩)] 31)
  have b0 := ((Blk.new (w.alloc (.cells #[.int .i64 cell] 3)) #[.int .i64 0] 3).alloc (.cells chz 97)).alloc (.cells #[.pointer (some ⟨E, 0, none⟩)] 31)
  have b1 := (Blk.new ((w.alloc (.cells #[.int .i64 cell] 3)).alloc (.cells #[.int .i64 0] 3)) chz 97).alloc (.cells #[.pointer (some ⟨E, 0, none⟩)] 31)
  have bE := Blk.new (((w.alloc (.cells #[.int .i64 cell] 3)).alloc (.cells #[.int .i64 0] 3)).alloc (.cells chz 97)) #[.pointer (some ⟨E, 0, none⟩)] 31
  have hsz : ((((w.alloc (.cells #[.int .i64 cell] 3)).alloc (.cells #[.int .i64 0] 3)).alloc (.cells chz 97)).alloc (.cells #[.pointer (some ⟨E, 0, none⟩)] 31)).heap.size = w.heap.size + 4 := by simp
  simp only [World.size_alloc] at b0 b1 bE
  obtain ⟨W0, hW0⟩ : ∃ W0, (((w.alloc (.cells #[.int .i64 cell] 3)).alloc (.cells #[.int .i64 0] 3)).alloc (.cells chz 97)).alloc (.cells #[.pointer (some ⟨E, 0, none⟩)] 31) = W0 := ⟨_, rfl⟩
  rw [hW0] at bC b0 b1 bE hB0 hsz ⊢
  clear hW0
  have hR0 : ChRow W0.heap.size W0 E R := by
    obtain ⟨hE, ca, cc, q1, q2⟩ := hR.below hB0
    refine ⟨by omega, ca, cc, q1, fun hp => ?_⟩
    obtain ⟨b, off, e, hb, hcr⟩ := q2 hp
    exact ⟨b, off, e, by omega, hcr⟩
  refine wpIn_rangeFunc_ownH hro h1 (gf := 64) (lb := #[.pointer (some ⟨w.heap.size + 1 + 1 + 1, 0, none⟩)]) rfl h64 (enters_of Try.func64 (by kernel_rfl) rfl)
    (back_stops F (n - 1) h64 hro (by omega) (w.heap.size + 1 + 1 + 1) W0.heap.size E R W0 (by omega) (Nat.le_refl _) hl (bE.at 0 rfl) hR0) belowK_t (belowK_b (Nat.le_refl _)) (Below.refl _ _) (fun _ => rfl)
    (fun pre W => ((∀ y ∈ pre, y.2.2.cell ≠ cell) ∧ Blk W w.heap.size #[.int .i64 cell] 3 ∧ Blk W (w.heap.size + 1) #[.int .i64 0] 3 ∧ Blk W (w.heap.size + 1 + 1) chz 97) ∧ Below W0.heap.size W0 W)
    (fun c pre W => (c = .ret ∧ ∃ pre' x, pre = pre' ++ [x] ∧ (∀ y ∈ pre', y.2.2.cell ≠ cell) ∧ x.2.2.cell = cell ∧ Blk W (w.heap.size + 1) #[.int .i64 (x.1 : Int)] 3 ∧ Blk W (w.heap.size + 1 + 1) (chA x.2) 97) ∧ Below w.heap.size w W)
    (OwnFrom.and (Own.from (fun s A B row hs hg hr => ⟨hs.1, blk_kept hs.2.1 hg hr, blk_kept hs.2.2.1 hg hr, blk_kept hs.2.2.2 hg hr⟩) _) (ownFrom_below (Nat.le_refl _) (Nat.le_refl _)))
    (fun c => OwnFrom.and (Own.from (fun s A B row hs hg hr => by
      obtain ⟨h1, p, x, h2, h3, h4, h5, h6⟩ := hs
      exact ⟨h1, p, x, h2, h3, h4, blk_kept h5 hg hr, blk_kept h6 hg hr⟩) _) (ownFrom_below (Nat.le_refl _) (by omega)))
    ⟨⟨by simp, bC, b0, b1⟩, Below.refl _ _⟩
    (fun x a' W => ∃ Bx, w.heap.size + 4 ≤ Bx ∧ Blk W Bx (chA x.2) 97 ∧ a' = { tmps := #[.pointer (some ⟨E, 0, none⟩), .int .i64 cell, undef, .pointer (some ⟨w.heap.size, 0, none⟩), .pointer (some ⟨w.heap.size + 1, 0, none⟩), .pointer (some ⟨w.heap.size + 1 + 1, 0, none⟩), .int .i64 (x.1 : Int), .pointer (some ⟨Bx, 0, none⟩), .pointer (some ⟨E, 0, none⟩), .func (.func 64) #[] #[.pointer (some ⟨w.heap.size + 1 + 1 + 1, 0, none⟩)], .int .i64 (x.1 : Int), .agg (chA x.2), undef, undef, undef, undef, undef, undef, undef], defers := [] })
    (fun x a' s A B row hs hg hr => by
      obtain ⟨Bx, h1, h2, h3⟩ := hs
      exact ⟨Bx, h1, blk_kept h2 hg (fun r e => (hr r e).2), h3⟩) ?assign ?body ?done ?stop
  case assign =>
    rintro l pre x W K ⟨⟨hp, hc, h0, h1⟩, hB⟩ hK
    gi_wp2_with (refine wpListIn_store_row rfl 97 _ _ rfl _ _ rfl rfl 97 _ (Blk.new W _ _).h (by kernel_rfl) (by rfl) (by kernel_rfl) ?_; rw [World.setRow_alloc_new])
    exact hK _ _ ((KeepsOthers.alloc _ _).from _) ((Below.refl _ W).alloc hB.size _) ⟨⟨hp, hc.alloc _, h0.alloc _, h1.alloc _⟩, hB.alloc hB.size _⟩ ⟨W.heap.size, by have := hB.size; omega, Blk.new W _ _, rfl⟩
  case body =>
    rintro l pre x a' W hl ⟨r, hr⟩ ⟨⟨hp, hc, h0, h1⟩, hB⟩ ⟨Bx, hBx, bX, rfl⟩ hlt
    have x0 : W.cell? ⟨Bx, 0, none⟩ = some (.int .i64 x.2.2.cell) := bX.at 0 rfl
    have cc := hc.at 0 rfl
    have c0 := h0.at 0 rfl
    have f0 := h0.free 0
    by_cases he : x.2.2.cell = cell
    · have hbt : (x.2.2.cell == cell) = true := by simpa using he
      gi_wp2
      have bXd := bX.drew
      have h1d := Blk.far h1.drew ⟨w.heap.size + 1, 0, none⟩ (.int .i64 (x.1 : Int)) (by simp)
      have c0d := h0.drew.at 0 rfl
      have f0d := h0.drew.free 0
      have hkf : Hid (KeepsFrom W0.heap.size W ((W.drew.setCell ⟨w.heap.size + 1, 0, none⟩ (.int .i64 (x.1 : Int))).setRow (w.heap.size + 1 + 1) (chA x.2))) := Lib.hid ((((KeepsOthers.drew W).trans (KeepsOthers.setCell _ _ _)).trans (keeps_row h1d _)).from _)
      have hix : Hid (∃ pre' y, pre ++ [x] = pre' ++ [y] ∧ (∀ z ∈ pre', z.2.2.cell ≠ cell) ∧ y.2.2.cell = cell ∧ Blk ((W.drew.setCell ⟨w.heap.size + 1, 0, none⟩ (.int .i64 (x.1 : Int))).setRow (w.heap.size + 1 + 1) (chA x.2)) (w.heap.size + 1) #[.int .i64 (y.1 : Int)] 3 ∧ Blk ((W.drew.setCell ⟨w.heap.size + 1, 0, none⟩ (.int .i64 (x.1 : Int))).setRow (w.heap.size + 1 + 1) (chA x.2)) (w.heap.size + 1 + 1) (chA y.2) 97) := Lib.hid ⟨pre, x, rfl, hp, he, blkRowFar (by simpa using h0.drew.set 0 (.int .i64 (x.1 : Int))) (by omega) _, blkRow h1d _⟩
      have hbw : Hid (Below w.heap.size w ((W.drew.setCell ⟨w.heap.size + 1, 0, none⟩ (.int .i64 (x.1 : Int))).setRow (w.heap.size + 1 + 1) (chA x.2))) := Lib.hid (below_setRow ((below_push2 hB0 hB (by omega)).drew.setCell (p := ⟨w.heap.size + 1, 0, none⟩) (by simp) _) (show w.heap.size ≤ w.heap.size + 1 + 1 by omega) _)
      replace hsz := Lib.hid hsz
      refine wpIn_region_any (by kernel_rfl) ?_
      change wpAnyIn _ _ _ _ _ _ _ _ _ (World.drew _)
      refine wpAnyIn_ready (rs := [0, 1]) (by kernel_rfl) (by simp) ?_
      refine AllReadyIn.cons rfl (fun K hK => ?_) (AllReadyIn.cons rfl (fun K hK => ?_) AllReadyIn.nil)
      · go_simp
        refine hK _ _ ?_
        clear hK K
        refine wpAnyIn_ready (rs := [1, 2]) (by kernel_rfl) (by simp) ?_
        refine AllReadyIn.cons rfl (fun K hK => ?_) (AllReadyIn.cons rfl (fun K hK => ?_) AllReadyIn.nil)
        · rw [if_pos (by rfl)]
          refine wpIn_load_row 97 _ rfl Bx rfl 97 _ (0, 0) _ bXd.h Try.underlying97 rfl (by kernel_rfl) ?_
          refine hK _ _ ?_
          clear hK K
          refine wpAnyIn_ready (rs := [2]) (by kernel_rfl) (by simp) ?_
          refine AllReadyIn.cons rfl (fun K hK => ?_) AllReadyIn.nil
          go_simp
          refine hK _ _ ?_
          clear hK K
          refine wpAnyIn_ready (rs := [3]) (by kernel_rfl) (by simp) ?_
          refine AllReadyIn.cons rfl (fun K hK => ?_) AllReadyIn.nil
          rw [if_pos (by rfl)]
          refine wpIn_store_row 97 _ _ rfl (w.heap.size + 1 + 1) (chA x.2) rfl rfl 97 _ h1d.h (by kernel_rfl) (by rfl) (by kernel_rfl) ?_
          refine hK _ _ ?_
          clear hK K
          refine wpAnyIn_done (by kernel_rfl) ?_ _
          gi_wp2
          exact ⟨hkf.out, ⟨rfl, hix.out⟩, hbw.out⟩
        · go_simp
          refine hK _ _ ?_
          clear hK K
          refine wpAnyIn_ready (rs := [1]) (by kernel_rfl) (by simp) ?_
          refine AllReadyIn.cons rfl (fun K hK => ?_) AllReadyIn.nil
          rw [if_pos (by rfl)]
          refine wpIn_load_row 97 _ rfl Bx rfl 97 _ (0, 0) _ (Blk.far bXd ⟨w.heap.size + 1, 0, none⟩ (.int .i64 (x.1 : Int)) (by simp; omega)).h Try.underlying97 rfl (by kernel_rfl) ?_
          refine hK _ _ ?_
          clear hK K
          refine wpAnyIn_ready (rs := [3]) (by kernel_rfl) (by simp) ?_
          refine AllReadyIn.cons rfl (fun K hK => ?_) AllReadyIn.nil
          rw [if_pos (by rfl)]
          refine wpIn_store_row 97 _ _ rfl (w.heap.size + 1 + 1) (chA x.2) rfl rfl 97 _ h1d.h (by kernel_rfl) (by rfl) (by kernel_rfl) ?_
          refine hK _ _ ?_
          clear hK K
          refine wpAnyIn_done (by kernel_rfl) ?_ _
          gi_wp2
          exact ⟨hkf.out, ⟨rfl, hix.out⟩, hbw.out⟩
      · rw [if_pos (by rfl)]
        refine wpIn_load_row 97 _ rfl Bx rfl 97 _ (0, 0) _ bXd.h Try.underlying97 rfl (by kernel_rfl) ?_
        refine hK _ _ ?_
        clear hK K
        refine wpAnyIn_ready (rs := [0]) (by kernel_rfl) (by simp) ?_
        refine AllReadyIn.cons rfl (fun K hK => ?_) AllReadyIn.nil
        go_simp
        refine hK _ _ ?_
        clear hK K
        refine wpAnyIn_ready (rs := [2]) (by kernel_rfl) (by simp) ?_
        refine AllReadyIn.cons rfl (fun K hK => ?_) AllReadyIn.nil
        go_simp
        refine hK _ _ ?_
        clear hK K
        refine wpAnyIn_ready (rs := [3]) (by kernel_rfl) (by simp) ?_
        refine AllReadyIn.cons rfl (fun K hK => ?_) AllReadyIn.nil
        rw [if_pos (by rfl)]
        refine wpIn_store_row 97 _ _ rfl (w.heap.size + 1 + 1) (chA x.2) rfl rfl 97 _ h1d.h (by kernel_rfl) (by rfl) (by kernel_rfl) ?_
        refine hK _ _ ?_
        clear hK K
        refine wpAnyIn_done (by kernel_rfl) ?_ _
        gi_wp2
        exact ⟨hkf.out, ⟨rfl, hix.out⟩, hbw.out⟩
    · have hbt : (x.2.2.cell == cell) = false := by simpa using he
      gi_wp2
      exact ⟨(KeepsOthers.refl _).from _, Below.refl _ _, ⟨fun y hy => (List.mem_append.1 hy).elim (hp y) (fun e => by simp at e; subst e; exact he), hc, h0, h1⟩, hB⟩
  case done =>
    rintro D ys W hD rfl ⟨⟨hne, _, h0, h1⟩, hB⟩ hK
    have c0 := h0.at 0 rfl
    have f0 := h0.free 0
    have h1s := Blk.far h1 ⟨w.heap.size + 1, 0, none⟩ (.int .i64 (-1)) (by simp)
    have B0 : Blk (W.setCell ⟨w.heap.size + 1, 0, none⟩ (.int .i64 (-1))) (w.heap.size + 1) #[.int .i64 (-1)] 3 := by simpa using h0.set 0 (.int .i64 (-1))
    have hk := ((KeepsOthers.setCell W ⟨w.heap.size + 1, 0, none⟩ (.int .i64 (-1))).trans (keeps_row h1s chz)).same D _ hK rfl
    have B0' := blkRowFar B0 (s := w.heap.size + 1 + 1) (by omega) chz
    have B1' := blkRow h1s chz
    have hW : Below w.heap.size w W := below_push2 hB0 hB (by omega)
    have hW' := below_setRow (hW.setCell (p := ⟨w.heap.size + 1, 0, none⟩) (by simp) (.int .i64 (-1))) (show w.heap.size ≤ w.heap.size + 1 + 1 by omega) chz
    have hD2 : w.heap.size ≤ D := by omega
    replace hsz := Lib.hid hsz
    gi_wp2_with (refine wpListIn_store_row rfl 97 _ _ rfl (w.heap.size + 1 + 1) chz rfl rfl 97 _ h1s.h (by kernel_rfl) (by rfl) (by kernel_rfl) ?_)
    refine ⟨by simp, .inl ⟨_, _, rfl, run_takeDeferred hk, ?_⟩⟩
    refine ⟨_, last_results rfl rfl (blk_put B0' hk rfl _) (blk_put B1' hk rfl _) (by kernel_rfl), .inl ⟨rfl, fun j hj => ?_⟩, hW'.trans (belowK_b (w := w) (Nat.le_refl _) _ D _ _ hD2 hk rfl rfl)⟩
    have := hne (fromBack R (R.length - 1 - j)) (List.mem_map.2 ⟨_, List.mem_range.2 (by omega), rfl⟩)
    unfold fromBack at this
    rw [show R.length - 1 - (R.length - 1 - j) = j by omega, List.getD_eq_getElem?_getD, List.getElem?_eq_getElem hj] at this
    exact this
  case stop =>
    rintro D c pre W hD ⟨k, hk, hpre⟩ ⟨⟨rfl, pre', x, rfl, hne, hx, h0, h1⟩, hB⟩ hK
    have hD2 : w.heap.size ≤ D := by omega
    replace hsz := Lib.hid hsz
    gi_wp2
    refine ⟨by simp, .inl ⟨_, _, rfl, run_takeDeferred hK, ?_⟩⟩
    refine ⟨_, last_results rfl rfl (blk_put h0 hK rfl _) (blk_put h1 hK rfl _) (by kernel_rfl), .inr ?_, hB.trans (belowK_b (w := w) (Nat.le_refl _) W D _ _ hD2 hK rfl rfl)⟩
    have hk1 : k = pre'.length + 1 := by
      have := congrArg List.length hpre
      rw [upto_length] at this
      simpa using this.symm
    subst hk1
    rw [upto_succ] at hpre
    obtain ⟨e1, e2⟩ := List.append_inj' hpre rfl
    simp only [List.cons.injEq, and_true] at e2
    have hl2 : R.length - 1 - pre'.length < R.length := by omega
    have hfb : fromBack R pre'.length = (R.length - 1 - pre'.length, R[R.length - 1 - pre'.length]) := by
      unfold fromBack
      rw [List.getD_eq_getElem?_getD, List.getElem?_eq_getElem hl2]
      rfl
    rw [hfb] at e2
    subst e2
    refine ⟨_, hl2, rfl, hx, fun j hj hlt => ?_⟩
    have := hne (fromBack R (R.length - 1 - j)) (by rw [e1]; exact List.mem_map.2 ⟨_, List.mem_range.2 (by omega), rfl⟩)
    unfold fromBack at this
    rw [show R.length - 1 - (R.length - 1 - j) = j by omega, List.getD_eq_getElem?_getD, List.getElem?_eq_getElem hj] at this
    exact this
/-- the last change of a cell -/
theorem last_any (E : Nat) (R : List Ch) (cell : Int) (w : World) (hR : ChRow w.heap.size w E R) (hl : R.length ≤ 100) :
    Calls Try.prog 44 #[.pointer (some ⟨E, 0, none⟩), .int .i64 cell] w fun e W' => ((e = .returned (.tuple #[.int .i64 (-1), .agg chz]) ∧ ∀ j (hj : j < R.length), R[j].2.cell ≠ cell) ∨
      (∃ i, ∃ hi : i < R.length, e = .returned (.tuple #[.int .i64 (i : Int), .agg (chA R[i])]) ∧ R[i].2.cell = cell ∧ ∀ j (hj : j < R.length), i < j → R[j].2.cell ≠ cell)) ∧ Below w.heap.size w W' :=
  (callsIn_wide (n := 3)).1 (last_in Fence.wide 3 trivial trivial trivial rfl (by omega) E R cell w hR hl)
end Go.Proofs.Ytbemgfpnoeogdaa.EdP
