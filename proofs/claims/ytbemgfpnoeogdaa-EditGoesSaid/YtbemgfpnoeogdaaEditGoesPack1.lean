/-
  How a law's walk becomes the given statement: one generic step for every law that returns true and writes nothing that was there.
-/
import Derived.Test.YtbemgfpnoeogdaaRows
import Derived.WalkKit
import Derived.ProofKit
import Derived.OpenShut
import Derived.ShutString
import Derived.ChangeOld
import Derived.Below
import Derived.Carry
import Derived.Lib.SmallJoins
import Derived.Lib.Hide
import Derived.Lib.QuietBelow
import Derived.Deep.RegionHeld3
import Derived.OneCell
import Derived.Deep.Slices
import Derived.Deep.MidRow
import Derived.Laws.Rows
import Derived.Laws.Tables
import Derived.OwnWalkIn
import Derived.WalkLawsBesides
import Derived.WalkSpells
import Derived.Outline
import Derived.LoopTactic
import Derived.Laws.NewDeep
import Derived.Deep.WholeRow
import Derived.Deep.AppendLies
import Derived.Laws.CopyOwn
import Derived.Deep.RegionLaw
import Derived.StillTailTactics
import Derived.RangeFuncNested
import Derived.RangeFuncLeaves
import Derived.Shelf.Abstract
import Derived.TacticsInMore
import Derived.LoopNIn
import Derived.LoopIn
import Derived.BigQuiet
import Derived.Lib.SlicesS
import Derived.Deep.DeepCutAuto
import Derived.Laws.MakeOwn
import Derived.Deep.RegionHeld

namespace Go.Proofs.Ytbemgfpnoeogdaa.Lift
open Go.ChangeShapes Go.WideShapes Go.ChangeAt Go.RowKit Go.Joins Go.Deep
set_option linter.unusedVariables false

theorem own : ownKnob Try.prog.godebug = none := by kernel_rfl
theorem laidOut : laidOutB Try.prog = true := by kernel_rfl

theorem cons_inv {H : Type} {enc : TypeId × Value → H} {P : Program} {w : World} {base : Nat} {spare : Nat → Bool} {held : Bool} {t : TypeId} {ts : List TypeId} {vs : List Value} {ds : List (DataW H)} {ps : List MemPlace}
    (h : DataW.TrodAll enc P w base spare held (t :: ts) vs ds ps) : ∃ v vs' d ds' p p', vs = v :: vs' ∧ ds = d :: ds' ∧ ps = p ++ p' ∧ DataW.Trod enc P w base spare held t v d p ∧ DataW.TrodAll enc P w base spare held ts vs' ds' p' := by
  obtain ⟨v, vs', d, ds', p, p', a, b, c, e, f⟩ := trodAll_cons h
  exact ⟨v, vs', d, ds', p, p', a, b, c, e, f⟩

theorem trodAll_below {H : Type} {enc : TypeId × Value → H} {P : Program} (hl : laidOutB P = true) {W W' : World} (hb : Below W.heap.size W W') :
    ∀ (ts : List TypeId) (vs : List Value) (ds : List (DataW H)) (ps : List MemPlace), (ts.all fun t => P.readableRec t && decide (t < P.types.size)) = true →
      DataW.TrodAll enc P W 0 (fun _ => true) true ts vs ds ps → DataW.TrodAll enc P W' 0 (fun b => decide (b < W.heap.size)) true ts vs ds ps := by
  intro ts
  induction ts with
  | nil =>
    intro vs ds ps _ h
    obtain ⟨rfl, rfl, rfl⟩ := trodAll_nil h
    exact trodAll_mk0
  | cons t ts ih =>
    intro vs ds ps ht h
    obtain ⟨v, vs', d, ds', p, p', rfl, rfl, rfl, h0, h1⟩ := cons_inv h
    have hlt : ∀ x ∈ p, x.block < W.heap.size := by
      obtain ⟨m, hm⟩ := h0
      exact DataW.trod_lt m _ _ _ hm
    simp only [List.all_cons, Bool.and_eq_true, decide_eq_true_eq] at ht
    exact trodAll_cons_mk (Below.trod hl ht.1.1 ht.1.2 h0 hb hlt) (ih vs' ds' p' ht.2 h1)

theorem trodAll_len {H : Type} {enc : TypeId × Value → H} {P : Program} {W : World} {base : Nat} {sp : Nat → Bool} {held : Bool} :
    ∀ (ts : List TypeId) (vs : List Value) (ds : List (DataW H)) (ps : List MemPlace), DataW.TrodAll enc P W base sp held ts vs ds ps → ds.length = ts.length := by
  intro ts
  induction ts with
  | nil =>
    intro vs ds ps h
    obtain ⟨rfl, rfl, rfl⟩ := trodAll_nil h
    rfl
  | cons t ts ih =>
    intro vs ds ps h
    obtain ⟨v, vs', d, ds', p, p', rfl, rfl, rfl, h0, h1⟩ := cons_inv h
    simp [ih vs' ds' p' h1]

/-- a parameter of any integer kind, any bool -/
theorem int_of {H : Type} {enc : TypeId × Value → H} {P : Program} {W : World} {base base' : Nat} {sp : Nat → Bool} {held : Bool} {t : TypeId} {k : IntKind} {v : Value} {d : DataW H} {p : List MemPlace} (ht : P.underlying t = some (.int k))
    (hv : Value.okWide P W .any base t v) (h : DataW.Trod enc P W base' sp held t v d p) : ∃ n : Int, v = .int k n ∧ (Lit.int k n).wf = true := by
  obtain ⟨x, rfl, _, _, wx⟩ := open_int ht hv h
  exact ⟨x, rfl, wx⟩
/-- a struct of three numbers, by value -/
theorem agg3_of {H : Type} {enc : TypeId × Value → H} {P : Program} {W : World} {base base' : Nat} {sp : Nat → Bool} {held : Bool} {t : TypeId} {f0 f1 f2 : Field} {k0 k1 k2 : IntKind} {v : Value} {d : DataW H} {p : List MemPlace}
    (ht : P.underlying t = some (.struct #[f0, f1, f2])) (hone : oneCellFields P #[f0, f1, f2] = true) (hC : P.cellsOf t = 3) (e0 : P.underlying f0.type = some (.int k0)) (e1 : P.underlying f1.type = some (.int k1)) (e2 : P.underlying f2.type = some (.int k2))
    (hv : Value.okWide P W .any base t v) (h : DataW.Trod enc P W base' sp held t v d p) : ∃ a b c : Int, v = .agg #[.int k0 a, .int k1 b, .int k2 c] ∧ (Lit.int k0 a).wf = true ∧ (Lit.int k1 b).wf = true ∧ (Lit.int k2 c).wf = true := by
  obtain ⟨c0, c1, c2, y0, y1, y2, m, rfl, _, _, hy0, hy1, hy2⟩ := Joins.open_agg3 ht hone hC hv h
  obtain ⟨a, ha, _, wa⟩ := DataW.trod_int e0 hy0
  obtain ⟨b, hb, _, wb⟩ := DataW.trod_int e1 hy1
  obtain ⟨c, hc, _, wc⟩ := DataW.trod_int e2 hy2
  simp only [List.cons.injEq, and_true] at ha hb hc
  subst ha hb hc
  exact ⟨a, b, c, rfl, wa, wb, wc⟩
theorem i64_range {x : Int} (h : (Lit.int .i64 x).wf = true) : -9223372036854775808 ≤ x ∧ x ≤ 9223372036854775807 := bounds_i64 h
theorem u64_range {x : Int} (h : (Lit.int .u64 x).wf = true) : 0 ≤ x ∧ x ≤ 18446744073709551615 := bounds_u64 h
theorem u8_range {x : Int} (h : (Lit.int .u8 x).wf = true) : 0 ≤ x ∧ x ≤ 255 := bounds_u8 h
theorem u16_range {x : Int} (h : (Lit.int .u16 x).wf = true) : 0 ≤ x ∧ x ≤ 65535 := bounds_u16 h
end Go.Proofs.Ytbemgfpnoeogdaa.Lift

/-
  Small lemmas on worlds, cells and ways of walking (no program in sight).
-/
namespace Go.Proofs.Ytbemgfpnoeogdaa.RefP
open Go.RowKit Go.Sort
set_option linter.unusedVariables false

theorem below_of_regrown {W w' : World} (h : ∃ p : Regrown, w' = grow (redrawn W p.d) p.os) : Below W.heap.size W w' := by
  obtain ⟨p, rfl⟩ := h
  exact below_regrown W p.d p.os
theorem World.cell?_alloc_some' {w : World} {a : Addr} {v : Value} {O : Obj} (h : w.cell? a = some v) : (w.alloc O).cell? a = some v := by
  rw [World.cell?_alloc_some _ _ _ (by simp [h])]; exact h
theorem World.cell?_alloc_new' (w : World) {C : Array Value} {T : TypeId} {v : Value} (i : Nat) (h : C[i]? = some v) : (w.alloc (.cells C T)).cell? ⟨w.heap.size, i, none⟩ = some v := by
  rw [World.cell?_alloc_new]; exact h
theorem below_push {B : Nat} {a b c : World} (h : Below B a b) (k : Below b.heap.size b c) (hB : B ≤ b.heap.size) : Below B a c := h.trans (k.mono hB)
theorem below_drewN {B : Nat} {a w : World} (h : Below B a w) (n : Nat) : Below B a (w.drewN n) := ⟨h.os, h.tape, h.output, h.size, h.block⟩
theorem World.size_drewN' (w : World) (n : Nat) : (w.drewN n).heap.size = w.heap.size := rfl
theorem below_box (w : World) (o : Obj) (n : Nat) : Below w.heap.size w ((w.alloc o).drewN n) :=
  ((Below.refl _ _).alloc (Nat.le_refl _) o).trans ⟨rfl, rfl, rfl, Nat.le_refl _, fun _ _ => rfl⟩
theorem bcell {W w1 : World} (hb : Below W.heap.size W w1) : (∀ b o, b < W.heap.size → w1.cell? ⟨b, o, none⟩ = W.cell? ⟨b, o, none⟩) ∧ (∀ b o, b < W.heap.size → w1.frozen? ⟨b, o, none⟩ = W.frozen? ⟨b, o, none⟩) :=
  ⟨fun b o h => hb.cell (p := ⟨b, o, none⟩) h, fun b o h => hb.frozen (p := ⟨b, o, none⟩) h⟩
theorem below_two {a b c : World} (h : Below a.heap.size a b) (k : Below b.heap.size b c) : Below a.heap.size a c := h.trans (k.mono h.size)
theorem below_call {w w1 : World} {o : Obj} (h : Below (w.alloc o).heap.size (w.alloc o) w1) : Below w.heap.size w w1 :=
  ((Below.refl _ _).alloc (Nat.le_refl _) o).trans (h.mono (by simp))
theorem ret_int {k : IntKind} {a b : Int} (h : a = b) : Ending.returned (.int k a) = .returned (.int k b) := by rw [h]
theorem ret_u64 {a b : Int} (h : a = b) : Ending.returned (.int .u64 a) = .returned (.int .u64 b) := by rw [h]
theorem ret_b {a b : Bool} (h : a = b) : Ending.returned (.bool a) = .returned (.bool b) := by rw [h]
theorem ret_3 {a b c d : Int} {x y : Bool} (h1 : a = b) (h2 : c = d) (h3 : x = y) : Ending.returned (.tuple #[.int .i64 a, .int .u64 c, .bool x]) = .returned (.tuple #[.int .i64 b, .int .u64 d, .bool y]) := by rw [h1, h2, h3]
theorem not_eq {s k : Int} (h : s ≠ k) : (s == k) = false := by simpa using h
end Go.Proofs.Ytbemgfpnoeogdaa.RefP

/-
  Rows of cells in memory: what stands in them, and that it stays.
-/
namespace Go.Proofs.Ytbemgfpnoeogdaa.RefP
open Go.RowKit
set_option linter.unusedVariables false
set_option linter.unusedSimpArgs false

theorem below_alloc2 {B : Nat} {a w : World} (h : Below B a w) (hB : B ≤ a.heap.size) (o : Obj) : Below B a (w.alloc o) := h.alloc (Nat.le_trans hB h.size) o
theorem below_push2 {B : Nat} {a b c : World} (h : Below B a b) (k : Below b.heap.size b c) (hB : B ≤ a.heap.size) : Below B a c := h.trans (k.mono (Nat.le_trans hB h.size))
/-- The m cells from address a on hold f 0, f 1, ..; nothing is said of a where m is 0. -/
structure Holds (w : World) (a : Option Addr) (m : Nat) (f : Nat → Value) : Prop where
  get : 0 < m → ∃ b off, a = some ⟨b, off, none⟩ ∧ b < w.heap.size ∧ ∀ i, i < m → w.cell? ⟨b, off + i, none⟩ = some (f i)
theorem Holds.below {w w' : World} {a : Option Addr} {m : Nat} {f : Nat → Value} (h : Holds w a m f) (hb : Below w.heap.size w w') : Holds w' a m f :=
  ⟨fun h0 => by
    obtain ⟨b, off, ha, hl, hc⟩ := h.get h0
    exact ⟨b, off, ha, Nat.lt_of_lt_of_le hl hb.size, fun i hi => (hb.cell (p := ⟨b, off + i, none⟩) hl).trans (hc i hi)⟩⟩
theorem Holds.nil (w : World) (a : Option Addr) (f : Nat → Value) : Holds w a 0 f := ⟨fun h => absurd h (by omega)⟩
theorem Holds.congr {w : World} {a : Option Addr} {m : Nat} {f g : Nat → Value} (h : Holds w a m f) (e : ∀ i, i < m → f i = g i) : Holds w a m g :=
  ⟨fun h0 => by
    obtain ⟨b, off, ha, hl, hc⟩ := h.get h0
    exact ⟨b, off, ha, hl, fun i hi => by rw [hc i hi, e i hi]⟩⟩

/-- the number at a place, 0 where there is none -/
def at0 (xs : List Int) (i : Nat) : Int := xs.getD i 0
theorem at0_of (xs : List Int) (i : Nat) (h : i < xs.length) : at0 xs i = xs[i] := by simp [at0, h]
theorem at0_mem (xs : List Int) (i : Nat) (h : i < xs.length) : at0 xs i ∈ xs := by rw [at0_of xs i h]; exact List.getElem_mem h
theorem at0_out (xs : List Int) (i : Nat) (h : xs.length ≤ i) : at0 xs i = 0 := by simp [at0, List.getElem?_eq_none h]
theorem at0_take (xs : List Int) (k i : Nat) (h : i < k) : at0 (xs.take k) i = at0 xs i := by simp [at0, List.getElem?_take, h]
theorem at0_append (xs ys : List Int) (i : Nat) (h : i < xs.length) : at0 (xs ++ ys) i = at0 xs i := by simp [at0, List.getElem?_append_left h]
theorem at0_snoc (xs : List Int) (x : Int) : at0 (xs ++ [x]) xs.length = x := by simp [at0]
theorem take_succ_at0 (xs : List Int) (k : Nat) (h : k < xs.length) : xs.take (k + 1) = xs.take k ++ [at0 xs k] := by
  rw [List.take_succ_eq_append_getElem h, at0_of xs k h]

/-- a row of words -/
def u64F (xs : List Int) (i : Nat) : Value := .int .u64 (at0 xs i)
structure U64s (w : World) (a : Option Addr) (xs : List Int) : Prop where
  row : Holds w a xs.length (u64F xs)
  rng : ∀ x ∈ xs, 0 ≤ x ∧ x ≤ 18446744073709551615
  len : xs.length ≤ 9223372036854775807
theorem U64s.below {w w' : World} {a : Option Addr} {xs : List Int} (h : U64s w a xs) (hb : Below w.heap.size w w') : U64s w' a xs := ⟨h.row.below hb, h.rng, h.len⟩
theorem U64s.nil (w : World) (a : Option Addr) : U64s w a [] := ⟨Holds.nil _ _ _, by simp, by simp⟩
theorem U64s.rngD {w : World} {a : Option Addr} {xs : List Int} (h : U64s w a xs) (i : Nat) : 0 ≤ at0 xs i ∧ at0 xs i ≤ 18446744073709551615 := by
  by_cases hi : i < xs.length
  · exact h.rng _ (at0_mem xs i hi)
  · rw [at0_out _ _ (by omega)]; omega
/-- the cell of a place -/
theorem U64s.cell {w : World} {a : Option Addr} {xs : List Int} (h : U64s w a xs) (k : Nat) (hk : k < xs.length) : ∃ b off, a = some ⟨b, off, none⟩ ∧ b < w.heap.size ∧ w.cell? ⟨b, off + k, none⟩ = some (.int .u64 (at0 xs k)) := by
  obtain ⟨b, off, ha, hl, hc⟩ := h.row.get (by omega)
  exact ⟨b, off, ha, hl, hc k hk⟩

/-! a block that is known whole, and may be written -/
structure Blk (w : World) (b : Nat) (cs : Array Value) (T : TypeId) : Prop where
  h : w.heap[b]? = some (.cells cs T (0, 0))
theorem Blk.lt {w : World} {b : Nat} {cs : Array Value} {T : TypeId} (k : Blk w b cs T) : b < w.heap.size := lt_of_block k.h
theorem Blk.cellAt {w : World} {b : Nat} {cs : Array Value} {T : TypeId} (k : Blk w b cs T) (i : Nat) : w.cell? ⟨b, i, none⟩ = cs[i]? := by simp [World.cell?, k.h]
theorem Blk.at {w : World} {b : Nat} {cs : Array Value} {T : TypeId} (k : Blk w b cs T) (i : Nat) {v : Value} (e : cs[i]? = some v) : w.cell? ⟨b, i, none⟩ = some v := (k.cellAt i).trans e
theorem Blk.free {w : World} {b : Nat} {cs : Array Value} {T : TypeId} (k : Blk w b cs T) (i : Nat) : w.frozen? ⟨b, i, none⟩ = false := by simp [World.frozen?, k.h]
theorem Blk.below {w w' : World} {b : Nat} {cs : Array Value} {T : TypeId} (k : Blk w b cs T) (hb : Below w.heap.size w w') : Blk w' b cs T := ⟨(hb.block b k.lt).trans k.h⟩
theorem Blk.alloc {w : World} {b : Nat} {cs : Array Value} {T : TypeId} (k : Blk w b cs T) (o : Obj) : Blk (w.alloc o) b cs T := ⟨(Below.heap_alloc w o b k.lt).trans k.h⟩
theorem Blk.new (w : World) (cs : Array Value) (T : TypeId) : Blk (w.alloc (.cells cs T)) w.heap.size cs T := ⟨heap_alloc_new w _⟩
theorem Blk.drew {w : World} {b : Nat} {cs : Array Value} {T : TypeId} (k : Blk w b cs T) : Blk w.drew b cs T := ⟨k.h⟩
theorem Blk.drewN {w : World} {b : Nat} {cs : Array Value} {T : TypeId} (k : Blk w b cs T) (n : Nat) : Blk (w.drewN n) b cs T := ⟨k.h⟩
theorem Blk.set {w : World} {b : Nat} {cs : Array Value} {T : TypeId} (k : Blk w b cs T) (i : Nat) (v : Value) : Blk (w.setCell ⟨b, i, none⟩ v) b (cs.setIfInBounds i v) T := by
  have hlt := k.lt
  have h' : w.heap[b] = .cells cs T (0, 0) := by simpa [Array.getElem?_eq_getElem hlt] using k.h
  refine ⟨?_⟩
  show (w.heap.modify b _)[b]? = _
  rw [Array.getElem?_eq_getElem (by simpa using hlt), Array.getElem_modify_self, h']
  rfl
theorem Blk.far {w : World} {b : Nat} {cs : Array Value} {T : TypeId} (k : Blk w b cs T) (a : Addr) (v : Value) (hne : b ≠ a.block) : Blk (w.setCell a v) b cs T := ⟨(Below.heap_setCell w a v b hne).trans k.h⟩
theorem Blk.grown {w w' : World} {b : Nat} {cs : Array Value} {T : TypeId} {row : Option Nat} (k : Blk w b cs T) (hg : w.grownBy w' row) (hne : some b ≠ row) : Blk w' b cs T := ⟨(hg.block b k.lt hne).trans k.h⟩
theorem Holds.of_owns {w : World} {base : Nat} {e : TypeId} {size : Nat} {a : Option Addr} {n c : Nat} {xs : List Value} (h : w.ownsRow base e size (.slice a n c) n xs) : Holds w a xs.length (fun i => xs.getD i undef) := by
  obtain ⟨h1, h2⟩ := h
  rcases h2 with ⟨hv, rfl⟩ | ⟨g, cap, cur, hv, hg, hh, hn, hc, hs, ht⟩
  · have : xs.length = 0 := by omega
    rw [this]; exact Holds.nil _ _ _
  · simp only [Value.slice.injEq] at hv
    obtain ⟨rfl, _, _⟩ := hv
    refine ⟨fun h0 => ⟨g, 0, rfl, lt_of_block hh, fun i hi => ?_⟩⟩
    have hi' : cur.toList[i]? = some (xs[i]) := by
      have e1 : (cur.toList.take (n * size))[i]? = some (xs[i]) := by rw [ht]; exact List.getElem?_eq_getElem hi
      rw [List.getElem?_take] at e1
      split at e1
      · exact e1
      · cases e1
    simp only [Nat.zero_add]
    simp only [World.cell?, hh]
    simpa [hi] using hi'

/-! rows of pairs of a number and a word (thread and phase) -/
def at2 (l : List (Int × Int)) (i : Nat) : Int × Int := l.getD i (0, 0)
theorem at2_of (l : List (Int × Int)) (i : Nat) (h : i < l.length) : at2 l i = l[i] := by simp [at2, h]
theorem at2_mem (l : List (Int × Int)) (i : Nat) (h : i < l.length) : at2 l i ∈ l := by rw [at2_of l i h]; exact List.getElem_mem h
theorem take_succ_at2 (l : List (Int × Int)) (k : Nat) (h : k < l.length) : l.take (k + 1) = l.take k ++ [at2 l k] := by
  rw [List.take_succ_eq_append_getElem h, at2_of l k h]
def candF (l : List (Int × Int)) (m : Nat) : Value := if m % 2 = 0 then .int .i64 (at2 l (m / 2)).1 else .int .u64 (at2 l (m / 2)).2
structure Cands (w : World) (a : Option Addr) (l : List (Int × Int)) : Prop where
  row : Holds w a (l.length * 2) (candF l)
  rng : ∀ c ∈ l, (-9223372036854775808 ≤ c.1 ∧ c.1 ≤ 9223372036854775807) ∧ 0 ≤ c.2 ∧ c.2 ≤ 18446744073709551615
  len : l.length ≤ 9223372036854775807
theorem Cands.below {w w' : World} {a : Option Addr} {l : List (Int × Int)} (h : Cands w a l) (hb : Below w.heap.size w w') : Cands w' a l := ⟨h.row.below hb, h.rng, h.len⟩
theorem Cands.cell {w : World} {a : Option Addr} {l : List (Int × Int)} (h : Cands w a l) (k : Nat) (hk : k < l.length) :
    ∃ b off, a = some ⟨b, off, none⟩ ∧ b < w.heap.size ∧ w.cell? ⟨b, off + k * 2, none⟩ = some (.int .i64 (at2 l k).1) ∧ w.cell? ⟨b, off + k * 2 + 1, none⟩ = some (.int .u64 (at2 l k).2) := by
  obtain ⟨b, off, ha, hl, hc⟩ := h.row.get (by omega)
  refine ⟨b, off, ha, hl, ?_, ?_⟩
  · rw [hc (k * 2) (by omega)]
    simp [candF]
  · have := hc (k * 2 + 1) (by omega)
    rw [← Nat.add_assoc] at this
    rw [this]
    have e1 : (k * 2 + 1) % 2 = 1 := by omega
    have e2 : (k * 2 + 1) / 2 = k := by omega
    simp [candF, e1, e2]
theorem Cands.rngD {w : World} {a : Option Addr} {l : List (Int × Int)} (h : Cands w a l) (k : Nat) (hk : k < l.length) : (-9223372036854775808 ≤ (at2 l k).1 ∧ (at2 l k).1 ≤ 9223372036854775807) ∧ 0 ≤ (at2 l k).2 ∧ (at2 l k).2 ≤ 18446744073709551615 := h.rng _ (at2_mem l k hk)

/-! n structs of k numbers: field j of the i-th is F i j, of kind K j -/
structure Nums (w : World) (a : Option Addr) (n k : Nat) (K : Nat → IntKind) (F : Nat → Nat → Int) : Prop where
  get : 0 < n → ∃ b off, a = some ⟨b, off, none⟩ ∧ b < w.heap.size ∧ ∀ i j, i < n → j < k → w.cell? ⟨b, off + (i * k + j), none⟩ = some (.int (K j) (F i j))
  wf : ∀ i j, i < n → j < k → (Lit.int (K j) (F i j)).wf = true
  len : n ≤ 9223372036854775807
theorem Nums.below {w w' : World} {a : Option Addr} {n k : Nat} {K : Nat → IntKind} {F : Nat → Nat → Int} (h : Nums w a n k K F) (hb : Below w.heap.size w w') : Nums w' a n k K F :=
  ⟨fun h0 => by
    obtain ⟨b, off, ha, hl, hc⟩ := h.get h0
    exact ⟨b, off, ha, Nat.lt_of_lt_of_le hl hb.size, fun i j hi hj => (hb.cell (p := ⟨b, off + (i * k + j), none⟩) hl).trans (hc i j hi hj)⟩, h.wf, h.len⟩
theorem Nums.nil (w : World) (a : Option Addr) (k : Nat) (K : Nat → IntKind) (F : Nat → Nat → Int) : Nums w a 0 k K F := ⟨fun h => absurd h (by omega), fun i j h => absurd h (by omega), by omega⟩
/-- the cells of the i-th -/
theorem Nums.cell {w : World} {a : Option Addr} {n k : Nat} {K : Nat → IntKind} {F : Nat → Nat → Int} (h : Nums w a n k K F) (i : Nat) (hi : i < n) :
    ∃ b off, a = some ⟨b, off, none⟩ ∧ b < w.heap.size ∧ ∀ j, j < k → w.cell? ⟨b, off + i * k + j, none⟩ = some (.int (K j) (F i j)) := by
  obtain ⟨b, off, ha, hl, hc⟩ := h.get (by omega)
  exact ⟨b, off, ha, hl, fun j hj => by rw [Nat.add_assoc]; exact hc i j hi hj⟩
end Go.Proofs.Ytbemgfpnoeogdaa.RefP

/-
  What a type's cells hold, in depth: a codec says of which plain thing some cells are, in a world, with rows that lie in none of some blocks. Numbers, bools, strings, records, rows. And how a law's arguments are opened. No program in sight.
-/
namespace Go.Proofs.Ytbemgfpnoeogdaa.Dp
open Go.ChangeShapes Go.WideShapes Go.ChangeAt Go.RowKit Go.Joins Go.Deep RefP
set_option linter.unusedVariables false
set_option linter.unusedSimpArgs false

/-- every block is as it was, but for some -/
structure Keeps (S : List Nat) (w w' : World) : Prop where
  size : w.heap.size ≤ w'.heap.size
  block : ∀ b, b < w.heap.size → b ∉ S → w'.heap[b]? = w.heap[b]?
theorem Keeps.refl (S : List Nat) (w : World) : Keeps S w w := ⟨Nat.le_refl _, fun _ _ _ => rfl⟩
theorem Keeps.trans {S : List Nat} {a b c : World} (h : Keeps S a b) (k : Keeps S b c) : Keeps S a c :=
  ⟨Nat.le_trans h.size k.size, fun i hi hn => (k.block i (Nat.lt_of_lt_of_le hi h.size) hn).trans (h.block i hi hn)⟩
theorem Keeps.of_below {S : List Nat} {w w' : World} (h : Below w.heap.size w w') : Keeps S w w' := ⟨h.size, fun b hb _ => h.block b hb⟩
theorem Keeps.of_grown {S : List Nat} {w w' : World} {row : Option Nat} (h : w.grownBy w' row) (hr : ∀ g, row = some g → g ∈ S) : Keeps S w w' :=
  ⟨h.size, fun b hb hn => h.block b hb (fun e => hn (hr b e.symm))⟩
theorem Keeps.set {S : List Nat} {w : World} (a : Addr) (v : Value) (h : a.block ∈ S) : Keeps S w (w.setCell a v) :=
  ⟨by simp, fun b _ hn => Below.heap_setCell w a v b (fun e => hn (e ▸ h))⟩
theorem Keeps.more {S S' : List Nat} {w w' : World} (h : Keeps S w w') (k : ∀ b ∈ S, b ∈ S') : Keeps S' w w' := ⟨h.size, fun b hb hn => h.block b hb (fun e => hn (k b e))⟩
theorem Keeps.cell {S : List Nat} {w w' : World} (h : Keeps S w w') {p : Addr} (hb : p.block < w.heap.size) (hn : p.block ∉ S) : w'.cell? p = w.cell? p := World.cell?_of_block (h.block _ hb hn)
/-- but for blocks that were not there -/
theorem Keeps.below {S : List Nat} {w w' : World} (h : Keeps S w w') (B : Nat) (hB : B ≤ w.heap.size) (hS : ∀ b ∈ S, B ≤ b) : ∀ b, b < B → w'.heap[b]? = w.heap[b]? :=
  fun b hb => h.block b (by omega) (fun e => by have := hS b e; omega)

structure Cod (α : Type) where
  k : Nat
  rep : World → List Nat → List Value → α → Prop
  len : ∀ {w S cs x}, rep w S cs x → cs.length = k
  one : ∀ {w S cs x}, rep w S cs x → ∀ v ∈ cs, v.oneCell' = true
  keep : ∀ {w w' S cs x}, rep w S cs x → Keeps S w w' → rep w' S cs x
  more : ∀ {w S S' cs x}, rep w S cs x → (∀ b ∈ S', b ∈ S ∨ w.heap.size ≤ b) → rep w S' cs x

def intC (k : IntKind) : Cod Int where
  k := 1
  rep _ _ cs x := cs = [.int k x] ∧ (Lit.int k x).wf = true
  len h := by rw [h.1]; rfl
  one h := by rw [h.1]; simp [Value.oneCell']
  keep h _ := h
  more h _ := h
def boolC : Cod Bool where
  k := 1
  rep _ _ cs x := cs = [.bool x]
  len h := by rw [h]; rfl
  one h := by rw [h]; simp [Value.oneCell']
  keep h _ := h
  more h _ := h
def strC : Cod ByteArray where
  k := 1
  rep _ _ cs x := cs = [.string x] ∧ x.size ≤ maxLen
  len h := by rw [h.1]; rfl
  one h := by rw [h.1]; simp [Value.oneCell']
  keep h _ := h
  more h _ := h
def unitC : Cod Unit where
  k := 0
  rep _ _ cs _ := cs = []
  len h := by rw [h]; rfl
  one h := by rw [h]; simp
  keep h _ := h
  more h _ := h
def pairC {α β : Type} (A : Cod α) (B : Cod β) : Cod (α × β) where
  k := A.k + B.k
  rep w S cs x := ∃ c d, cs = c ++ d ∧ A.rep w S c x.1 ∧ B.rep w S d x.2
  len h := by
    obtain ⟨c, d, rfl, h1, h2⟩ := h
    rw [List.length_append, A.len h1, B.len h2]
  one h := by
    obtain ⟨c, d, rfl, h1, h2⟩ := h
    intro v hv
    rcases List.mem_append.1 hv with hv | hv
    · exact A.one h1 v hv
    · exact B.one h2 v hv
  keep h k := by
    obtain ⟨c, d, e, h1, h2⟩ := h
    exact ⟨c, d, e, A.keep h1 k, B.keep h2 k⟩
  more h k := by
    obtain ⟨c, d, e, h1, h2⟩ := h
    exact ⟨c, d, e, A.more h1 k, B.more h2 k⟩
/-- the cells of a row: of which things they are -/
def RowRep {α : Type} (E : Cod α) (w : World) (S : List Nat) (a : Option Addr) (xs : List α) : Prop :=
  0 < xs.length → ∃ b off, a = some ⟨b, off, none⟩ ∧ b < w.heap.size ∧ b ∉ S ∧ ∀ i x, xs[i]? = some x → ∃ cs, E.rep w S cs x ∧ ∀ j v, cs[j]? = some v → w.cell? ⟨b, off + i * E.k + j, none⟩ = some v
theorem RowRep.keep {α : Type} {E : Cod α} {w w' : World} {S : List Nat} {a : Option Addr} {xs : List α} (h : RowRep E w S a xs) (k : Keeps S w w') : RowRep E w' S a xs := by
  intro h0
  obtain ⟨b, off, ha, hb, hs, hc⟩ := h h0
  refine ⟨b, off, ha, Nat.lt_of_lt_of_le hb k.size, hs, fun i x hx => ?_⟩
  obtain ⟨cs, hr, hv⟩ := hc i x hx
  exact ⟨cs, E.keep hr k, fun j v hj => (k.cell (p := ⟨b, _, none⟩) hb hs).trans (hv j v hj)⟩
theorem RowRep.more {α : Type} {E : Cod α} {w : World} {S S' : List Nat} {a : Option Addr} {xs : List α} (h : RowRep E w S a xs) (k : ∀ b ∈ S', b ∈ S ∨ w.heap.size ≤ b) : RowRep E w S' a xs := by
  intro h0
  obtain ⟨b, off, ha, hb, hs, hc⟩ := h h0
  refine ⟨b, off, ha, hb, fun e => ?_, fun i x hx => ?_⟩
  · rcases k b e with q | q
    · exact hs q
    · omega
  · obtain ⟨cs, hr, hv⟩ := hc i x hx
    exact ⟨cs, E.more hr k, hv⟩
theorem RowRep.nil {α : Type} (E : Cod α) (w : World) (S : List Nat) (a : Option Addr) : RowRep E w S a [] := fun h => absurd h (by simp)
def rowC {α : Type} (E : Cod α) : Cod (List α) where
  k := 1
  rep w S cs xs := ∃ a c, cs = [.slice a xs.length c] ∧ xs.length ≤ c ∧ c ≤ maxLen ∧ RowRep E w S a xs
  len h := by obtain ⟨a, c, rfl, _⟩ := h; rfl
  one h := by obtain ⟨a, c, rfl, _⟩ := h; simp [Value.oneCell']
  keep h k := by
    obtain ⟨a, c, e, h1, h2, h3⟩ := h
    exact ⟨a, c, e, h1, h2, h3.keep k⟩
  more h k := by
    obtain ⟨a, c, e, h1, h2, h3⟩ := h
    exact ⟨a, c, e, h1, h2, h3.more k⟩
/-- read under another name -/
def isoC {α β : Type} (A : Cod α) (f : β → α) : Cod β where
  k := A.k
  rep w S cs x := A.rep w S cs (f x)
  len h := A.len h
  one h := A.one h
  keep h k := A.keep h k
  more h k := A.more h k

/-! arguments opened -/
def Opens (P : Program) (t : TypeId) {α : Type} (C : Cod α) : Prop :=
  ∀ {H : Type} (enc : TypeId × Value → H) (w : World) (base : Nat) (sp : Nat → Bool) (held : Bool) (fuel : Nat) (cs : List Value) (y : DataW H × List MemPlace), DataW.trod enc P w base sp held fuel t cs = some y → ∃ x, C.rep w [] cs x
theorem opens_int {P : Program} {t : TypeId} {k : IntKind} (ht : P.underlying t = some (.int k)) : Opens P t (intC k) := by
  intro H enc w base sp held fuel cs y h
  obtain ⟨n, e, _, hw⟩ := DataW.trod_int ht h
  exact ⟨n, e, hw⟩
theorem opens_bool {P : Program} {t : TypeId} (ht : P.underlying t = some .bool) : Opens P t boolC := by
  intro H enc w base sp held fuel cs y h
  obtain ⟨n, e, _⟩ := DataW.trod_bool ht h
  exact ⟨n, e⟩
theorem opens_str {P : Program} {t : TypeId} (ht : P.underlying t = some .string) : Opens P t strC := by
  intro H enc w base sp held fuel cs y h
  obtain ⟨n, e, _, hs⟩ := DataW.trod_string ht h
  exact ⟨n, e, hs⟩
/-- fields from an offset on -/
def OpensAt (P : Program) (fs : List Field) (off : Nat) {α : Type} (C : Cod α) : Prop :=
  ∀ {H : Type} (enc : TypeId × Value → H) (w : World) (base : Nat) (sp : Nat → Bool) (held : Bool) (fuel : Nat) (cs : List Value), cs.length = off + C.k →
    (∀ f ∈ fs, ∃ y, DataW.trod enc P w base sp held fuel f.type ((cs.drop f.offset).take (P.cellsOf f.type)) = some y) → ∃ x, C.rep w [] (cs.drop off) x
theorem opens_nil {P : Program} {off : Nat} : OpensAt P [] off unitC := by
  intro H enc w base sp held fuel cs hl _
  have : cs.length = off := hl
  refine ⟨(), ?_⟩
  show cs.drop off = []
  exact List.drop_eq_nil_of_le (by omega)
theorem opens_cons {P : Program} {f : Field} {fs : List Field} {off : Nat} {α β : Type} {A : Cod α} {B : Cod β} (ho : f.offset = off) (hk : P.cellsOf f.type = A.k) (hA : Opens P f.type A) (hB : OpensAt P fs (off + A.k) B) : OpensAt P (f :: fs) off (pairC A B) := by
  intro H enc w base sp held fuel cs hl h
  obtain ⟨y, hy⟩ := h f (by simp)
  rw [ho, hk] at hy
  obtain ⟨x, hx⟩ := hA enc w base sp held fuel _ y hy
  obtain ⟨z, hz⟩ := hB enc w base sp held fuel cs (by rw [hl]; show off + (A.k + B.k) = _; omega) (fun g hg => h g (by simp [hg]))
  refine ⟨(x, z), _, _, ?_, hx, hz⟩
  rw [← List.drop_drop, List.take_append_drop]
theorem opens_struct {P : Program} {t : TypeId} {fs : Array Field} {α : Type} {C : Cod α} (ht : P.underlying t = some (.struct fs)) (hk : P.cellsOf t = C.k) (h : OpensAt P fs.toList 0 C) : Opens P t C := by
  intro H enc w base sp held fuel cs y hy
  obtain ⟨xs, n, _, _, hl, hxs, hf⟩ := DataW.trod_struct ht hy
  obtain ⟨x, hx⟩ := h enc w base sp held n cs (by omega) (fun f hfm => by
    obtain ⟨i, hi, rfl⟩ := List.getElem_of_mem hfm
    have hi' : i < fs.size := by simpa using hi
    have := hf i fs[i] (by simp [hi'])
    rw [List.getElem?_eq_getElem (by omega)] at this
    exact ⟨_, this⟩)
  exact ⟨x, by simpa using hx⟩
theorem opens_iso {P : Program} {t : TypeId} {α β : Type} {C : Cod α} (f : β → α) (g : α → β) (hg : ∀ x, f (g x) = x) (h : Opens P t C) : Opens P t (isoC C f) := by
  intro H enc w base sp held fuel cs y hy
  obtain ⟨x, hx⟩ := h enc w base sp held fuel cs y hy
  exact ⟨g x, by show C.rep w [] cs (f (g x)); rw [hg]; exact hx⟩
theorem list_of_get {α : Type} (n : Nat) (p : Nat → α → Prop) (h : ∀ i, i < n → ∃ x, p i x) : ∃ l : List α, l.length = n ∧ ∀ i x, l[i]? = some x → p i x := by
  induction n with
  | zero => exact ⟨[], rfl, fun i x hx => by simp at hx⟩
  | succ n ih =>
    obtain ⟨l, hl, hp⟩ := ih (fun i hi => h i (by omega))
    obtain ⟨x, hx⟩ := h n (by omega)
    refine ⟨l ++ [x], by simp [hl], fun i y hy => ?_⟩
    by_cases hi : i < l.length
    · rw [List.getElem?_append_left hi] at hy
      exact hp i y hy
    · rw [List.getElem?_append_right (by omega)] at hy
      have : i = l.length := by
        by_cases e : i - l.length = 0
        · omega
        · rw [List.getElem?_eq_none (by simp; omega)] at hy; cases hy
      subst this
      simp at hy
      subst hy
      rw [hl]; exact hx
theorem opens_row {P : Program} {t e : TypeId} {α : Type} {E : Cod α} (ht : P.underlying t = some (.slice e)) (hk : P.cellsOf e = E.k) (hpos : 0 < E.k) (h : Opens P e E) : Opens P t (rowC E) := by
  intro H enc w base sp held fuel cs y hy
  rcases open_slice ht hy with ⟨rfl, _⟩ | ⟨a, len, cap, m, n, D, Pl, rfl, hb, hl, hm, hmm, _, hi⟩
  · exact ⟨[], none, 0, rfl, Nat.le_refl _, Nat.zero_le _, RowRep.nil _ _ _ _⟩
  · have hE : ∀ i, i < len → ∃ x, ∃ cs', E.rep w [] cs' x ∧ ∀ j v, cs'[j]? = some v → w.cell? (a.add (i * E.k + j)) = some v := by
      intro i hil
      obtain ⟨cs', hc, ht'⟩ := hi i (by rw [hmm]; split <;> omega)
      obtain ⟨x, hx⟩ := h enc w base sp held n cs' _ ht'
      rw [hk] at hc
      obtain ⟨_, hcl, hat⟩ := World.cells?_some hc
      refine ⟨x, cs', hx, fun j v hj => ?_⟩
      have hj' : j < E.k := by
        rw [← hcl]
        exact (List.getElem?_eq_some_iff.1 hj).1
      rw [← Go.Deep.add_add, hat j hj', hj]
    obtain ⟨xs, hxl, hxs⟩ := list_of_get len _ hE
    refine ⟨xs, some a, cap, by rw [hxl], by rw [hxl]; exact hl, hm, fun h0 => ?_⟩
    obtain ⟨cs0, hr0, hc0⟩ := hxs 0 (xs[0]'h0) (List.getElem?_eq_getElem h0)
    have hk0 := E.len hr0
    have hc00 := hc0 0 (cs0[0]'(by omega)) (List.getElem?_eq_getElem (by omega))
    obtain ⟨b, off, spot⟩ := a
    have hspot : spot = none := by simpa [Addr.add] using World.cell?_spot hc00
    subst hspot
    have hadd : ∀ i, (⟨b, off, none⟩ : Addr).add i = ⟨b, off + i, none⟩ := by
      intro i
      unfold Addr.add
      by_cases h : i = 0 <;> simp [h]
    rw [hadd] at hc00
    refine ⟨b, off, rfl, block_lt_of_cell hc00, by simp, fun i x hx => ?_⟩
    obtain ⟨cs', hr, hc⟩ := hxs i x hx
    refine ⟨cs', hr, fun j v hj => ?_⟩
    have := hc j v hj
    rw [hadd, ← Nat.add_assoc] at this
    exact this
/-- an argument that is a struct, by value, or a slice -/
theorem opens_agg {P : Program} {t : TypeId} {α : Type} {C : Cod α} (h : Opens P t C) {H : Type} {enc : TypeId × Value → H} {W : World} {base base' : Nat} {sp : Nat → Bool} {held : Bool} {v : Value} {d : DataW H} {p : List MemPlace} {fs : Array Field} (ht : P.underlying t = some (.struct fs))
    (hv : Value.okWide P W .any base t v) (hd : DataW.Trod enc P W base' sp held t v d p) : ∃ cs x, v = .agg cs ∧ C.rep W [] cs.toList x := by
  rw [Value.okWide] at hv
  rw [ht] at hv
  obtain ⟨cs, rfl, _, _⟩ := hv
  obtain ⟨fuel, hf⟩ := hd
  obtain ⟨x, hx⟩ := h enc W base' sp held fuel _ _ hf
  exact ⟨cs, x, rfl, by simpa [Value.cells] using hx⟩
theorem opens_slice {P : Program} {t e : TypeId} {α : Type} {E : Cod α} (h : Opens P t (rowC E)) {H : Type} {enc : TypeId × Value → H} {W : World} {base base' : Nat} {sp : Nat → Bool} {held : Bool} {v : Value} {d : DataW H} {p : List MemPlace} (ht : P.underlying t = some (.slice e))
    (hv : Value.okWide P W .any base t v) (hd : DataW.Trod enc P W base' sp held t v d p) : ∃ a c xs, v = .slice a xs.length c ∧ xs.length ≤ c ∧ xs.length ≤ maxLen ∧ RowRep E W [] a xs := by
  obtain ⟨a0, len, cap, rfl⟩ := okWide_slice ht hv
  obtain ⟨fuel, hf⟩ := hd
  obtain ⟨xs, a, c, e1, h1, h2, h3⟩ := h enc W base' sp held fuel _ _ hf
  simp [Value.cells] at e1
  obtain ⟨rfl, rfl, rfl⟩ := e1
  exact ⟨a0, cap, xs, rfl, h1, Nat.le_trans h1 h2, h3⟩
end Go.Proofs.Ytbemgfpnoeogdaa.Dp

/-
  The plain things of package api, and how they lie in cells: nodes, answers, plans, blocks, operations, accesses.
-/
namespace Go.Proofs.Ytbemgfpnoeogdaa.Dp
open Go.RowKit RefP
set_option linter.unusedVariables false
set_option linter.unusedSimpArgs false

structure PairV where
  key : ByteArray
  val : Int
deriving DecidableEq
structure NodeV where
  level : Int
  low : ByteArray
  high : ByteArray
  last : Bool
  next : Int
  keys : List ByteArray
  vals : List Int
  kids : List Int
deriving DecidableEq
structure AnsV where
  code : Int
  key : ByteArray
  val : Int
  pairs : List PairV
deriving DecidableEq
structure StepV where
  cell : Int
  ver : Int
  old : Int
  new : Int
  lin : Bool
deriving DecidableEq
structure PlanV where
  thread : Int
  ans : AnsV
  steps : List StepV
  extra : List Int
deriving DecidableEq
structure BlockV where
  kind : Int
  node : NodeV
  plan : PlanV
  pairs : List PairV
deriving DecidableEq
structure OpV where
  kind : Int
  key : ByteArray
  upto : ByteArray
  val : Int
  limit : Int
deriving DecidableEq
structure AccV where
  kind : Int
  at_ : Int
  ver : Int
  word : Int
  block : BlockV
  op : OpV
structure ReplyV where
  ok : Bool
  word : Int
  ver : Int
  block : BlockV
  op : OpV
structure ChangeV where
  cell : Int
  from_ : Int
  word : Int
  ver : Int
  empty : Bool
  lin : Bool
  node : NodeV

/-- the head of a slice but for its length -/
structure Hd where
  a : Option Addr
  c : Nat
def Hd.v (h : Hd) (n : Nat) : Value := .slice h.a n h.c
def Hd.nil : Hd := ⟨none, 0⟩
/-- a row under a head -/
structure HRow {α : Type} (E : Cod α) (w : World) (S : List Nat) (h : Hd) (xs : List α) : Prop where
  le : xs.length ≤ h.c
  cap : h.c ≤ maxLen
  row : RowRep E w S h.a xs
theorem HRow.keep {α : Type} {E : Cod α} {w w' : World} {S : List Nat} {h : Hd} {xs : List α} (H : HRow E w S h xs) (k : Keeps S w w') : HRow E w' S h xs := ⟨H.le, H.cap, H.row.keep k⟩
theorem HRow.more {α : Type} {E : Cod α} {w : World} {S S' : List Nat} {h : Hd} {xs : List α} (H : HRow E w S h xs) (k : ∀ b ∈ S', b ∈ S ∨ w.heap.size ≤ b) : HRow E w S' h xs := ⟨H.le, H.cap, H.row.more k⟩
theorem HRow.nil {α : Type} (E : Cod α) (w : World) (S : List Nat) : HRow E w S Hd.nil [] := ⟨Nat.le_refl _, Nat.zero_le _, RowRep.nil _ _ _ _⟩
theorem rowC_of {α : Type} {E : Cod α} {w : World} {S : List Nat} {cs : List Value} {xs : List α} (h : (rowC E).rep w S cs xs) : ∃ q : Hd, cs = [q.v xs.length] ∧ HRow E w S q xs := by
  obtain ⟨a, c, e, h1, h2, h3⟩ := h
  exact ⟨⟨a, c⟩, e, h1, h2, h3⟩
theorem rowC_mk {α : Type} {E : Cod α} {w : World} {S : List Nat} {q : Hd} {xs : List α} (h : HRow E w S q xs) : (rowC E).rep w S [q.v xs.length] xs := ⟨q.a, q.c, rfl, h.le, h.cap, h.row⟩

abbrev i64C : Cod Int := intC .i64
abbrev u64C : Cod Int := intC .u64
def I64 (n : Int) : Prop := -9223372036854775808 ≤ n ∧ n ≤ 9223372036854775807
def U64 (n : Int) : Prop := 0 ≤ n ∧ n ≤ 18446744073709551615
theorem I64.of {n : Int} (h : (Lit.int .i64 n).wf = true) : I64 n := Lift.i64_range h
theorem U64.of {n : Int} (h : (Lit.int .u64 n).wf = true) : U64 n := Lift.u64_range h

def pairT : Cod PairV := isoC (pairC strC (pairC u64C unitC)) (fun x => (x.key, x.val, ()))
def stepT : Cod StepV := isoC (pairC i64C (pairC u64C (pairC u64C (pairC u64C (pairC boolC unitC))))) (fun x => (x.cell, x.ver, x.old, x.new, x.lin, ()))
def nodeT : Cod NodeV := isoC (pairC i64C (pairC strC (pairC strC (pairC boolC (pairC i64C (pairC (rowC strC) (pairC (rowC u64C) (pairC (rowC i64C) unitC)))))))) (fun x => (x.level, x.low, x.high, x.last, x.next, x.keys, x.vals, x.kids, ()))
def ansT : Cod AnsV := isoC (pairC i64C (pairC strC (pairC u64C (pairC (rowC pairT) unitC)))) (fun x => (x.code, x.key, x.val, x.pairs, ()))
def planT : Cod PlanV := isoC (pairC i64C (pairC ansT (pairC (rowC stepT) (pairC (rowC u64C) unitC)))) (fun x => (x.thread, x.ans, x.steps, x.extra, ()))
def blockT : Cod BlockV := isoC (pairC i64C (pairC nodeT (pairC planT (pairC (rowC pairT) unitC)))) (fun x => (x.kind, x.node, x.plan, x.pairs, ()))
def opT : Cod OpV := isoC (pairC i64C (pairC strC (pairC strC (pairC u64C (pairC i64C unitC))))) (fun x => (x.kind, x.key, x.upto, x.val, x.limit, ()))
def accT : Cod AccV := isoC (pairC i64C (pairC i64C (pairC u64C (pairC u64C (pairC blockT (pairC opT unitC)))))) (fun x => (x.kind, x.at_, x.ver, x.word, x.block, x.op, ()))
def changeT : Cod ChangeV := isoC (pairC i64C (pairC i64C (pairC u64C (pairC u64C (pairC boolC (pairC boolC (pairC nodeT unitC))))))) (fun x => (x.cell, x.from_, x.word, x.ver, x.empty, x.lin, x.node, ()))

/-! written out -/
def pairL (x : PairV) : List Value := [.string x.key, .int .u64 x.val]
structure PairOk (x : PairV) : Prop where
  key : x.key.size ≤ maxLen
  val : U64 x.val
def stepL (x : StepV) : List Value := [.int .i64 x.cell, .int .u64 x.ver, .int .u64 x.old, .int .u64 x.new, .bool x.lin]
structure StepOk (x : StepV) : Prop where
  cell : I64 x.cell
  ver : U64 x.ver
  old : U64 x.old
  new : U64 x.new
structure NodeH where
  keys : Hd
  vals : Hd
  kids : Hd
def nodeL (h : NodeH) (x : NodeV) : List Value := [.int .i64 x.level, .string x.low, .string x.high, .bool x.last, .int .i64 x.next, h.keys.v x.keys.length, h.vals.v x.vals.length, h.kids.v x.kids.length]
structure NodeOk (w : World) (S : List Nat) (h : NodeH) (x : NodeV) : Prop where
  level : I64 x.level
  low : x.low.size ≤ maxLen
  high : x.high.size ≤ maxLen
  next : I64 x.next
  keys : HRow strC w S h.keys x.keys
  vals : HRow u64C w S h.vals x.vals
  kids : HRow i64C w S h.kids x.kids
def ansL (h : Hd) (x : AnsV) : List Value := [.int .i64 x.code, .string x.key, .int .u64 x.val, h.v x.pairs.length]
structure AnsOk (w : World) (S : List Nat) (h : Hd) (x : AnsV) : Prop where
  code : I64 x.code
  key : x.key.size ≤ maxLen
  val : U64 x.val
  pairs : HRow pairT w S h x.pairs
structure PlanH where
  pairs : Hd
  steps : Hd
  extra : Hd
def planL (h : PlanH) (x : PlanV) : List Value := .int .i64 x.thread :: (ansL h.pairs x.ans ++ [h.steps.v x.steps.length, h.extra.v x.extra.length])
structure PlanOk (w : World) (S : List Nat) (h : PlanH) (x : PlanV) : Prop where
  thread : I64 x.thread
  ans : AnsOk w S h.pairs x.ans
  steps : HRow stepT w S h.steps x.steps
  extra : HRow u64C w S h.extra x.extra
structure BlockH where
  node : NodeH
  plan : PlanH
  pairs : Hd
def blockL (h : BlockH) (x : BlockV) : List Value := .int .i64 x.kind :: (nodeL h.node x.node ++ (planL h.plan x.plan ++ [h.pairs.v x.pairs.length]))
structure BlockOk (w : World) (S : List Nat) (h : BlockH) (x : BlockV) : Prop where
  kind : I64 x.kind
  node : NodeOk w S h.node x.node
  plan : PlanOk w S h.plan x.plan
  pairs : HRow pairT w S h.pairs x.pairs
def opL (x : OpV) : List Value := [.int .i64 x.kind, .string x.key, .string x.upto, .int .u64 x.val, .int .i64 x.limit]
structure OpOk (x : OpV) : Prop where
  kind : I64 x.kind
  key : x.key.size ≤ maxLen
  upto : x.upto.size ≤ maxLen
  val : U64 x.val
  limit : I64 x.limit
def accL (h : BlockH) (x : AccV) : List Value := [.int .i64 x.kind, .int .i64 x.at_, .int .u64 x.ver, .int .u64 x.word] ++ (blockL h x.block ++ opL x.op)
structure AccOk (w : World) (S : List Nat) (h : BlockH) (x : AccV) : Prop where
  kind : I64 x.kind
  at_ : I64 x.at_
  ver : U64 x.ver
  word : U64 x.word
  block : BlockOk w S h x.block
  op : OpOk x.op
def changeL (h : NodeH) (x : ChangeV) : List Value := [.int .i64 x.cell, .int .i64 x.from_, .int .u64 x.word, .int .u64 x.ver, .bool x.empty, .bool x.lin] ++ nodeL h x.node
structure ChangeOk (w : World) (S : List Nat) (h : NodeH) (x : ChangeV) : Prop where
  cell : I64 x.cell
  from_ : I64 x.from_
  word : U64 x.word
  ver : U64 x.ver
  node : NodeOk w S h x.node
theorem wf_i64 {n : Int} (h : I64 n) : (Lit.int .i64 n).wf = true := by
  obtain ⟨h0, h1⟩ := h
  simp [Lit.wf, IntKind.min, IntKind.max, IntKind.bits, IntKind.signed]
  omega
theorem wf_u64 {n : Int} (h : U64 n) : (Lit.int .u64 n).wf = true := by
  obtain ⟨h0, h1⟩ := h
  simp [Lit.wf, IntKind.min, IntKind.max, IntKind.bits, IntKind.signed]
  omega
theorem pairT_of {w : World} {S : List Nat} {cs : List Value} {x : PairV} (h : pairT.rep w S cs x) : cs = pairL x ∧ PairOk x := by
  obtain ⟨_, _, rfl, ⟨rfl, h0⟩, _, _, rfl, ⟨rfl, h1⟩, rfl⟩ := h
  exact ⟨rfl, h0, U64.of h1⟩
theorem pairT_mk {w : World} {S : List Nat} {x : PairV} (h : PairOk x) : pairT.rep w S (pairL x) x :=
  ⟨[_], [_], rfl, ⟨rfl, h.key⟩, [_], [], rfl, ⟨rfl, wf_u64 h.val⟩, rfl⟩
theorem stepT_of {w : World} {S : List Nat} {cs : List Value} {x : StepV} (h : stepT.rep w S cs x) : cs = stepL x ∧ StepOk x := by
  obtain ⟨_, _, rfl, ⟨rfl, h0⟩, _, _, rfl, ⟨rfl, h1⟩, _, _, rfl, ⟨rfl, h2⟩, _, _, rfl, ⟨rfl, h3⟩, _, _, rfl, rfl, rfl⟩ := h
  exact ⟨rfl, I64.of h0, U64.of h1, U64.of h2, U64.of h3⟩
theorem stepT_mk {w : World} {S : List Nat} {x : StepV} (h : StepOk x) : stepT.rep w S (stepL x) x :=
  ⟨[_], _, rfl, ⟨rfl, wf_i64 h.cell⟩, [_], _, rfl, ⟨rfl, wf_u64 h.ver⟩, [_], _, rfl, ⟨rfl, wf_u64 h.old⟩, [_], _, rfl, ⟨rfl, wf_u64 h.new⟩, [_], [], rfl, rfl, rfl⟩
theorem nodeT_of {w : World} {S : List Nat} {cs : List Value} {x : NodeV} (h : nodeT.rep w S cs x) : ∃ q, cs = nodeL q x ∧ NodeOk w S q x := by
  obtain ⟨_, _, rfl, ⟨rfl, h0⟩, _, _, rfl, ⟨rfl, h1⟩, _, _, rfl, ⟨rfl, h2⟩, _, _, rfl, rfl, _, _, rfl, ⟨rfl, h4⟩, _, _, rfl, h5, _, _, rfl, h6, _, _, rfl, h7, rfl⟩ := h
  obtain ⟨q5, rfl, r5⟩ := rowC_of h5
  obtain ⟨q6, rfl, r6⟩ := rowC_of h6
  obtain ⟨q7, rfl, r7⟩ := rowC_of h7
  exact ⟨⟨q5, q6, q7⟩, rfl, I64.of h0, h1, h2, I64.of h4, r5, r6, r7⟩
theorem nodeT_mk {w : World} {S : List Nat} {q : NodeH} {x : NodeV} (h : NodeOk w S q x) : nodeT.rep w S (nodeL q x) x :=
  ⟨[_], _, rfl, ⟨rfl, wf_i64 h.level⟩, [_], _, rfl, ⟨rfl, h.low⟩, [_], _, rfl, ⟨rfl, h.high⟩, [_], _, rfl, rfl, [_], _, rfl, ⟨rfl, wf_i64 h.next⟩, [_], _, rfl, rowC_mk h.keys, [_], _, rfl, rowC_mk h.vals, [_], [], rfl, rowC_mk h.kids, rfl⟩
theorem ansT_of {w : World} {S : List Nat} {cs : List Value} {x : AnsV} (h : ansT.rep w S cs x) : ∃ q, cs = ansL q x ∧ AnsOk w S q x := by
  obtain ⟨_, _, rfl, ⟨rfl, h0⟩, _, _, rfl, ⟨rfl, h1⟩, _, _, rfl, ⟨rfl, h2⟩, _, _, rfl, h3, rfl⟩ := h
  obtain ⟨q3, rfl, r3⟩ := rowC_of h3
  exact ⟨q3, rfl, I64.of h0, h1, U64.of h2, r3⟩
theorem ansT_mk {w : World} {S : List Nat} {q : Hd} {x : AnsV} (h : AnsOk w S q x) : ansT.rep w S (ansL q x) x :=
  ⟨[_], _, rfl, ⟨rfl, wf_i64 h.code⟩, [_], _, rfl, ⟨rfl, h.key⟩, [_], _, rfl, ⟨rfl, wf_u64 h.val⟩, [_], [], rfl, rowC_mk h.pairs, rfl⟩
theorem planT_of {w : World} {S : List Nat} {cs : List Value} {x : PlanV} (h : planT.rep w S cs x) : ∃ q, cs = planL q x ∧ PlanOk w S q x := by
  obtain ⟨_, _, rfl, ⟨rfl, h0⟩, _, _, rfl, h1, _, _, rfl, h2, _, _, rfl, h3, rfl⟩ := h
  obtain ⟨q1, rfl, r1⟩ := ansT_of h1
  obtain ⟨q2, rfl, r2⟩ := rowC_of h2
  obtain ⟨q3, rfl, r3⟩ := rowC_of h3
  exact ⟨⟨q1, q2, q3⟩, rfl, I64.of h0, r1, r2, r3⟩
theorem planT_mk {w : World} {S : List Nat} {q : PlanH} {x : PlanV} (h : PlanOk w S q x) : planT.rep w S (planL q x) x :=
  ⟨[_], _, rfl, ⟨rfl, wf_i64 h.thread⟩, _, _, rfl, ansT_mk h.ans, [_], _, rfl, rowC_mk h.steps, [_], [], rfl, rowC_mk h.extra, rfl⟩
theorem blockT_of {w : World} {S : List Nat} {cs : List Value} {x : BlockV} (h : blockT.rep w S cs x) : ∃ q, cs = blockL q x ∧ BlockOk w S q x := by
  obtain ⟨_, _, rfl, ⟨rfl, h0⟩, _, _, rfl, h1, _, _, rfl, h2, _, _, rfl, h3, rfl⟩ := h
  obtain ⟨q1, rfl, r1⟩ := nodeT_of h1
  obtain ⟨q2, rfl, r2⟩ := planT_of h2
  obtain ⟨q3, rfl, r3⟩ := rowC_of h3
  exact ⟨⟨q1, q2, q3⟩, rfl, I64.of h0, r1, r2, r3⟩
theorem blockT_mk {w : World} {S : List Nat} {q : BlockH} {x : BlockV} (h : BlockOk w S q x) : blockT.rep w S (blockL q x) x :=
  ⟨[_], _, rfl, ⟨rfl, wf_i64 h.kind⟩, _, _, rfl, nodeT_mk h.node, _, _, rfl, planT_mk h.plan, [_], [], rfl, rowC_mk h.pairs, rfl⟩
theorem opT_of {w : World} {S : List Nat} {cs : List Value} {x : OpV} (h : opT.rep w S cs x) : cs = opL x ∧ OpOk x := by
  obtain ⟨_, _, rfl, ⟨rfl, h0⟩, _, _, rfl, ⟨rfl, h1⟩, _, _, rfl, ⟨rfl, h2⟩, _, _, rfl, ⟨rfl, h3⟩, _, _, rfl, ⟨rfl, h4⟩, rfl⟩ := h
  exact ⟨rfl, I64.of h0, h1, h2, U64.of h3, I64.of h4⟩
theorem opT_mk {w : World} {S : List Nat} {x : OpV} (h : OpOk x) : opT.rep w S (opL x) x :=
  ⟨[_], _, rfl, ⟨rfl, wf_i64 h.kind⟩, [_], _, rfl, ⟨rfl, h.key⟩, [_], _, rfl, ⟨rfl, h.upto⟩, [_], _, rfl, ⟨rfl, wf_u64 h.val⟩, [_], [], rfl, ⟨rfl, wf_i64 h.limit⟩, rfl⟩
theorem accT_of {w : World} {S : List Nat} {cs : List Value} {x : AccV} (h : accT.rep w S cs x) : ∃ q, cs = accL q x ∧ AccOk w S q x := by
  obtain ⟨_, _, rfl, ⟨rfl, h0⟩, _, _, rfl, ⟨rfl, h1⟩, _, _, rfl, ⟨rfl, h2⟩, _, _, rfl, ⟨rfl, h3⟩, _, _, rfl, h4, _, _, rfl, h5, rfl⟩ := h
  obtain ⟨q4, rfl, r4⟩ := blockT_of h4
  obtain ⟨rfl, r5⟩ := opT_of h5
  refine ⟨q4, ?_, I64.of h0, I64.of h1, U64.of h2, U64.of h3, r4, r5⟩
  simp [accL]
theorem changeT_of {w : World} {S : List Nat} {cs : List Value} {x : ChangeV} (h : changeT.rep w S cs x) : ∃ q, cs = changeL q x ∧ ChangeOk w S q x := by
  obtain ⟨_, _, rfl, ⟨rfl, h0⟩, _, _, rfl, ⟨rfl, h1⟩, _, _, rfl, ⟨rfl, h2⟩, _, _, rfl, ⟨rfl, h3⟩, _, _, rfl, rfl, _, _, rfl, rfl, _, _, rfl, h6, rfl⟩ := h
  obtain ⟨q6, rfl, r6⟩ := nodeT_of h6
  refine ⟨q6, ?_, I64.of h0, I64.of h1, U64.of h2, U64.of h3, r6⟩
  simp [changeL]
theorem NodeOk.keep {w w' : World} {S : List Nat} {q : NodeH} {x : NodeV} (h : NodeOk w S q x) (k : Keeps S w w') : NodeOk w' S q x := ⟨h.level, h.low, h.high, h.next, h.keys.keep k, h.vals.keep k, h.kids.keep k⟩
theorem AnsOk.keep {w w' : World} {S : List Nat} {q : Hd} {x : AnsV} (h : AnsOk w S q x) (k : Keeps S w w') : AnsOk w' S q x := ⟨h.code, h.key, h.val, h.pairs.keep k⟩
theorem PlanOk.keep {w w' : World} {S : List Nat} {q : PlanH} {x : PlanV} (h : PlanOk w S q x) (k : Keeps S w w') : PlanOk w' S q x := ⟨h.thread, h.ans.keep k, h.steps.keep k, h.extra.keep k⟩
theorem BlockOk.keep {w w' : World} {S : List Nat} {q : BlockH} {x : BlockV} (h : BlockOk w S q x) (k : Keeps S w w') : BlockOk w' S q x := ⟨h.kind, h.node.keep k, h.plan.keep k, h.pairs.keep k⟩
theorem AccOk.keep {w w' : World} {S : List Nat} {q : BlockH} {x : AccV} (h : AccOk w S q x) (k : Keeps S w w') : AccOk w' S q x := ⟨h.kind, h.at_, h.ver, h.word, h.block.keep k, h.op⟩
end Go.Proofs.Ytbemgfpnoeogdaa.Dp

/-
  The types of package api, opened: what a law's arguments of these types are.
-/
namespace Go.Proofs.Ytbemgfpnoeogdaa.Dp
open Go.RowKit RefP
set_option linter.unusedVariables false
set_option linter.unusedSimpArgs false
structure Ox (P : Program) (t : TypeId) {α : Type} (C : Cod α) : Prop where
  out : ∀ (H : Type) (enc : TypeId × Value → H) (w : World) (base : Nat) (sp : Nat → Bool) (held : Bool) (fuel : Nat) (cs : List Value) (y : DataW H × List MemPlace), DataW.trod enc P w base sp held fuel t cs = some y → ∃ x, C.rep w [] cs x
structure OxAt (P : Program) (fs : List Field) (off : Nat) {α : Type} (C : Cod α) : Prop where
  out : ∀ (H : Type) (enc : TypeId × Value → H) (w : World) (base : Nat) (sp : Nat → Bool) (held : Bool) (fuel : Nat) (cs : List Value), cs.length = off + C.k →
    (∀ f ∈ fs, ∃ y, DataW.trod enc P w base sp held fuel f.type ((cs.drop f.offset).take (P.cellsOf f.type)) = some y) → ∃ x, C.rep w [] (cs.drop off) x
theorem ox_int {P : Program} {t : TypeId} {k : IntKind} (ht : P.underlying t = some (.int k)) : Ox P t (intC k) := ⟨fun H enc w base sp held fuel cs y h => opens_int ht enc w base sp held fuel cs y h⟩
theorem ox_bool {P : Program} {t : TypeId} (ht : P.underlying t = some .bool) : Ox P t boolC := ⟨fun H enc w base sp held fuel cs y h => opens_bool ht enc w base sp held fuel cs y h⟩
theorem ox_str {P : Program} {t : TypeId} (ht : P.underlying t = some .string) : Ox P t strC := ⟨fun H enc w base sp held fuel cs y h => opens_str ht enc w base sp held fuel cs y h⟩
theorem ox_nil {P : Program} {off : Nat} : OxAt P [] off unitC := ⟨fun H enc w base sp held fuel cs hl h => opens_nil enc w base sp held fuel cs hl h⟩
theorem ox_cons {P : Program} {f : Field} {fs : List Field} {off : Nat} {α β : Type} {A : Cod α} {B : Cod β} (ho : f.offset = off) (hk : P.cellsOf f.type = A.k) (hA : Ox P f.type A) (hB : OxAt P fs (off + A.k) B) : OxAt P (f :: fs) off (pairC A B) := by
  refine ⟨fun H enc w base sp held fuel cs hl h => ?_⟩
  obtain ⟨y, hy⟩ := h f (by simp)
  rw [ho, hk] at hy
  obtain ⟨x, hx⟩ := hA.out H enc w base sp held fuel _ y hy
  obtain ⟨z, hz⟩ := hB.out H enc w base sp held fuel cs (by rw [hl]; show off + (A.k + B.k) = _; omega) (fun g hg => h g (by simp [hg]))
  refine ⟨(x, z), _, _, ?_, hx, hz⟩
  rw [← List.drop_drop, List.take_append_drop]
theorem ox_struct {P : Program} {t : TypeId} {fs : Array Field} {α : Type} {C : Cod α} (ht : P.underlying t = some (.struct fs)) (hk : P.cellsOf t = C.k) (h : OxAt P fs.toList 0 C) : Ox P t C := by
  refine ⟨fun H enc w base sp held fuel cs y hy => ?_⟩
  obtain ⟨xs, n, _, _, hl, hxs, hf⟩ := DataW.trod_struct ht hy
  obtain ⟨x, hx⟩ := h.out H enc w base sp held n cs (by omega) (fun f hfm => by
    obtain ⟨i, hi, rfl⟩ := List.getElem_of_mem hfm
    have hi' : i < fs.size := by simpa using hi
    have := hf i fs[i] (by simp [hi'])
    rw [List.getElem?_eq_getElem (by omega)] at this
    exact ⟨_, this⟩)
  exact ⟨x, by simpa using hx⟩
theorem ox_iso {P : Program} {t : TypeId} {α β : Type} {C : Cod α} (f : β → α) (g : α → β) (hg : ∀ x, f (g x) = x) (h : Ox P t C) : Ox P t (isoC C f) := by
  refine ⟨fun H enc w base sp held fuel cs y hy => ?_⟩
  obtain ⟨x, hx⟩ := h.out H enc w base sp held fuel cs y hy
  exact ⟨g x, by show C.rep w [] cs (f (g x)); rw [hg]; exact hx⟩
theorem ox_opens {P : Program} {t : TypeId} {α : Type} {C : Cod α} (h : Ox P t C) : Opens P t C := by
  intro H enc w base sp held fuel cs y hy
  exact h.out H enc w base sp held fuel cs y hy
theorem ox_row {P : Program} {t e : TypeId} {α : Type} {E : Cod α} (ht : P.underlying t = some (.slice e)) (hk : P.cellsOf e = E.k) (hpos : 0 < E.k) (h : Ox P e E) : Ox P t (rowC E) := by
  refine ⟨fun H enc w base sp held fuel cs y hy => ?_⟩
  have := @opens_row P t e α E ht hk hpos (by intro H enc w base sp held fuel cs y hy; exact h.out H enc w base sp held fuel cs y hy) H enc w base sp held fuel cs y hy
  exact this
theorem op_str : Ox Try.prog 9 strC := ox_str Try.underlying9
theorem op_u64 : Ox Try.prog 51 u64C := ox_int Try.underlying51
theorem op_i64 : Ox Try.prog 3 i64C := ox_int Try.underlying3
theorem op_bool : Ox Try.prog 4 boolC := ox_bool Try.underlying4
theorem op_strs : Ox Try.prog 22 (rowC strC) := ox_row Try.underlying22 (by kernel_rfl) (by decide) op_str
theorem op_u64s : Ox Try.prog 23 (rowC u64C) := ox_row Try.underlying23 (by kernel_rfl) (by decide) op_u64
theorem op_i64s : Ox Try.prog 24 (rowC i64C) := ox_row Try.underlying24 (by kernel_rfl) (by decide) op_i64
theorem op_node : Ox Try.prog 26 nodeT := ox_iso _ (fun p => ⟨p.1, p.2.1, p.2.2.1, p.2.2.2.1, p.2.2.2.2.1, p.2.2.2.2.2.1, p.2.2.2.2.2.2.1, p.2.2.2.2.2.2.2.1⟩) (fun _ => rfl) (ox_struct Try.underlying26 (by kernel_rfl)
  (ox_cons rfl (by kernel_rfl) op_i64 (ox_cons rfl (by kernel_rfl) op_str (ox_cons rfl (by kernel_rfl) op_str (ox_cons rfl (by kernel_rfl) op_bool (ox_cons rfl (by kernel_rfl) op_i64 (ox_cons rfl (by kernel_rfl) op_strs (ox_cons rfl (by kernel_rfl) op_u64s (ox_cons rfl (by kernel_rfl) op_i64s ox_nil)))))))))
theorem op_change : Ox Try.prog 97 changeT := ox_iso _ (fun p => ⟨p.1, p.2.1, p.2.2.1, p.2.2.2.1, p.2.2.2.2.1, p.2.2.2.2.2.1, p.2.2.2.2.2.2.1⟩) (fun _ => rfl) (ox_struct Try.underlying97 (by kernel_rfl)
  (ox_cons rfl (by kernel_rfl) op_i64 (ox_cons rfl (by kernel_rfl) op_i64 (ox_cons rfl (by kernel_rfl) op_u64 (ox_cons rfl (by kernel_rfl) op_u64 (ox_cons rfl (by kernel_rfl) op_bool (ox_cons rfl (by kernel_rfl) op_bool (ox_cons rfl (by kernel_rfl) op_node ox_nil))))))))
theorem op_changes : Ox Try.prog 33 (rowC changeT) := ox_row Try.underlying33 (by kernel_rfl) (by decide) op_change
end Go.Proofs.Ytbemgfpnoeogdaa.Dp

/-
  An argument that is a slice, opened as a row under its head.
-/
namespace Go.Proofs.Ytbemgfpnoeogdaa.Dp
open Go.ChangeShapes Go.WideShapes Go.ChangeAt Go.RowKit RefP
set_option linter.unusedVariables false
theorem opens_hrow {P : Program} {t e : TypeId} {α : Type} {E : Cod α} (h : Opens P t (rowC E)) {H : Type} {enc : TypeId × Value → H} {W : World} {base base' : Nat} {sp : Nat → Bool} {held : Bool} {v : Value} {d : DataW H} {p : List MemPlace} (ht : P.underlying t = some (.slice e))
    (hv : Value.okWide P W .any base t v) (hd : DataW.Trod enc P W base' sp held t v d p) : ∃ (q : Hd) (xs : List α), v = q.v xs.length ∧ HRow E W [] q xs := by
  obtain ⟨a0, len, cap, rfl⟩ := okWide_slice ht hv
  obtain ⟨fuel, hf⟩ := hd
  obtain ⟨xs, a, c, e1, h1, h2, h3⟩ := h enc W base' sp held fuel _ _ hf
  simp [Value.cells] at e1
  obtain ⟨rfl, rfl, rfl⟩ := e1
  exact ⟨⟨a0, cap⟩, xs, rfl, h1, h2, h3⟩
end Go.Proofs.Ytbemgfpnoeogdaa.Dp

/-
  Inside a fence: a whole struct loaded and stored in one operation. No program in sight.
-/
namespace Go.Proofs.Ytbemgfpnoeogdaa.EdP
open Go.RowKit RefP
set_option linter.unusedVariables false
set_option linter.unusedSimpArgs false
section
variable {F : Fence} {n : Nat} {P : Program} {ops : Array Oper} {Q : Exit → Act → World → Prop} {a : Act} {w : World} {rest : List Oper} {o : Oper} {K : Act → World → Prop}
theorem wpIn_load_mid (ty : TypeId) (x : Operand) (ho : o.op = .load ty x)
    (b off : Nat) (hx : a.eval x = .pointer (some ⟨b, off, none⟩)) (cs : List Value) (d : TypeDesc) (hc : w.rangeAt b off cs)
    (hu : P.underlying ty = some d) (hd : d.isRow = true) (hi : (P.info? ty).map (·.size) = some cs.length)
    (h : K (a.put o.dst (.agg cs.toArray)) w) : o.wpIn F n P a w K Q := by
  unfold Oper.wpIn
  refine ⟨by simp [Oper.about, ho], ?_⟩
  rw [Oper.semAt_plain F _ _ (by rw [ho]; intro c hc'; cases hc')]
  unfold execOp
  simp only [ho, hx, Instr.loadAt, Instr.sureAddr, Sem.run_bind, Sem.run_pure, Result.andThen_ok, run_loadVar_mid w b off ty cs d hc hu hd hi]
  exact h
theorem wpIn_load_row (ty : TypeId) (x : Operand) (ho : o.op = .load ty x)
    (g : Nat) (hx : a.eval x = .pointer (some ⟨g, 0, none⟩)) (t : TypeId) (cs : Array Value) (fr : Nat × Nat) (d : TypeDesc) (hg : w.heap[g]? = some (.cells cs t fr))
    (hu : P.underlying ty = some d) (hd : (match d with | .struct _ | .array _ _ => true | _ => false) = true) (hi : (P.info? ty).map (·.size) = some cs.size)
    (h : K (a.put o.dst (.agg cs)) w) : o.wpIn F n P a w K Q := by
  unfold Oper.wpIn
  refine ⟨by simp [Oper.about, ho], ?_⟩
  rw [Oper.semAt_plain F _ _ (by rw [ho]; intro c hc'; cases hc')]
  unfold execOp
  simp only [ho, hx, Instr.loadAt, Instr.sureAddr, Sem.run_bind, Sem.run_pure, Result.andThen_ok, run_loadVar_row w g t ty cs fr d hg hu hd hi]
  exact h
theorem wpIn_store_row (ty : TypeId) (x y : Operand) (ho : o.op = .store ty x y)
    (g : Nat) (cells : Array Value) (hx : a.eval x = .pointer (some ⟨g, 0, none⟩)) (hy : a.eval y = .agg cells)
    (t : TypeId) (old : Array Value) (hg : w.heap[g]? = some (.cells old t (0, 0))) (hi : (P.info? ty).map (·.size) = some cells.size)
    (hold : old.size = cells.size) (h1 : cells.all (·.oneCell') = true)
    (h : K (a.put o.dst undef) (w.setRow g cells)) : o.wpIn F n P a w K Q := by
  unfold Oper.wpIn
  refine ⟨by simp [Oper.about, ho], ?_⟩
  rw [Oper.semAt_plain F _ _ (by rw [ho]; intro c hc'; cases hc')]
  unfold execOp
  simp only [ho, hx, hy, Instr.storeAt, Instr.sureAddr, Sem.run_bind, Sem.run_pure, Result.andThen_ok, run_storeVar_row w g t ty old cells hg hi hold h1]
  exact h
theorem wpListIn_load_mid (hgd : o.guard = none) (ty : TypeId) (x : Operand) (ho : o.op = .load ty x)
    (b off : Nat) (hx : a.eval x = .pointer (some ⟨b, off, none⟩)) (cs : List Value) (d : TypeDesc) (hc : w.rangeAt b off cs)
    (hu : P.underlying ty = some d) (hd : d.isRow = true) (hi : (P.info? ty).map (·.size) = some cs.length)
    (h : wpListIn F n P ops Q rest (a.put o.dst (.agg cs.toArray)) w) : wpListIn F n P ops Q (o :: rest) a w :=
  wpListIn_plain hgd fun _ hK => wpIn_load_mid ty x ho b off hx cs d hc hu hd hi (hK _ _ h)
theorem wpListIn_load_row (hgd : o.guard = none) (ty : TypeId) (x : Operand) (ho : o.op = .load ty x)
    (g : Nat) (hx : a.eval x = .pointer (some ⟨g, 0, none⟩)) (t : TypeId) (cs : Array Value) (fr : Nat × Nat) (d : TypeDesc) (hg : w.heap[g]? = some (.cells cs t fr))
    (hu : P.underlying ty = some d) (hd : (match d with | .struct _ | .array _ _ => true | _ => false) = true) (hi : (P.info? ty).map (·.size) = some cs.size)
    (h : wpListIn F n P ops Q rest (a.put o.dst (.agg cs)) w) : wpListIn F n P ops Q (o :: rest) a w :=
  wpListIn_plain hgd fun _ hK => wpIn_load_row ty x ho g hx t cs fr d hg hu hd hi (hK _ _ h)
theorem wpListIn_store_row (hgd : o.guard = none) (ty : TypeId) (x y : Operand) (ho : o.op = .store ty x y)
    (g : Nat) (cells : Array Value) (hx : a.eval x = .pointer (some ⟨g, 0, none⟩)) (hy : a.eval y = .agg cells)
    (t : TypeId) (old : Array Value) (hg : w.heap[g]? = some (.cells old t (0, 0))) (hi : (P.info? ty).map (·.size) = some cells.size)
    (hold : old.size = cells.size) (h1 : cells.all (·.oneCell') = true)
    (h : wpListIn F n P ops Q rest (a.put o.dst undef) (w.setRow g cells)) : wpListIn F n P ops Q (o :: rest) a w :=
  wpListIn_plain hgd fun _ hK => wpIn_store_row ty x y ho g cells hx hy t old hg hi hold h1 (hK _ _ h)
end
end Go.Proofs.Ytbemgfpnoeogdaa.EdP

/-
  Light of a node (chapter 10's law), and of a row of accesses (chapter 26's): contracts.
-/
namespace Go.Proofs.Ytbemgfpnoeogdaa.Dp
open Go.RowKit RefP
set_option linter.unusedVariables false
set_option linter.unusedSimpArgs false
/-- is a node small? -/
def lightN (x : NodeV) : Bool := x.keys.all (fun k => decide (k.size ≤ 100)) && (decide (x.keys.length ≤ 80) && (decide (x.vals.length ≤ 80) && (decide (x.kids.length ≤ 80) && (decide (x.low.size ≤ 100) && decide (x.high.size ≤ 100)))))
/-- a string of a row -/
theorem str_cell {w : World} {S : List Nat} {h : Hd} {xs : List ByteArray} (H : HRow strC w S h xs) (k : Nat) (hk : k < xs.length) : ∃ b off, h.a = some ⟨b, off, none⟩ ∧ b < w.heap.size ∧ w.cell? ⟨b, off + k, none⟩ = some (.string xs[k]) := by
  obtain ⟨b, off, e, hb, _, hc⟩ := H.row (by omega)
  obtain ⟨cs, ⟨rfl, _⟩, hv⟩ := hc k xs[k] (List.getElem?_eq_getElem hk)
  refine ⟨b, off, e, hb, ?_⟩
  have := hv 0 _ rfl
  rw [show strC.k = 1 from rfl, Nat.mul_one, Nat.add_zero] at this
  exact this
abbrev nodeA (h : NodeH) (x : NodeV) : Array Value := #[.int .i64 x.level, .string x.low, .string x.high, .bool x.last, .int .i64 x.next, .slice h.keys.a x.keys.length h.keys.c, .slice h.vals.a x.vals.length h.vals.c, .slice h.kids.a x.kids.length h.kids.c]
theorem light_part {x : NodeV} {k : Nat} (hk : k < x.keys.length) (h : ¬ (x.keys[k]).size ≤ 100) : lightN x = false := by
  have : x.keys.all (fun k => decide (k.size ≤ 100)) = false := by
    rw [Bool.eq_false_iff]
    intro e
    rw [List.all_eq_true] at e
    exact h (of_decide_eq_true (e _ (List.getElem_mem hk)))
  simp [lightN, this]
set_option maxRecDepth 100000 in
set_option maxHeartbeats 3200000 in
theorem light10_any (S : List Nat) (h : NodeH) (x : NodeV) (w : World) (H : NodeOk w S h x) : Calls Try.prog 7 #[.agg (nodeA h x)] w fun e w' => e = .returned (.bool (lightN x)) ∧ Below w.heap.size w w' := by
  have hb0 : Below w.heap.size w (w.alloc (.cells (nodeA h x) 26)) := by (repeat (first | exact Below.refl _ _ | assumption | refine below_alloc2 ?_ (by first | exact Nat.le_refl _ | omega) _ | refine Below.drew ?_ | refine below_drewN ?_ _ | refine below_push2 ?_ ‹_› (by first | exact Nat.le_refl _ | omega) | refine Below.setCell ?_ (by first | (simp; done) | (simp; omega) | omega) _))
  have BX := Blk.new w (nodeA h x) 26
  have hcap := H.keys.cap
  have hle := H.keys.le
  have hm : (maxLen : Nat) = 9223372036854775807 := by unfold maxLen; rfl
  go_enter Try.func7, Try.ntmps7
  go_wp2_with fail
  go_loopw [8] (fun i wr => ∃ k : Nat, k ≤ x.keys.length ∧ i = .int .i64 k ∧ wr = w.alloc (.cells (nodeA h x) 26) ∧ (x.keys.take k).all (fun k => decide (k.size ≤ 100)) = true) (fun i _ => x.keys.length - (intOf i).toNat)
  case atStart => exact ⟨0, Nat.zero_le _, rfl, rfl, by simp⟩
  case round =>
    obtain ⟨k, hk, rfl, rfl, hall⟩ := hrel
    by_cases hlt : k < x.keys.length
    · have hlt' : (k : Int) < (x.keys.length : Int) := by omega
      obtain ⟨b, off, ha, hbl, hc⟩ := str_cell (H.keys.keep (Keeps.of_below hb0)) k hlt
      rw [ha]
      have hsz : x.keys[k].size ≤ maxLen := by
        obtain ⟨b, off, e, hb, _, hc⟩ := H.keys.row (by omega)
        obtain ⟨cs, ⟨_, h2⟩, _⟩ := hc k x.keys[k] (List.getElem?_eq_getElem hlt)
        exact h2
      by_cases hs : x.keys[k].size ≤ 100
      · have q1 : decide (100 < (x.keys[k].size : Int)) = false := by simp; omega
        have hall2 : (x.keys.take (k + 1)).all (fun k => decide (k.size ≤ 100)) = true := by
          rw [List.take_succ_eq_append_getElem hlt, List.all_append, hall]; simp [hs]
        generalize x.keys[k] = s at hc q1
        clear hs hsz
        go_wp2_with fail
        go_roundw
        case rel => exact ⟨k + 1, by omega, by go_num, trivial, hall2⟩
        case measure => simp [intOf]; omega
      · have q1 : decide (100 < (x.keys[k].size : Int)) = true := by simp; omega
        have hR := Lib.hid (light_part hlt hs)
        generalize x.keys[k] = s at hc q1
        clear hs hsz
        go_wp2_with fail
        go_ret
        exact ⟨by rw [hR.out]; rfl, hb0⟩
    · obtain rfl : k = x.keys.length := by omega
      rw [List.take_length] at hall
      have l1 := H.vals.le
      have l2 := H.vals.cap
      have l3 := H.kids.le
      have l4 := H.kids.cap
      have l5 := H.low
      have l6 := H.high
      have hR : Hid (lightN x = (decide (x.keys.length ≤ 80) && (decide (x.vals.length ≤ 80) && (decide (x.kids.length ≤ 80) && (decide (x.low.size ≤ 100) && decide (x.high.size ≤ 100)))))) := by simp [Hid, lightN, hall]
      clear hall
      by_cases g1 : x.keys.length ≤ 80
      · have q1 : decide ((x.keys.length : Int) ≤ 80) = true := by simp; omega
        by_cases g2 : x.vals.length ≤ 80
        · have q2 : decide ((x.vals.length : Int) ≤ 80) = true := by simp; omega
          by_cases g3 : x.kids.length ≤ 80
          · have q3 : decide ((x.kids.length : Int) ≤ 80) = true := by simp; omega
            by_cases g4 : x.low.size ≤ 100
            · have q4 : decide ((x.low.size : Int) ≤ 100) = true := by simp; omega
              have q5 : decide ((x.high.size : Int) ≤ 100) = decide (x.high.size ≤ 100) := by simp; omega
              have hE := Lib.hid (show lightN x = decide (x.high.size ≤ 100) by rw [hR.out]; simp [g1, g2, g3, g4])
              clear g1 g2 g3 g4 hR
              go_wp2_with fail
              go_ret
              exact ⟨by rw [hE.out]; rfl, hb0⟩
            · have q4 : decide ((x.low.size : Int) ≤ 100) = false := by simp; omega
              have hE := Lib.hid (show lightN x = false by rw [hR.out]; simp [g4])
              clear g1 g2 g3 g4 hR
              go_wp2_with fail
              go_ret
              exact ⟨by rw [hE.out]; rfl, hb0⟩
          · have q3 : decide ((x.kids.length : Int) ≤ 80) = false := by simp; omega
            have hE := Lib.hid (show lightN x = false by rw [hR.out]; simp [g3])
            clear g1 g2 g3 hR
            go_wp2_with fail
            go_ret
            exact ⟨by rw [hE.out]; rfl, hb0⟩
        · have q2 : decide ((x.vals.length : Int) ≤ 80) = false := by simp; omega
          have hE := Lib.hid (show lightN x = false by rw [hR.out]; simp [g2])
          clear g1 g2 hR
          go_wp2_with fail
          go_ret
          exact ⟨by rw [hE.out]; rfl, hb0⟩
      · have q1 : decide ((x.keys.length : Int) ≤ 80) = false := by simp; omega
        have hE := Lib.hid (show lightN x = false by rw [hR.out]; simp [g1])
        clear g1 hR
        go_wp2_with fail
        go_ret
        exact ⟨by rw [hE.out]; rfl, hb0⟩
end Go.Proofs.Ytbemgfpnoeogdaa.Dp

/-
  Rows that a call owns and appends to, in terms of what stands at each place.
-/
namespace Go.Proofs.Ytbemgfpnoeogdaa.RefP
open Go.RowKit
set_option linter.unusedVariables false
set_option linter.unusedSimpArgs false

theorem Holds.congr' {w : World} {a : Option Addr} {m m' : Nat} {f g : Nat → Value} (h : Holds w a m f) (hm : m' = m) (e : ∀ i, i < m' → f i = g i) : Holds w a m' g := by
  subst hm; exact h.congr e
def rowL (m : Nat) (f : Nat → Value) : List Value := (List.range m).map f
theorem rowL_length (m : Nat) (f : Nat → Value) : (rowL m f).length = m := by simp [rowL]
theorem rowL_get (m : Nat) (f : Nat → Value) (j : Nat) (u : Value) (h : (rowL m f)[j]? = some u) : j < m ∧ u = f j := by
  have hj : j < m := by
    rcases Nat.lt_or_ge j m with h' | h'
    · exact h'
    · rw [List.getElem?_eq_none (by rw [rowL_length]; exact h')] at h; cases h
  refine ⟨hj, ?_⟩
  simp only [rowL, List.getElem?_map, List.getElem?_range hj, Option.map_some, Option.some.injEq] at h
  exact h.symm
theorem rowL_at (m : Nat) (f : Nat → Value) (j : Nat) (h : j < m) : (rowL m f)[j]? = some (f j) := by
  simp [rowL, h]
theorem rowL_append (a b : Nat) (f g : Nat → Value) : rowL a f ++ rowL b g = rowL (a + b) (fun j => if j < a then f j else g (j - a)) := by
  apply List.ext_getElem?
  intro j
  by_cases h : j < a
  · rw [List.getElem?_append_left (by rw [rowL_length]; exact h), rowL_at a f j h, rowL_at _ _ j (by omega)]; simp [h]
  · by_cases h2 : j < a + b
    · rw [List.getElem?_append_right (by rw [rowL_length]; omega), rowL_length, rowL_at b g (j - a) (by omega), rowL_at _ _ j h2]; simp [h]
    · rw [List.getElem?_eq_none (by simp [rowL_length]; omega), List.getElem?_eq_none (by rw [rowL_length]; omega)]
theorem rowL_congr {m : Nat} {f g : Nat → Value} (h : ∀ j, j < m → f j = g j) : rowL m f = rowL m g :=
  List.map_congr_left (fun j hj => h j (List.mem_range.1 hj))
theorem rowL_mem {m : Nat} {f : Nat → Value} {u : Value} (h : u ∈ rowL m f) : ∃ j, j < m ∧ u = f j := by
  obtain ⟨j, hj, rfl⟩ := List.mem_map.1 h
  exact ⟨j, List.mem_range.1 hj, rfl⟩
theorem rowL_zero (f : Nat → Value) : rowL 0 f = [] := rfl

theorem add_plain' (b off i : Nat) : (⟨b, off, none⟩ : Addr).add i = ⟨b, off + i, none⟩ := by
  unfold Addr.add
  by_cases h : i = 0 <;> simp [h]
/-- the cells of a row, as what is appended -/
theorem Holds.news {w : World} {b off m : Nat} {f : Nat → Value} (h : Holds w (some ⟨b, off, none⟩) m f) : ∀ j u, (rowL m f)[j]? = some u → w.cell? ((⟨b, off, none⟩ : Addr).add j) = some u := by
  intro j u hj
  obtain ⟨hjm, rfl⟩ := rowL_get m f j u hj
  obtain ⟨b', off', ha, hl, hc⟩ := h.get (by omega)
  simp only [Option.some.injEq, Addr.mk.injEq, and_true] at ha
  obtain ⟨rfl, rfl⟩ := ha
  rw [add_plain']
  exact hc j hjm

/-- a row that the call owns: of n elements of size cells each -/
abbrev Owns (w : World) (base : Nat) (e : TypeId) (size : Nat) (a : Option Addr) (n c : Nat) (f : Nat → Value) : Prop := w.ownsRow base e size (.slice a n c) n (rowL (n * size) f)
theorem Owns.holds {w : World} {base : Nat} {e : TypeId} {size : Nat} {a : Option Addr} {n c : Nat} {f : Nat → Value} (h : Owns w base e size a n c f) : Holds w a (n * size) f := by
  have k := Holds.of_owns h
  rw [rowL_length] at k
  exact k.congr fun i hi => by simp [List.getD_eq_getElem?_getD, rowL_at _ f i hi]
theorem Owns.nil (w : World) (base : Nat) (e : TypeId) (size : Nat) (f : Nat → Value) : Owns w base e size none 0 0 f := by
  show w.ownsRow base e size (.slice none 0 0) 0 (rowL (0 * size) f)
  rw [Nat.zero_mul, rowL_zero]
  exact World.ownsRow_nil w base e size
theorem Owns.empty (w : World) (base : Nat) (e : TypeId) (size : Nat) (f : Nat → Value) (hb : base ≤ w.heap.size) : Owns (w.alloc (.cells #[] e)) base e size (some ⟨w.heap.size, 0, none⟩) 0 0 f := by
  show (w.alloc (.cells #[] e)).ownsRow base e size (.slice (some ⟨w.heap.size, 0, none⟩) 0 0) 0 (rowL (0 * size) f)
  rw [Nat.zero_mul, rowL_zero]
  simpa using World.ownsRow_lit (base := base) (e := e) (size := size) w #[] 0 hb (by decide) (by simp)
/-- its block -/
theorem Owns.blk {w : World} {base : Nat} {e : TypeId} {size : Nat} {a : Option Addr} {n c : Nat} {f : Nat → Value} (h : Owns w base e size a n c f) : ∀ b off, a = some ⟨b, off, none⟩ → base ≤ b := by
  intro b off ha
  subst ha
  exact (h.lt b rfl).1
theorem Owns.congr {w : World} {base : Nat} {e : TypeId} {size : Nat} {a : Option Addr} {n c : Nat} {f g : Nat → Value} (h : Owns w base e size a n c f) (k : ∀ j, j < n * size → f j = g j) : Owns w base e size a n c g := by
  show w.ownsRow base e size (.slice a n c) n (rowL (n * size) g)
  rw [← rowL_congr k]; exact h
/-- what an append tells: the run's equation, the row behind it -/
structure Appended (P : Program) (w : World) (t : TypeId) (base : Nat) (e : TypeId) (size : Nat) (a : Option Addr) (n c : Nat) (x : Value) (m : Nat) (f : Nat → Value) (g cap : Nat) (w' : World) : Prop where
  run : ∀ ty, (Builtin.append_ #[t, t] ty #[.slice a n c, x]).run P w = .ok (.slice (some ⟨g, 0, none⟩) (n + m) cap) w'
  own : Owns w' base e size (some ⟨g, 0, none⟩) (n + m) cap f
  grown : w.grownBy w' (Value.slice a n c).ownBlock
  lt : g < w'.heap.size
  below : ∀ w0, Below base w0 w → base ≤ w.heap.size → Below base w0 w'
  at' : (Value.slice a n c).ownBlock = some g ∨ g = w.heap.size
theorem appended {P : Program} {w : World} (t : TypeId) (base : Nat) (e : TypeId) (i : TypeInfo) (z : Value) (size bytes : Nat) (ht : P.underlying t = some (.slice e)) (hi : P.info? e = some i) (hz : i.zero = some z)
    (hsize : i.size = size) (hby : i.bytes = bytes) (hzs : z.cells.size = size) (hsz : 0 < size)
    {a : Option Addr} {n c : Nat} {f : Nat → Value} (hown : Owns w base e size a n c f)
    {b off m c' : Nat} {h : Nat → Value} (hnew : Holds w (some ⟨b, off, none⟩) (m * size) h) (h1 : ∀ j, j < m * size → (h j).oneCell' = true)
    (hm : 0 < m) (h63 : n + m ≤ maxLen) (hbytes : (n + m) * bytes ≤ 140737488355328) (hbase : base ≤ w.heap.size) :
    ∃ g cap w', Appended P w t base e size a n c (.slice (some ⟨b, off, none⟩) m c') m (fun j => if j < n * size then f j else h (j - n * size)) g cap w' := by
  have key : ∀ ty, ∃ g cap w', (Builtin.append_ #[t, t] ty #[.slice a n c, .slice (some ⟨b, off, none⟩) m c']).run P w = .ok (.slice (some ⟨g, 0, none⟩) (n + m) cap) w' ∧
      w'.ownsRow base e size (.slice (some ⟨g, 0, none⟩) (n + m) cap) (n + m) (rowL (n * size) f ++ rowL (m * size) h) ∧ w.grownBy w' (Value.slice a n c).ownBlock ∧ ((Value.slice a n c).ownBlock = some g ∨ g = w.heap.size) ∧ g < w'.heap.size := fun ty =>
    run_append_lies (P := P) (w := w) t ty base e i z size bytes ht hi hz hsize hby hzs hsz (.slice a n c) n (rowL (n * size) f) hown ⟨b, off, none⟩ m c' (rowL (m * size) h) (rowL_length _ _) hnew.news
      (fun u hu => by obtain ⟨j, hj, rfl⟩ := rowL_mem hu; exact h1 j hj) hm h63 hbytes hbase w.heap.size rfl
  obtain ⟨g, cap, w', hrun, hown', hgr, hat, hlt⟩ := key t
  refine ⟨g, cap, w', fun ty => ?_, ?_, hgr, hlt, fun w0 hb hs => hb.grown hgr hs (fun k e => (hown.lt k e).1), hat⟩
  · exact hrun
  · show w'.ownsRow base e size (.slice (some ⟨g, 0, none⟩) (n + m) cap) (n + m) (rowL ((n + m) * size) _)
    rw [rowL_append, ← Nat.add_mul] at hown'
    exact hown'

/-- at a builtin append: by its run's equation -/
theorem wp_append_run {P : Program} {w : World} {o : Oper} {a : Act} {K : Act → World → Prop} {Q : Exit → Act → World → Prop} {s x : Operand} {t : TypeId} {v v' r : Value} {w' : World}
    (hrun : ∀ ty, (Builtin.append_ #[t, t] ty #[v, v']).run P w = .ok r w')
    (ho : o.op = .call { callee := .builtin .append, args := #[s, x], argTypes := #[t, t] }) (hs : a.eval s = v) (hx : a.eval x = v')
    (h : K (a.put o.dst r) w') : o.wp P a w K Q := by
  unfold Oper.wp execOp
  simp only [ho, resolve, invoke, builtin, Sem.run_bind, Sem.run_pure, Result.andThen_ok, List.map_toArray, List.map_cons, List.map_nil, hs, hx, hrun]
  exact h
theorem wpList_append_run {P : Program} {w : World} {ops : Array Oper} {rest : List Oper} {o : Oper} {a : Act} {Q : Exit → Act → World → Prop} {s x : Operand} {t : TypeId} {v v' r : Value} {w' : World}
    (hrun : ∀ ty, (Builtin.append_ #[t, t] ty #[v, v']).run P w = .ok r w') (hgd : o.guard = none)
    (ho : o.op = .call { callee := .builtin .append, args := #[s, x], argTypes := #[t, t] }) (hs : a.eval s = v) (hx : a.eval x = v')
    (h : wpList P ops Q rest (a.put o.dst r) w') : wpList P ops Q (o :: rest) a w :=
  wpList_plain hgd fun _ hK => wp_append_run hrun ho hs hx (hK _ _ h)
/-- at a step of a region that draws its order -/
theorem step_append_run {P : Program} {w : World} {ops : Array Oper} {o : Oper} {a : Act} {K : Act → World → Prop} {Q : Exit → Act → World → Prop} {E : Prop} {s x : Operand} {t : TypeId} {v v' r : Value} {w' : World}
    (hrun : ∀ ty, (Builtin.append_ #[t, t] ty #[v, v']).run P w = .ok r w') (hgd : o.guard = none)
    (ho : o.op = .call { callee := .builtin .append, args := #[s, x], argTypes := #[t, t] }) (hs : a.eval s = v) (hx : a.eval x = v')
    (h : K (a.put o.dst r) w') : if Region.wanted o (yielded ops a.tmps) = true then Oper.wp P o a w K Q else E := by
  rw [if_pos (by simp [Region.wanted, hgd])]
  exact wp_append_run hrun ho hs hx h
end Go.Proofs.Ytbemgfpnoeogdaa.RefP

/-
  Rows of words that a call owns: appending one, appending a row, cloning.
-/
namespace Go.Proofs.Ytbemgfpnoeogdaa.RefP
open Go.RowKit
set_option linter.unusedVariables false
set_option linter.unusedSimpArgs false

theorem infoWord : (Try.prog.info? 51).map (fun i => (i.zero, i.size, i.bytes)) = some (some (.int .u64 0), 1, 8) := by kernel_rfl
theorem info_parts' {P : Program} {t : TypeId} {z : Value} {s b : Nat} (h : (P.info? t).map (fun i => (i.zero, i.size, i.bytes)) = some (some z, s, b)) : ∃ i, P.info? t = some i ∧ i.zero = some z ∧ i.size = s ∧ i.bytes = b := by
  cases hi : P.info? t with
  | none => rw [hi] at h; cases h
  | some i =>
    rw [hi] at h
    simp only [Option.map_some, Option.some.injEq, Prod.mk.injEq] at h
    exact ⟨i, rfl, h.1, h.2.1, h.2.2⟩
theorem Owns.below2 {w w' : World} {base : Nat} {e : TypeId} {size : Nat} {a : Option Addr} {n c : Nat} {f : Nat → Value} (h : Owns w base e size a n c f) (hb : Below w.heap.size w w') : Owns w' base e size a n c f :=
  World.ownsRow.kept h (row := none) ⟨hb.os, hb.tape, hb.output, hb.size, fun i hi _ => hb.block i hi⟩ (by cases (Value.slice a n c).ownBlock <;> simp)
theorem Holds.of_blk' {w : World} {b : Nat} {cs : Array Value} {T : TypeId} (B : Blk w b cs T) (m : Nat) (f : Nat → Value) (e : ∀ i, i < m → cs[i]? = some (f i)) : Holds w (some ⟨b, 0, none⟩) m f :=
  ⟨fun _ => ⟨b, 0, rfl, B.lt, fun i hi => by rw [Nat.zero_add]; exact B.at i (e i hi)⟩⟩
theorem u64F_append (xs ys : List Int) (j : Nat) : (if j < xs.length then u64F xs j else u64F ys (j - xs.length)) = u64F (xs ++ ys) j := by
  unfold u64F at0
  by_cases h : j < xs.length
  · rw [if_pos h]; simp [List.getElem?_append_left h]
  · rw [if_neg h]; simp [List.getElem?_append_right (show xs.length ≤ j by omega)]
/-- a row of words that a call owns -/
structure OwnsU (w : World) (base : Nat) (a : Option Addr) (c : Nat) (l : List Int) : Prop where
  own : Owns w base 51 1 a l.length c (u64F l)
  rng : ∀ x ∈ l, 0 ≤ x ∧ x ≤ 18446744073709551615
theorem OwnsU.below {w w' : World} {base : Nat} {a : Option Addr} {c : Nat} {l : List Int} (h : OwnsU w base a c l) (hb : Below w.heap.size w w') : OwnsU w' base a c l := ⟨h.own.below2 hb, h.rng⟩
theorem OwnsU.kept {w w' : World} {row : Option Nat} {base : Nat} {a : Option Addr} {c : Nat} {l : List Int} (h : OwnsU w base a c l) (hg : w.grownBy w' row) (hne : (Value.slice a l.length c).ownBlock = none ∨ (Value.slice a l.length c).ownBlock ≠ row) : OwnsU w' base a c l :=
  ⟨World.ownsRow.kept h.own hg hne, h.rng⟩
theorem OwnsU.nil (w : World) (base : Nat) : OwnsU w base none 0 [] := ⟨Owns.nil _ _ _ _ _, by simp⟩
theorem OwnsU.words {w : World} {base : Nat} {a : Option Addr} {c : Nat} {l : List Int} (h : OwnsU w base a c l) (hn : l.length ≤ 9223372036854775807) : U64s w a l :=
  ⟨by have := h.own.holds; rwa [Nat.mul_one] at this, h.rng, hn⟩
theorem OwnsU.lower {w : World} {base b' : Nat} {a : Option Addr} {c : Nat} {l : List Int} (h : OwnsU w base a c l) (hb : b' ≤ base) : OwnsU w b' a c l := by
  refine ⟨⟨h.own.1, ?_⟩, h.rng⟩
  rcases h.own.2 with k | ⟨g, cap, cur, e, hg, r⟩
  · exact .inl k
  · exact .inr ⟨g, cap, cur, e, Nat.le_trans hb hg, r⟩
/-- the block is not b, where one is -/
theorem OwnsU.far {w : World} {base : Nat} {a : Option Addr} {c : Nat} {l : List Int} (h : OwnsU w base a c l) (p : Addr) (v : Value) (hne : (Value.slice a l.length c).ownBlock ≠ some p.block) : OwnsU (w.setCell p v) base a c l :=
  h.kept (row := some p.block) ⟨rfl, rfl, rfl, by simp, fun i hi hn => Below.heap_setCell w p v i (fun e => hn (by rw [e]))⟩ (.inr hne)
theorem OwnsU.lt {w : World} {base : Nat} {a : Option Addr} {c : Nat} {l : List Int} (h : OwnsU w base a c l) (k : Nat) (e : (Value.slice a l.length c).ownBlock = some k) : base ≤ k ∧ k < w.heap.size := World.ownsRow.lt h.own k e

/-- what appending tells -/
structure AddedU (w : World) (base : Nat) (a : Option Addr) (c : Nat) (l : List Int) (v : Value) (m : Nat) (l' : List Int) (g cap : Nat) (w' : World) : Prop where
  run : ∀ ty, (Builtin.append_ #[23, 23] ty #[.slice a l.length c, v]).run Try.prog w = .ok (.slice (some ⟨g, 0, none⟩) (l.length + m) cap) w'
  own : OwnsU w' base (some ⟨g, 0, none⟩) cap l'
  grown : w.grownBy w' (Value.slice a l.length c).ownBlock
  lt : g < w'.heap.size
  ge : base ≤ g
  at' : (Value.slice a l.length c).ownBlock = some g ∨ g = w.heap.size
theorem AddedU.keeps {w : World} {base : Nat} {a : Option Addr} {c : Nat} {l : List Int} {v : Value} {m : Nat} {l' : List Int} {g cap : Nat} {w' : World} (A : AddedU w base a c l v m l' g cap w') (hl : ∀ k, (Value.slice a l.length c).ownBlock = some k → base ≤ k)
    (w0 : World) (B : Nat) (hB : B ≤ base) (h : Below B w0 w) (hs : base ≤ w.heap.size) : Below B w0 w' :=
  h.grown A.grown (Nat.le_trans hB hs) (fun k e => Nat.le_trans hB (hl k e))
/-- a row is appended -/
theorem addAll {w : World} (base : Nat) {a : Option Addr} {c : Nat} {l : List Int} (h : OwnsU w base a c l) {b : Option Addr} {c' : Nat} {xs : List Int} (hx : U64s w b xs) (h0 : 0 < xs.length) (hn : l.length + xs.length ≤ 65536) (hbase : base ≤ w.heap.size) :
    ∃ g cap w', AddedU w base a c l (.slice b xs.length c') xs.length (l ++ xs) g cap w' := by
  obtain ⟨i0, hi, hz0, hz1, hz2⟩ := info_parts' infoWord
  obtain ⟨bb, off, rfl, hbl, hc⟩ := hx.row.get h0
  obtain ⟨g, cap, w', A⟩ := appended (P := Try.prog) (c' := c') 23 base 51 i0 _ 1 8 Try.underlying23 hi hz0 hz1 hz2 rfl (by omega)
    h.own (show Holds w (some ⟨bb, off, none⟩) (xs.length * 1) (u64F xs) by rw [Nat.mul_one]; exact hx.row) (fun j hj => rfl) h0 (by unfold maxLen; omega) (by omega) hbase
  refine ⟨g, cap, w', A.run, ⟨?_, fun x hx' => ?_⟩, A.grown, A.lt, (World.ownsRow.lt A.own g rfl).1, A.at'⟩
  · rw [show (l ++ xs).length = l.length + xs.length by simp]
    refine A.own.congr fun j hj => ?_
    have := u64F_append l xs j
    simpa using this
  · rcases List.mem_append.1 hx' with hx' | hx'
    · exact h.rng _ hx'
    · exact hx.rng _ hx'
/-- one word is appended: its block is made ahead -/
theorem addOne {w : World} (base : Nat) {a : Option Addr} {c : Nat} {l : List Int} (h : OwnsU w base a c l) (x : Int) (hx : 0 ≤ x ∧ x ≤ 18446744073709551615) (hn : l.length + 1 ≤ 65536) (hbase : base ≤ w.heap.size) :
    ∃ g cap w', AddedU (w.alloc (.cells #[.int .u64 x] 51)) base a c l (.slice (some ⟨w.heap.size, 0, none⟩) 1 1) 1 (l ++ [x]) g cap w' := by
  have HX : U64s (w.alloc (.cells #[.int .u64 x] 51)) (some ⟨w.heap.size, 0, none⟩) [x] :=
    ⟨Holds.of_blk' (Blk.new w #[.int .u64 x] 51) _ _ (fun i hi => by rcases i with _ | i <;> first | rfl | (simp at hi; try omega)), by simpa using hx, by simp⟩
  exact addAll base (h.below ((Below.refl _ w).alloc (Nat.le_refl _) _)) (c' := 1) HX (by simp) (by simpa using hn) (by simp; omega)
/-- nothing is appended: the row stays (to an empty row of a block, or to nil: the model's answer is the row) -/
theorem ret_bool {a b : Bool} (h : a = b) : Ending.returned (.bool a) = .returned (.bool b) := by rw [h]
/-- what a function that makes a row of words answers -/
def WordsAt (w : World) (l : List Int) (e : Ending) (w' : World) : Prop :=
  ∃ a c, e = .returned (.slice a l.length c) ∧ OwnsU w' w.heap.size a c l ∧ Below w.heap.size w w'
end Go.Proofs.Ytbemgfpnoeogdaa.RefP

/-
  Rows of records of k cells, of a list of any plain thing: blocks known whole, rows read, rows owned and appended to. No program in sight but for the numbers of types that are handed in.
-/
namespace Go.Proofs.Ytbemgfpnoeogdaa.RefP
open Go.RowKit
set_option linter.unusedVariables false
set_option linter.unusedSimpArgs false

theorem _root_.Go.Calls.flip {P : Program} {f : FuncId} {args : Array Value} {w : World} {v : Value} (h : Calls P f args w fun e w' => e = .returned v ∧ w = w') : Calls P f args w fun e w' => e = .returned v ∧ w' = w :=
  h.mono fun _ _ h => ⟨h.1, h.2.symm⟩
/-- the m-th cell of a row of records of k cells -/
def recF {α : Type} (k : Nat) (f : α → Nat → Value) (d : α) (l : List α) (m : Nat) : Value := f (l.getD (m / k) d) (m % k)
theorem recF_at {α : Type} {k : Nat} (f : α → Nat → Value) (d : α) (l : List α) (i j : Nat) (hj : j < k) : recF k f d l (i * k + j) = f (l.getD i d) j := by
  have hk : 0 < k := by omega
  have e1 : (i * k + j) / k = i := by
    rw [Nat.add_comm, Nat.add_mul_div_right _ _ hk, Nat.div_eq_of_lt hj, Nat.zero_add]
  have e2 : (i * k + j) % k = j := by
    rw [Nat.add_comm, Nat.add_mul_mod_self_right, Nat.mod_eq_of_lt hj]
  simp only [recF, e1, e2]
theorem rec_lt {n k i j : Nat} (hi : i < n) (hj : j < k) : i * k + j < n * k :=
  Nat.lt_of_lt_of_le (by omega : i * k + j < i * k + k) (by rw [← Nat.succ_mul]; exact Nat.mul_le_mul_right k hi)
theorem rec_div {n k m : Nat} (hm : m < n * k) : m / k < n := Nat.div_lt_of_lt_mul (by rw [Nat.mul_comm]; exact hm)
theorem rec_pos {n k m : Nat} (hm : m < n * k) : 0 < k := Nat.pos_of_ne_zero (fun e => by subst e; simp at hm)
/-- the cells of a row known whole -/
def recA {α : Type} (k : Nat) (f : α → Nat → Value) (d : α) (l : List α) : Array Value := Array.ofFn (n := l.length * k) (fun x => recF k f d l x.val)
theorem recA_size {α : Type} (k : Nat) (f : α → Nat → Value) (d : α) (l : List α) : (recA k f d l).size = l.length * k := by simp [recA]
theorem recA_flat {α : Type} (k : Nat) (f : α → Nat → Value) (d : α) (l : List α) (m : Nat) (hm : m < l.length * k) : (recA k f d l)[m]? = some (recF k f d l m) := by simp [recA, hm]
theorem recA_at {α : Type} {k : Nat} (f : α → Nat → Value) (d : α) (l : List α) (i j : Nat) (hi : i < l.length) (hj : j < k) : (recA k f d l)[i * k + j]? = some (f (l.getD i d) j) := by
  rw [recA_flat k f d l _ (rec_lt hi hj), recF_at f d l i j hj]
theorem recA_ext {α : Type} {k : Nat} {f : α → Nat → Value} {d : α} {l : List α} {A : Array Value} (hs : A.size = l.length * k) (h : ∀ i j, i < l.length → j < k → A[i * k + j]? = some (f (l.getD i d) j)) : A = recA k f d l := by
  apply Array.ext_getElem?
  intro m
  by_cases hm : m < l.length * k
  · have hk := rec_pos hm
    have e : m = m / k * k + m % k := by rw [Nat.mul_comm]; exact (Nat.div_add_mod m k).symm
    have hi := rec_div hm
    have hj := Nat.mod_lt m hk
    rw [e, h _ _ hi hj, recA_at f d l _ _ hi hj]
  · rw [Array.getElem?_eq_none (by omega), Array.getElem?_eq_none (by rw [recA_size]; omega)]
/-- of no other place than these cells -/
theorem rec_ne {k i i' j j' : Nat} (hj : j < k) (hj' : j' < k) (h : i ≠ i' ∨ j ≠ j') : i * k + j ≠ i' * k + j' := by
  intro e
  have hk : 0 < k := by omega
  have e1 : (i * k + j) / k = i := by rw [Nat.add_comm, Nat.add_mul_div_right _ _ hk, Nat.div_eq_of_lt hj, Nat.zero_add]
  have e2 : (i' * k + j') / k = i' := by rw [Nat.add_comm, Nat.add_mul_div_right _ _ hk, Nat.div_eq_of_lt hj', Nat.zero_add]
  have e3 : i = i' := by rw [← e1, ← e2, e]
  subst e3
  rcases h with h | h
  · exact h rfl
  · omega
/-- one record was written -/
theorem recA_set {α : Type} {k : Nat} {f : α → Nat → Value} {d : α} {l : List α} {A : Array Value} (i : Nat) (x : α) (hi : i < l.length) (hs : A.size = l.length * k) (h1 : ∀ j, j < k → A[i * k + j]? = some (f x j))
    (h2 : ∀ i' j, i' ≠ i → i' < l.length → j < k → A[i' * k + j]? = (recA k f d l)[i' * k + j]?) : A = recA k f d (l.set i x) := by
  refine recA_ext (by simpa using hs) fun i' j hi' hj => ?_
  rw [List.length_set] at hi'
  by_cases e : i' = i
  · subst e
    rw [h1 j hj]; simp [List.getD_eq_getElem?_getD, hi]
  · rw [h2 i' j e hi' hj, recA_at f d l i' j hi' hj]
    have e' : ¬ i = i' := fun x => e x.symm
    simp [List.getD_eq_getElem?_getD, List.getElem?_set, e']
theorem recA_made {α : Type} {k : Nat} {f : α → Nat → Value} {d : α} (z : Array Value) (x : α) (n : Nat) (hz : z.size = k) (h : ∀ j, j < k → z[j]? = some (f x j)) : madeCells z (n * k) = recA k f d (List.replicate n x) := by
  refine recA_ext (by simp [size_madeCells]) fun i j hi hj => ?_
  rw [List.length_replicate] at hi
  have hk : 0 < k := by omega
  have e2 : (i * k + j) % z.size = j := by rw [hz, Nat.add_comm, Nat.add_mul_mod_self_right, Nat.mod_eq_of_lt hj]
  have e3 : (List.replicate n x).getD i d = x := by simp [List.getD_eq_getElem?_getD, List.getElem?_replicate, hi]
  have hlt := rec_lt hi hj
  have hj' := h j hj
  have hjs : j < z.size := by omega
  rw [e3, ← hj']
  simp [madeCells, hlt, e2, hjs, Array.getD]

/-- a row of records that is read -/
structure RecS {α : Type} (k : Nat) (f : α → Nat → Value) (d : α) (w : World) (a : Option Addr) (l : List α) : Prop where
  row : Holds w a (l.length * k) (recF k f d l)
theorem RecS.below {α : Type} {k : Nat} {f : α → Nat → Value} {d : α} {w w' : World} {a : Option Addr} {l : List α} (h : RecS k f d w a l) (hb : Below w.heap.size w w') : RecS k f d w' a l := ⟨h.row.below hb⟩
theorem RecS.nil {α : Type} (k : Nat) (f : α → Nat → Value) (d : α) (w : World) (a : Option Addr) : RecS k f d w a [] := ⟨by simpa using Holds.nil w a _⟩
theorem RecS.cell {α : Type} {k : Nat} {f : α → Nat → Value} {d : α} {w : World} {a : Option Addr} {l : List α} (h : RecS k f d w a l) (i : Nat) (hi : i < l.length) (hk : 0 < k) :
    ∃ b off, a = some ⟨b, off, none⟩ ∧ b < w.heap.size ∧ ∀ j, j < k → w.cell? ⟨b, off + i * k + j, none⟩ = some (f (l.getD i d) j) := by
  obtain ⟨b, off, ha, hl, hc⟩ := h.row.get (by have := rec_lt hi hk; omega)
  refine ⟨b, off, ha, hl, fun j hj => ?_⟩
  rw [Nat.add_assoc, hc _ (rec_lt hi hj), recF_at f d l i j hj]
theorem RecS.of_blk {α : Type} {k : Nat} {f : α → Nat → Value} {d : α} {w : World} {b : Nat} {l : List α} {T : TypeId} (B : Blk w b (recA k f d l) T) : RecS k f d w (some ⟨b, 0, none⟩) l :=
  ⟨⟨fun _ => ⟨b, 0, rfl, B.lt, fun i hi => by rw [Nat.zero_add]; exact B.at i (recA_flat k f d l i hi)⟩⟩⟩
/-- the cells of a record in a block known whole -/
theorem rec_blk {α : Type} {k : Nat} {f : α → Nat → Value} {d : α} {w : World} {b : Nat} {l : List α} {T : TypeId} (B : Blk w b (recA k f d l) T) (i j : Nat) (hi : i < l.length) (hj : j < k) : w.cell? ⟨b, i * k + j, none⟩ = some (f (l.getD i d) j) :=
  B.at _ (recA_at f d l i j hi hj)

/-- a row of records that the call owns -/
structure OwnR {α : Type} (k : Nat) (f : α → Nat → Value) (d : α) (w : World) (base : Nat) (e : TypeId) (a : Option Addr) (c : Nat) (l : List α) : Prop where
  own : Owns w base e k a l.length c (recF k f d l)
theorem OwnR.below {α : Type} {k : Nat} {f : α → Nat → Value} {d : α} {w w' : World} {base : Nat} {e : TypeId} {a : Option Addr} {c : Nat} {l : List α} (h : OwnR k f d w base e a c l) (hb : Below w.heap.size w w') : OwnR k f d w' base e a c l := ⟨h.own.below2 hb⟩
theorem OwnR.kept {α : Type} {k : Nat} {f : α → Nat → Value} {d : α} {w w' : World} {row : Option Nat} {base : Nat} {e : TypeId} {a : Option Addr} {c : Nat} {l : List α} (h : OwnR k f d w base e a c l) (hg : w.grownBy w' row)
    (hne : (Value.slice a l.length c).ownBlock = none ∨ (Value.slice a l.length c).ownBlock ≠ row) : OwnR k f d w' base e a c l := ⟨World.ownsRow.kept h.own hg hne⟩
theorem OwnR.nil {α : Type} (k : Nat) (f : α → Nat → Value) (d : α) (w : World) (base : Nat) (e : TypeId) : OwnR k f d w base e none 0 ([] : List α) := ⟨Owns.nil _ _ _ _ _⟩
theorem OwnR.empty {α : Type} (k : Nat) (f : α → Nat → Value) (d : α) (w : World) (base : Nat) (e : TypeId) (hb : base ≤ w.heap.size) : OwnR k f d (w.alloc (.cells #[] e)) base e (some ⟨w.heap.size, 0, none⟩) 0 ([] : List α) := ⟨Owns.empty _ _ _ _ _ hb⟩
theorem OwnR.read {α : Type} {k : Nat} {f : α → Nat → Value} {d : α} {w : World} {base : Nat} {e : TypeId} {a : Option Addr} {c : Nat} {l : List α} (h : OwnR k f d w base e a c l) : RecS k f d w a l := ⟨h.own.holds⟩
theorem OwnR.lower {α : Type} {k : Nat} {f : α → Nat → Value} {d : α} {w : World} {base b' : Nat} {e : TypeId} {a : Option Addr} {c : Nat} {l : List α} (h : OwnR k f d w base e a c l) (hb : b' ≤ base) : OwnR k f d w b' e a c l := by
  refine ⟨⟨h.own.1, ?_⟩⟩
  rcases h.own.2 with q | ⟨g, cap, cur, e, hg, r⟩
  · exact .inl q
  · exact .inr ⟨g, cap, cur, e, Nat.le_trans hb hg, r⟩
theorem OwnR.lt {α : Type} {k : Nat} {f : α → Nat → Value} {d : α} {w : World} {base : Nat} {e : TypeId} {a : Option Addr} {c : Nat} {l : List α} (h : OwnR k f d w base e a c l) (g : Nat) (q : (Value.slice a l.length c).ownBlock = some g) : base ≤ g ∧ g < w.heap.size := World.ownsRow.lt h.own g q
theorem OwnR.far {α : Type} {k : Nat} {f : α → Nat → Value} {d : α} {w : World} {base : Nat} {e : TypeId} {a : Option Addr} {c : Nat} {l : List α} (h : OwnR k f d w base e a c l) (p : Addr) (v : Value) (hne : (Value.slice a l.length c).ownBlock ≠ some p.block) : OwnR k f d (w.setCell p v) base e a c l :=
  h.kept (row := some p.block) ⟨rfl, rfl, rfl, by simp, fun i hi hn => Below.heap_setCell w p v i (fun e => hn (by rw [e]))⟩ (.inr hne)

theorem recF_append {α : Type} {k : Nat} (f : α → Nat → Value) (d : α) (l r : List α) (m : Nat) (hm : m < (l.length + r.length) * k) : (if m < l.length * k then recF k f d l m else recF k f d r (m - l.length * k)) = recF k f d (l ++ r) m := by
  have hk := rec_pos hm
  by_cases h : m < l.length * k
  · rw [if_pos h]
    have := rec_div h
    simp [recF, List.getD_eq_getElem?_getD, List.getElem?_append_left this]
  · rw [if_neg h]
    obtain ⟨q, rfl⟩ : ∃ q, m = q + l.length * k := ⟨m - l.length * k, by omega⟩
    have e1 : (q + l.length * k) / k = q / k + l.length := Nat.add_mul_div_right _ _ hk
    have e2 : (q + l.length * k) % k = q % k := Nat.add_mul_mod_self_right _ _ _
    simp only [recF, e1, e2, Nat.add_sub_cancel]
    rw [List.getD_eq_getElem?_getD, List.getD_eq_getElem?_getD, List.getElem?_append_right (Nat.le_add_left _ _), Nat.add_sub_cancel]
/-- what appending records tells -/
structure AddedR {α : Type} (P : Program) (k : Nat) (f : α → Nat → Value) (d : α) (w : World) (base : Nat) (t e : TypeId) (a : Option Addr) (c : Nat) (l : List α) (v : Value) (m : Nat) (l' : List α) (g cap : Nat) (w' : World) : Prop where
  run : ∀ ty, (Builtin.append_ #[t, t] ty #[.slice a l.length c, v]).run P w = .ok (.slice (some ⟨g, 0, none⟩) (l.length + m) cap) w'
  own : OwnR k f d w' base e (some ⟨g, 0, none⟩) cap l'
  grown : w.grownBy w' (Value.slice a l.length c).ownBlock
  lt : g < w'.heap.size
  ge : base ≤ g
  at' : (Value.slice a l.length c).ownBlock = some g ∨ g = w.heap.size
theorem AddedR.keeps {α : Type} {P : Program} {k : Nat} {f : α → Nat → Value} {d : α} {w : World} {base : Nat} {t e : TypeId} {a : Option Addr} {c : Nat} {l : List α} {v : Value} {m : Nat} {l' : List α} {g cap : Nat} {w' : World} (A : AddedR P k f d w base t e a c l v m l' g cap w') (hl : ∀ k, (Value.slice a l.length c).ownBlock = some k → base ≤ k)
    (w0 : World) (B : Nat) (hB : B ≤ base) (h : Below B w0 w) (hs : base ≤ w.heap.size) : Below B w0 w' :=
  h.grown A.grown (Nat.le_trans hB hs) (fun k e => Nat.le_trans hB (hl k e))
/-- a row of records is appended -/
theorem addRecs {α : Type} {P : Program} {k : Nat} {f : α → Nat → Value} {d : α} {w : World} (base : Nat) (t e : TypeId) (i : TypeInfo) (z : Value) (bytes : Nat) (ht : P.underlying t = some (.slice e)) (hi : P.info? e = some i) (hz : i.zero = some z) (hsize : i.size = k) (hby : i.bytes = bytes) (hzs : z.cells.size = k) (hk : 0 < k)
    (hone : ∀ x j, j < k → (f x j).oneCell' = true) {a : Option Addr} {c : Nat} {l : List α} (h : OwnR k f d w base e a c l) {b : Option Addr} {c' : Nat} {xs : List α} (hx : RecS k f d w b xs) (h0 : 0 < xs.length) (hm : l.length + xs.length ≤ maxLen) (hn : (l.length + xs.length) * bytes ≤ 140737488355328) (hbase : base ≤ w.heap.size) :
    ∃ g cap w', AddedR P k f d w base t e a c l (.slice b xs.length c') xs.length (l ++ xs) g cap w' := by
  obtain ⟨bb, off, rfl, hbl, hc⟩ := hx.row.get (by have := rec_lt h0 hk; omega)
  obtain ⟨g, cap, w', A⟩ := appended (P := P) (c' := c') t base e i z k bytes ht hi hz hsize hby hzs hk h.own hx.row (fun j hj => hone _ _ (Nat.mod_lt _ hk)) h0 hm hn hbase
  refine ⟨g, cap, w', A.run, ⟨?_⟩, A.grown, A.lt, (World.ownsRow.lt A.own g rfl).1, A.at'⟩
  rw [show (l ++ xs).length = l.length + xs.length by simp]
  exact A.own.congr fun j hj => recF_append f d l xs j hj
/-- one record is appended: its block is made ahead -/
theorem rec_lit {α : Type} {k : Nat} {f : α → Nat → Value} {d : α} {w : World} {b : Nat} {cs : Array Value} {T : TypeId} (B : Blk w b cs T) (x : α) (h : ∀ j, j < k → cs[j]? = some (f x j)) : RecS k f d w (some ⟨b, 0, none⟩) [x] :=
  ⟨⟨fun _ => ⟨b, 0, rfl, B.lt, fun i hi => by
    have hi' : i < k := by simpa using hi
    rw [Nat.zero_add, B.at i (h i hi')]
    have := recF_at f d [x] 0 i hi'
    rw [Nat.zero_mul, Nat.zero_add] at this
    rw [this]; simp⟩⟩⟩
theorem append_none {P : Program} {w : World} {base : Nat} (t ty e : TypeId) (i : TypeInfo) (size : Nat) (ht : P.underlying t = some (.slice e)) (hi : P.info? e = some i)
    (v : Value) (n : Nat) (xs : List Value) (hown : w.ownsRow base e size v n xs) (p : Option Addr) (c' : Nat) :
    (Builtin.append_ #[t, t] ty #[v, .slice p 0 c']).run P w = .ok v w := by
  rcases hown.2 with ⟨rfl, rfl⟩ | ⟨g, cap, cur, rfl, _, _, hnc, _⟩
  · cases p <;> simp [Builtin.append_, run_underlying ht, sizeOf, typeInfo, hi, Builtin.lenOf, Builtin.firstCells, loadCells, loadCellsFrom, Result.andThen]
  · cases p <;> simp [Builtin.append_, run_underlying ht, sizeOf, typeInfo, hi, Builtin.lenOf, Builtin.firstCells, hnc, storeCells, loadCells, loadCellsFrom, Result.andThen]
/-- nothing is appended: the row stays -/
theorem addRecs_zero {α : Type} {P : Program} {k : Nat} {f : α → Nat → Value} {d : α} {w : World} (base g0 : Nat) (t e : TypeId) (i : TypeInfo) (ht : P.underlying t = some (.slice e)) (hi : P.info? e = some i) {c : Nat} {l : List α} (h : OwnR k f d w base e (some ⟨g0, 0, none⟩) c l) (b : Option Addr) (c' : Nat) :
    AddedR P k f d w base t e (some ⟨g0, 0, none⟩) c l (.slice b 0 c') 0 l g0 c w :=
  ⟨fun ty => by rw [Nat.add_zero]; exact append_none (P := P) t ty e i k ht hi _ _ _ h.own b c', h, ⟨rfl, rfl, rfl, Nat.le_refl _, fun _ _ _ => rfl⟩, (h.lt g0 rfl).2, (h.lt g0 rfl).1, .inl rfl⟩
end Go.Proofs.Ytbemgfpnoeogdaa.RefP

/-
  Frames, blocks and results, for views and edits. No program in sight.
-/
namespace Go.Proofs.Ytbemgfpnoeogdaa.FoP
open Go.RowKit RefP
set_option linter.unusedVariables false
set_option linter.unusedSimpArgs false
/-- all is as it was, but for some blocks -/
structure Fr (S : List Nat) (w w' : World) : Prop where
  os : w'.os = w.os
  tape : w'.tape = w.tape
  output : w'.output = w.output
  size : w.heap.size ≤ w'.heap.size
  block : ∀ b, b < w.heap.size → b ∉ S → w'.heap[b]? = w.heap[b]?
theorem Fr.refl (S : List Nat) (w : World) : Fr S w w := ⟨rfl, rfl, rfl, Nat.le_refl _, fun _ _ _ => rfl⟩
theorem Fr.trans {S : List Nat} {a b c : World} (h : Fr S a b) (k : Fr S b c) : Fr S a c :=
  ⟨k.os.trans h.os, k.tape.trans h.tape, k.output.trans h.output, Nat.le_trans h.size k.size, fun i hi hn => (k.block i (Nat.lt_of_lt_of_le hi h.size) hn).trans (h.block i hi hn)⟩
theorem Fr.of_below {S : List Nat} {w w' : World} (h : Below w.heap.size w w') : Fr S w w' := ⟨h.os, h.tape, h.output, h.size, fun b hb _ => h.block b hb⟩
theorem Fr.of_grown {S : List Nat} {w w' : World} {row : Option Nat} (h : w.grownBy w' row) (hr : ∀ g, row = some g → g ∈ S) : Fr S w w' :=
  ⟨h.os, h.tape, h.output, h.size, fun b hb hn => h.block b hb (fun e => hn (hr b e.symm))⟩
theorem Fr.set {S : List Nat} {a w : World} (h : Fr S a w) (p : Addr) (v : Value) (hp : p.block ∈ S ∨ a.heap.size ≤ p.block) : Fr S a (w.setCell p v) :=
  ⟨h.os, h.tape, h.output, by simpa using h.size, fun b hb hn => (Below.heap_setCell w p v b (fun e => by
    rcases hp with q | q
    · exact hn (e ▸ q)
    · omega)).trans (h.block b hb hn)⟩
theorem Fr.more {S S' : List Nat} {w w' : World} (h : Fr S w w') (k : ∀ b ∈ S, b ∈ S') : Fr S' w w' := ⟨h.os, h.tape, h.output, h.size, fun b hb hn => h.block b hb (fun e => hn (k b e))⟩
theorem Fr.keeps {S : List Nat} {w w' : World} (h : Fr S w w') : Dp.Keeps S w w' := ⟨h.size, h.block⟩
theorem Fr.below {S : List Nat} {B : Nat} {a w w' : World} (h : Fr S w w') (hb : Below B a w) (hB : B ≤ a.heap.size) (hS : ∀ b ∈ S, B ≤ b) : Below B a w' :=
  ⟨h.os.trans hb.os, h.tape.trans hb.tape, h.output.trans hb.output, Nat.le_trans hb.size h.size, fun b hlt => (h.block b (Nat.lt_of_lt_of_le hlt (Nat.le_trans hB hb.size)) (fun e => by have := hS b e; omega)).trans (hb.block b hlt)⟩
theorem Fr.blk {S : List Nat} {w w' : World} (h : Fr S w w') {b : Nat} {cs : Array Value} {T : TypeId} (k : Blk w b cs T) (hn : b ∉ S) : Blk w' b cs T := ⟨(h.block b k.lt hn).trans k.h⟩
theorem Blk.row {w : World} {b : Nat} {cs : Array Value} {T : TypeId} (k : Blk w b cs T) (cs' : Array Value) : Blk (w.setRow b cs') b cs' T := by
  have hlt := k.lt
  have h' : w.heap[b] = .cells cs T (0, 0) := by simpa [Array.getElem?_eq_getElem hlt] using k.h
  refine ⟨?_⟩
  show (w.heap.modify b _)[b]? = _
  rw [Array.getElem?_eq_getElem (by simpa using hlt), Array.getElem_modify_self, h']
theorem Fr.row {S : List Nat} {w : World} (b : Nat) (cs' : Array Value) (hb : b ∈ S) : Fr S w (w.setRow b cs') := by
  have h := below_setRow (Below.refl b w) (Nat.le_refl _) cs'
  refine ⟨h.os, h.tape, h.output, h.size, fun k hk hn => ?_⟩
  have hne : k ≠ b := fun e => hn (e ▸ hb)
  show (w.heap.modify b _)[k]? = _
  rw [Array.getElem?_modify, if_neg (fun e => hne e.symm)]
theorem setCell_self {w : World} {b i : Nat} {cs : Array Value} {T : TypeId} (h : Blk w b cs T) {v : Value} (hv : cs[i]? = some v) : w.setCell ⟨b, i, none⟩ v = w := by
  have e : cs.setIfInBounds i v = cs := by
    apply Array.ext_getElem?
    intro k
    rw [Array.getElem?_setIfInBounds]
    split
    · rename_i hk
      subst hk
      split
      · exact hv.symm
      · rename_i hn
        rw [Array.getElem?_eq_none (by omega)] at hv; cases hv
    · rfl
  have e2 : ∀ f : Obj → Obj, f (.cells cs T (0, 0)) = .cells cs T (0, 0) → w.heap.modify b f = w.heap := by
    intro f hf
    apply Array.ext_getElem?
    intro k
    rw [Array.getElem?_modify]
    split
    · rename_i hk
      subst hk
      rw [h.h]; simp [hf]
    · rfl
  unfold World.setCell
  rw [e2 _ (by simp [e])]
theorem results_cell_tmp {P : Program} {fn : Func} {p q : Tmp} {ty : TypeId} (h : fn.results = #[.cell p ty, .tmp q]) (tmps : Array Value) (w : World) (g : Nat) (t : TypeId) (cs : Array Value) (fr : Nat × Nat) (d : TypeDesc)
    (v : Value) (hv : tmps.getD q undef = v) (hp : tmps.getD p undef = .pointer (some ⟨g, 0, none⟩)) (hg : w.heap[g]? = some (.cells cs t fr))
    (hu : P.underlying ty = some d) (hd : (match d with | .struct _ | .array _ _ => true | _ => false) = true) (hi : (P.info? ty).map (·.size) = some cs.size) :
    (results fn tmps).run P w = .ok (.tuple #[.agg cs, v]) w := by
  subst hv
  have hp' : tmps[p]?.getD undef = .pointer (some ⟨g, 0, none⟩) := by simpa using hp
  simp [results, h, hp', asAddr, run_loadVar_row w g t ty cs fr d hg hu hd hi]
theorem OwnR.heap {α : Type} {k : Nat} {f : α → Nat → Value} {d : α} {w w' : World} {base : Nat} {e : TypeId} {a : Option Addr} {c : Nat} {l : List α} (h : OwnR k f d w base e a c l) (hk : ∀ g, (Value.slice a l.length c).ownBlock = some g → w'.heap[g]? = w.heap[g]?) : OwnR k f d w' base e a c l := by
  refine ⟨⟨h.own.1, ?_⟩⟩
  rcases h.own.2 with q | ⟨g, cap, cur, e', hg, hh, r⟩
  · exact .inl q
  · refine .inr ⟨g, cap, cur, e', hg, ?_, r⟩
    rw [hk g (by rw [e']; rfl)]; exact hh
end Go.Proofs.Ytbemgfpnoeogdaa.FoP

/-
  edit: the last change of a cell (a range over the edit's own iterator, inside a fence).
-/
namespace Go.Proofs.Ytbemgfpnoeogdaa.EdP
open Go.RowKit Go.Shelf RefP Dp
set_option linter.unusedVariables false
set_option linter.unusedSimpArgs false
attribute [local go_sem] Oper.semAt_some
abbrev changeA (q : NodeH) (x : ChangeV) : Array Value := #[.int .i64 x.cell, .int .i64 x.from_, .int .u64 x.word, .int .u64 x.ver, .bool x.empty, .bool x.lin, .int .i64 x.node.level, .string x.node.low, .string x.node.high, .bool x.node.last, .int .i64 x.node.next, .slice q.keys.a x.node.keys.length q.keys.c, .slice q.vals.a x.node.vals.length q.vals.c, .slice q.kids.a x.node.kids.length q.kids.c]
abbrev chz : Array Value := #[.int .i64 0, .int .i64 0, .int .u64 0, .int .u64 0, .bool false, .bool false, .int .i64 0, .string ⟨#[]⟩, .string ⟨#[]⟩, .bool false, .int .i64 0, .slice none 0 0, .slice none 0 0, .slice none 0 0]
abbrev Ch := NodeH × ChangeV
abbrev chA (p : Ch) : Array Value := changeA p.1 p.2
/-- the edit at E has the changes R, in rows below n₀ -/
def ChRow (n₀ : Nat) (W : World) (E : Nat) (R : List Ch) : Prop :=
  E < n₀ ∧ ∃ ca cc, W.cell? ⟨E, 1, none⟩ = some (.slice ca R.length cc) ∧ (0 < R.length → ∃ b off, ca = some ⟨b, off, none⟩ ∧ b < n₀ ∧ ∀ j (hj : j < R.length), W.rangeAt b (off + j * 14) (chA R[j]).toList)
theorem ChRow.below {n₀ : Nat} {A B : World} {E : Nat} {R : List Ch} (h : ChRow n₀ A E R) (k : Below n₀ A B) : ChRow n₀ B E R := by
  obtain ⟨h0, ca, cc, h1, h2⟩ := h
  refine ⟨h0, ca, cc, (k.cell (p := ⟨E, 1, none⟩) h0).trans h1, fun hp => ?_⟩
  obtain ⟨b, off, e, hb, hc⟩ := h2 hp
  exact ⟨b, off, e, hb, fun j hj i v hv => (k.cell (p := ⟨b, _, none⟩) hb).trans (hc j hj i v hv)⟩
/-- what has come when k rounds are over -/
def upto {α : Type} (f : Nat → α) (k : Nat) : List α := (List.range k).map f
theorem upto_succ {α : Type} (f : Nat → α) (k : Nat) : upto f (k + 1) = upto f k ++ [f k] := by simp [upto, List.range_succ]
theorem upto_length {α : Type} (f : Nat → α) (k : Nat) : (upto f k).length = k := by simp [upto]
abbrev It := Nat × Ch
abbrev itA (x : It) : Array Value := #[.int .i64 (x.1 : Int), .agg (chA x.2)]
def ch0 : Ch := (⟨Hd.nil, Hd.nil, Hd.nil⟩, ⟨0, 0, 0, 0, false, false, ⟨0, ⟨#[]⟩, ⟨#[]⟩, false, 0, [], [], []⟩⟩)
def fromBack (R : List Ch) (k : Nat) : It := (R.length - 1 - k, R.getD (R.length - 1 - k) ch0)
set_option maxRecDepth 100000 in
set_option maxHeartbeats 2000000 in
theorem back1_in (F : Fence) (n : Nat) (h64 : F.fn 64) (hro : F.round = none) (hn : 1 ≤ n) (l Bs n₀ E : Nat) (R : List Ch) (J Jx : List It → World → Prop)
    (hY : ∀ pre x W, J pre W → pre.length < R.length → YieldAt F (n - 1) Try.prog l (itA x) W fun e W' =>
      (e = .returned (.bool true) ∧ J (pre ++ [x]) W' ∧ Below n₀ W W') ∨ (e = .returned (.bool false) ∧ Jx (pre ++ [x]) W'))
    (W : World) (hBs : W.cell? ⟨Bs, 0, none⟩ = some (.pointer (some ⟨E, 0, none⟩))) (hBn : Bs < n₀) (hl : R.length ≤ 100) (hR : ChRow n₀ W E R) (h0 : J [] W) :
    CallsIn F n Try.prog 64 #[.func (.yield l) #[] #[], .pointer (some ⟨Bs, 0, none⟩)] W fun e W' => (∃ v, e = .returned v) ∧
      ((∃ ys, ys = upto (fromBack R) R.length ∧ J ys W') ∨ (∃ pre, (∃ k, k ≤ R.length ∧ pre = upto (fromBack R) k) ∧ Jx pre W')) := by
  obtain ⟨hE, ca, cc, hc, hrow⟩ := hR
  refine callsIn_of_wp Try.func64 rfl h64 ?_ hro
  simp only [Try.ntmps64, List.size_toArray, List.length_cons, List.length_nil, Nat.reduceAdd, Nat.reduceSub, Array.replicate_succ, Array.replicate_zero, List.push_toArray, List.append_toArray, List.nil_append, List.cons_append]
  gi_wp2
  gi_loopw [3] (fun i wr => ∃ k : Nat, J (upto (fromBack R) k) wr ∧ Below n₀ W wr ∧ ((k = R.length ∧ i = .int .i64 (-1)) ∨ ∃ j : Nat, k + 1 + j = R.length ∧ i = .int .i64 (j : Int))) (fun i _ => (intOf i + 1).toNat)
  case atStart =>
    refine ⟨0, h0, Below.refl _ _, ?_⟩
    by_cases hz : R.length = 0
    · exact .inl ⟨by omega, by rw [hz]; go_num⟩
    · exact .inr ⟨R.length - 1, by omega, by go_num⟩
  case round =>
    obtain ⟨k, hJs, hnx, hi⟩ := hrel
    have hbs : wr.cell? ⟨Bs, 0, none⟩ = some (.pointer (some ⟨E, 0, none⟩)) := (hnx.cell (p := ⟨Bs, 0, none⟩) hBn).trans hBs
    have hcs : wr.cell? ⟨E, 1, none⟩ = some (.slice ca R.length cc) := (hnx.cell (p := ⟨E, 1, none⟩) hE).trans hc
    rcases hi with ⟨rfl, rfl⟩ | ⟨j, hkj, rfl⟩
    · gi_wp2
      go_end0
      exact ⟨⟨_, rfl⟩, .inl ⟨_, rfl, hJs⟩⟩
    · have hjl : j < R.length := by omega
      have hjl' : (j : Int) < (R.length : Int) := by omega
      obtain ⟨b, off, rfl, hb, hcr⟩ := hrow (by omega)
      have hrj : wr.rangeAt b (off + j * 14) (chA R[j]).toList := fun i v hv => (hnx.cell (p := ⟨b, _, none⟩) hb).trans (hcr j hjl i v hv)
      have hfb : fromBack R k = (j, R[j]) := by
        have e : R.length - 1 - k = j := by omega
        unfold fromBack
        rw [e, List.getD_eq_getElem?_getD, List.getElem?_eq_getElem hjl]
        rfl
      obtain ⟨fn, tmps, assign, body, hy, hRd⟩ := hY _ (fromBack R k) wr hJs (by rw [upto_length]; omega)
      rw [hfb] at hy
      gi_wp2_with (refine wpListIn_load_mid rfl 97 _ rfl b (off + j * 14) rfl (chA R[j]).toList _ hrj Try.underlying97 rfl (by kernel_rfl) ?_)
      refine hRd.mono ?_
      rintro e W3 (⟨rfl, hJ3, hk3⟩ | ⟨rfl, hJx3⟩)
      · gi_wp2
        go_roundw
        case rel =>
          refine ⟨k + 1, by rw [upto_succ]; exact hJ3, hnx.trans hk3, ?_⟩
          by_cases hz : j = 0
          · subst hz
            exact .inl ⟨by omega, by go_num⟩
          · exact .inr ⟨j - 1, by omega, by go_num⟩
        case measure => simp [intOf]
      · gi_wp2
        refine bodyPost_ret (results_none rfl _ _ _) rfl ?_
        exact ⟨⟨_, rfl⟩, .inr ⟨_, ⟨k + 1, by omega, (upto_succ _ _).symm⟩, hJx3⟩⟩
set_option maxHeartbeats 1000000 in
theorem back_in (F : Fence) (n : Nat) (h59 : F.fn 59) (hro : F.round = none) (p0 : Option Addr) (w : World) :
    CallsIn F n Try.prog 59 #[.pointer p0] w fun e w' => e = .returned (.func (.func 64) #[] #[.pointer (some ⟨w.heap.size, 0, none⟩)]) ∧ w' = w.alloc (.cells #[.pointer p0] 31) := by
  refine callsIn_of_wp Try.func59 rfl h59 ?_ hro
  simp only [Try.ntmps59, List.size_toArray, List.length_cons, List.length_nil, Nat.reduceAdd, Nat.reduceSub, Array.replicate_succ, Array.replicate_zero, List.push_toArray, List.append_toArray, List.nil_append, List.cons_append]
  gi_wp2
  go_ret
  exact ⟨rfl, rfl⟩
theorem back_stops (F : Fence) (n : Nat) (h64 : F.fn 64) (hro : F.round = none) (hn : 1 ≤ n) (Bs n₀ E : Nat) (R : List Ch) (w : World) (hBs : Bs < n₀) (hn₀ : n₀ ≤ w.heap.size) (hl : R.length ≤ 100)
    (hc : w.cell? ⟨Bs, 0, none⟩ = some (.pointer (some ⟨E, 0, none⟩))) (hR : ChRow n₀ w E R) :
    SeqStopsK F n Try.prog 64 #[.pointer (some ⟨Bs, 0, none⟩)] itA (Below n₀) (fun ys => ys = upto (fromBack R) R.length) (fun pre => ∃ k, k ≤ R.length ∧ pre = upto (fromBack R) k) R.length w := fun l J Jx W hW _ _ hY h0 =>
  back1_in F n h64 hro hn l Bs n₀ E R J Jx hY W ((hW.cell (p := ⟨Bs, 0, none⟩) (Nat.lt_of_lt_of_le hBs hn₀)).trans hc) hBs hl (hR.below (hW.mono hn₀)) h0
theorem blk_kept {W W' : World} {row : Option Nat} {b : Nat} {cs : Array Value} {T : TypeId} (h : Blk W b cs T) (hg : W.grownBy W' row) (hrow : ∀ r, row = some r → ∃ o : Obj, W.heap[r]? = some o ∧ o.isCells = false) : Blk W' b cs T :=
  ⟨(grownBy_keeps_cells hg hrow h.h rfl).trans h.h⟩
theorem keeps_row {W : World} {b : Nat} {cs : Array Value} {T : TypeId} (h : Blk W b cs T) (ds : Array Value) : KeepsOthers W (W.setRow b ds) := by
  have F : FoP.Fr [b] W (W.setRow b ds) := FoP.Fr.row (S := [b]) b ds (by simp)
  refine ⟨F.size, fun k o hk ho => ?_⟩
  by_cases e : k = b
  · subst e
    rw [h.h] at hk
    cases hk
    cases ho
  · exact (F.block k (Array.getElem?_eq_some_iff.1 hk).1 (by simpa using e)).trans hk
theorem blkRow {w : World} {b : Nat} {cs : Array Value} {T : TypeId} (k : Blk w b cs T) (ds : Array Value) : Blk (w.setRow b ds) b ds T := FoP.Blk.row k ds
theorem blkRowFar {w : World} {b s : Nat} {cs : Array Value} {T : TypeId} (k : Blk w b cs T) (h : b ≠ s) (ds : Array Value) : Blk (w.setRow s ds) b cs T := (FoP.Fr.row (S := [s]) s ds (by simp)).blk k (by simpa using h)
theorem last_results {w : World} {g0 g1 : Nat} {n : Int} {cs : Array Value} {tmps : Array Value} (h4 : tmps.getD 4 undef = .pointer (some ⟨g0, 0, none⟩)) (h5 : tmps.getD 5 undef = .pointer (some ⟨g1, 0, none⟩)) (B0 : Blk w g0 #[.int .i64 n] 3) (B1 : Blk w g1 cs 97) (hi : (Try.prog.info? 97).map (·.size) = some cs.size) :
    (results Try.f44 tmps).run Try.prog w = .ok (.tuple #[.int .i64 n, .agg cs]) w := by
  have hp : tmps[4]?.getD undef = .pointer (some ⟨g0, 0, none⟩) := by simpa using h4
  have hp2 : tmps[5]?.getD undef = .pointer (some ⟨g1, 0, none⟩) := by simpa using h5
  have hc := B0.at 0 rfl
  have hr := run_loadVar_row w g1 97 97 cs (0, 0) _ B1.h Try.underlying97 rfl hi
  have hr0 : (loadVar 3 ⟨g0, 0, none⟩).run Try.prog w = .ok (.int .i64 n) w := by simp [go_sem, hc]
  simp [results, Try.f44, asAddr, hp, hp2, hr0, hr]
theorem blk_put {W : World} {b l : Nat} {o : Obj} {cs : Array Value} {T : TypeId} (h : Blk W b cs T) (hl : W.heap[l]? = some o) (ho : o.isCells = false) (o' : Obj) : Blk (W.putObj l o') b cs T :=
  blk_kept h (grownBy_putObj' W l o') (fun r e => by cases e; exact ⟨o, hl, ho⟩)
set_option maxRecDepth 100000 in
set_option maxHeartbeats 4000000 in
theorem last_in (F : Fence) (n : Nat) (h44 : F.fn 44) (h59 : F.fn 59) (h64 : F.fn 64) (hro : F.round = none) (hn : 3 ≤ n) (E : Nat) (R : List Ch) (cell : Int) (w : World) (hR : ChRow w.heap.size w E R) (hl : R.length ≤ 100) :
    CallsIn F n Try.prog 44 #[.pointer (some ⟨E, 0, none⟩), .int .i64 cell] w fun e W' => ((e = .returned (.tuple #[.int .i64 (-1), .agg chz]) ∧ ∀ j (hj : j < R.length), R[j].2.cell ≠ cell) ∨
      (∃ i, ∃ hi : i < R.length, e = .returned (.tuple #[.int .i64 (i : Int), .agg (chA R[i])]) ∧ R[i].2.cell = cell ∧ ∀ j (hj : j < R.length), i < j → R[j].2.cell ≠ cell)) ∧ Below w.heap.size w W' := by
  have h1 : 1 ≤ n := by omega
  refine callsIn_of_wp_marks Try.func44 rfl h44 ?_ hro
  simp only [Try.ntmps44, List.size_toArray, List.length_cons, List.length_nil, Nat.reduceAdd, Nat.reduceSub, Array.replicate_succ, Array.replicate_zero, List.push_toArray, List.append_toArray, List.nil_append, List.cons_append]
  gi_wp2_with (gi_at_call 59; refine (back_in F (n - 1) h59 hro _ _).mono ?_; rintro e w' ⟨rfl, rfl⟩)
  have hB0 : Below w.heap.size w ((((w.alloc (.cells #[.int .i64 cell] 3)).alloc (.cells #[.int .i64 0] 3)).alloc (.cells chz 97)).alloc (.cells #[.pointer (some ⟨E, 0, none⟩)] 31)) := by (repeat (first | exact Below.refl _ _ | assumption | refine below_alloc2 ?_ (by first | exact Nat.le_refl _ | omega) _ | refine Below.drew ?_ | refine below_drewN ?_ _ | refine below_push2 ?_ ‹_› (by first | exact Nat.le_refl _ | omega) | refine Below.setCell ?_ (by first | (simp; done) | (simp; omega) | omega) _))
  have bC := (((Blk.new w #[.int .i64 cell] 3).alloc (.cells #[.int .i64 0] 3)).alloc (.cells chz 97)).alloc (.cells #[.pointer (some ⟨E, 0, none⟩)] 31)
  have b0 := ((Blk.new (w.alloc (.cells #[.int .i64 cell] 3)) #[.int .i64 0] 3).alloc (.cells chz 97)).alloc (.cells #[.pointer (some ⟨E, 0, none⟩)] 31)
  have b1 := (Blk.new ((w.alloc (.cells #[.int .i64 cell] 3)).alloc (.cells #[.int .i64 0] 3)) chz 97).alloc (.cells #[.pointer (some ⟨E, 0, none⟩)] 31)
  have bE := Blk.new (((w.alloc (.cells #[.int .i64 cell] 3)).alloc (.cells #[.int .i64 0] 3)).alloc (.cells chz 97)) #[.pointer (some ⟨E, 0, none⟩)] 31
  have hsz : ((((w.alloc (.cells #[.int .i64 cell] 3)).alloc (.cells #[.int .i64 0] 3)).alloc (.cells chz 97)).alloc (.cells #[.pointer (some ⟨E, 0, none⟩)] 31)).heap.size = w.heap.size + 4 := by simp
  simp only [World.size_alloc] at b0 b1 bE
  obtain ⟨W0, hW0⟩ : ∃ W0, (((w.alloc (.cells #[.int .i64 cell] 3)).alloc (.cells #[.int .i64 0] 3)).alloc (.cells chz 97)).alloc (.cells #[.pointer (some ⟨E, 0, none⟩)] 31) = W0 := ⟨_, rfl⟩
  rw [hW0] at bC b0 b1 bE hB0 hsz ⊢
  clear hW0
  have hR0 : ChRow W0.heap.size W0 E R := by
    obtain ⟨hE, ca, cc, q1, q2⟩ := hR.below hB0
    refine ⟨by omega, ca, cc, q1, fun hp => ?_⟩
    obtain ⟨b, off, e, hb, hcr⟩ := q2 hp
    exact ⟨b, off, e, by omega, hcr⟩
  refine wpIn_rangeFunc_ownH hro h1 (gf := 64) (lb := #[.pointer (some ⟨w.heap.size + 1 + 1 + 1, 0, none⟩)]) rfl h64 (enters_of Try.func64 (by kernel_rfl) rfl)
    (back_stops F (n - 1) h64 hro (by omega) (w.heap.size + 1 + 1 + 1) W0.heap.size E R W0 (by omega) (Nat.le_refl _) hl (bE.at 0 rfl) hR0) belowK_t (belowK_b (Nat.le_refl _)) (Below.refl _ _) (fun _ => rfl)
    (fun pre W => ((∀ y ∈ pre, y.2.2.cell ≠ cell) ∧ Blk W w.heap.size #[.int .i64 cell] 3 ∧ Blk W (w.heap.size + 1) #[.int .i64 0] 3 ∧ Blk W (w.heap.size + 1 + 1) chz 97) ∧ Below W0.heap.size W0 W)
    (fun c pre W => (c = .ret ∧ ∃ pre' x, pre = pre' ++ [x] ∧ (∀ y ∈ pre', y.2.2.cell ≠ cell) ∧ x.2.2.cell = cell ∧ Blk W (w.heap.size + 1) #[.int .i64 (x.1 : Int)] 3 ∧ Blk W (w.heap.size + 1 + 1) (chA x.2) 97) ∧ Below w.heap.size w W)
    (OwnFrom.and (Own.from (fun s A B row hs hg hr => ⟨hs.1, blk_kept hs.2.1 hg hr, blk_kept hs.2.2.1 hg hr, blk_kept hs.2.2.2 hg hr⟩) _) (ownFrom_below (Nat.le_refl _) (Nat.le_refl _)))
    (fun c => OwnFrom.and (Own.from (fun s A B row hs hg hr => by
      obtain ⟨h1, p, x, h2, h3, h4, h5, h6⟩ := hs
      exact ⟨h1, p, x, h2, h3, h4, blk_kept h5 hg hr, blk_kept h6 hg hr⟩) _) (ownFrom_below (Nat.le_refl _) (by omega)))
    ⟨⟨by simp, bC, b0, b1⟩, Below.refl _ _⟩
    (fun x a' W => ∃ Bx, w.heap.size + 4 ≤ Bx ∧ Blk W Bx (chA x.2) 97 ∧ a' = { tmps := #[.pointer (some ⟨E, 0, none⟩), .int .i64 cell, undef, .pointer (some ⟨w.heap.size, 0, none⟩), .pointer (some ⟨w.heap.size + 1, 0, none⟩), .pointer (some ⟨w.heap.size + 1 + 1, 0, none⟩), .int .i64 (x.1 : Int), .pointer (some ⟨Bx, 0, none⟩), .pointer (some ⟨E, 0, none⟩), .func (.func 64) #[] #[.pointer (some ⟨w.heap.size + 1 + 1 + 1, 0, none⟩)], .int .i64 (x.1 : Int), .agg (chA x.2), undef, undef, undef, undef, undef, undef, undef], defers := [] })
    (fun x a' s A B row hs hg hr => by
      obtain ⟨Bx, h1, h2, h3⟩ := hs
      exact ⟨Bx, h1, blk_kept h2 hg (fun r e => (hr r e).2), h3⟩) ?assign ?body ?done ?stop
  case assign =>
    rintro l pre x W K ⟨⟨hp, hc, h0, h1⟩, hB⟩ hK
    gi_wp2_with (refine wpListIn_store_row rfl 97 _ _ rfl _ _ rfl rfl 97 _ (Blk.new W _ _).h (by kernel_rfl) (by rfl) (by kernel_rfl) ?_; rw [World.setRow_alloc_new])
    exact hK _ _ ((KeepsOthers.alloc _ _).from _) ((Below.refl _ W).alloc hB.size _) ⟨⟨hp, hc.alloc _, h0.alloc _, h1.alloc _⟩, hB.alloc hB.size _⟩ ⟨W.heap.size, by have := hB.size; omega, Blk.new W _ _, rfl⟩
  case body =>
    rintro l pre x a' W hl ⟨r, hr⟩ ⟨⟨hp, hc, h0, h1⟩, hB⟩ ⟨Bx, hBx, bX, rfl⟩ hlt
    have x0 : W.cell? ⟨Bx, 0, none⟩ = some (.int .i64 x.2.2.cell) := bX.at 0 rfl
    have cc := hc.at 0 rfl
    have c0 := h0.at 0 rfl
    have f0 := h0.free 0
    by_cases he : x.2.2.cell = cell
    · have hbt : (x.2.2.cell == cell) = true := by simpa using he
      gi_wp2
      have bXd := bX.drew
      have h1d := Blk.far h1.drew ⟨w.heap.size + 1, 0, none⟩ (.int .i64 (x.1 : Int)) (by simp)
      have c0d := h0.drew.at 0 rfl
      have f0d := h0.drew.free 0
      have hkf : Hid (KeepsFrom W0.heap.size W ((W.drew.setCell ⟨w.heap.size + 1, 0, none⟩ (.int .i64 (x.1 : Int))).setRow (w.heap.size + 1 + 1) (chA x.2))) := Lib.hid ((((KeepsOthers.drew W).trans (KeepsOthers.setCell _ _ _)).trans (keeps_row h1d _)).from _)
      have hix : Hid (∃ pre' y, pre ++ [x] = pre' ++ [y] ∧ (∀ z ∈ pre', z.2.2.cell ≠ cell) ∧ y.2.2.cell = cell ∧ Blk ((W.drew.setCell ⟨w.heap.size + 1, 0, none⟩ (.int .i64 (x.1 : Int))).setRow (w.heap.size + 1 + 1) (chA x.2)) (w.heap.size + 1) #[.int .i64 (y.1 : Int)] 3 ∧ Blk ((W.drew.setCell ⟨w.heap.size + 1, 0, none⟩ (.int .i64 (x.1 : Int))).setRow (w.heap.size + 1 + 1) (chA x.2)) (w.heap.size + 1 + 1) (chA y.2) 97) := Lib.hid ⟨pre, x, rfl, hp, he, blkRowFar (by simpa using h0.drew.set 0 (.int .i64 (x.1 : Int))) (by omega) _, blkRow h1d _⟩
      have hbw : Hid (Below w.heap.size w ((W.drew.setCell ⟨w.heap.size + 1, 0, none⟩ (.int .i64 (x.1 : Int))).setRow (w.heap.size + 1 + 1) (chA x.2))) := Lib.hid (below_setRow ((below_push2 hB0 hB (by omega)).drew.setCell (p := ⟨w.heap.size + 1, 0, none⟩) (by simp) _) (show w.heap.size ≤ w.heap.size + 1 + 1 by omega) _)
      replace hsz := Lib.hid hsz
      refine wpIn_region_any (by kernel_rfl) ?_
      change wpAnyIn _ _ _ _ _ _ _ _ _ (World.drew _)
      refine wpAnyIn_ready (rs := [0, 1]) (by kernel_rfl) (by simp) ?_
      refine AllReadyIn.cons rfl (fun K hK => ?_) (AllReadyIn.cons rfl (fun K hK => ?_) AllReadyIn.nil)
      · go_simp
        refine hK _ _ ?_
        clear hK K
        refine wpAnyIn_ready (rs := [1, 2]) (by kernel_rfl) (by simp) ?_
        refine AllReadyIn.cons rfl (fun K hK => ?_) (AllReadyIn.cons rfl (fun K hK => ?_) AllReadyIn.nil)
        · rw [if_pos (by rfl)]
          refine wpIn_load_row 97 _ rfl Bx rfl 97 _ (0, 0) _ bXd.h Try.underlying97 rfl (by kernel_rfl) ?_
          refine hK _ _ ?_
          clear hK K
          refine wpAnyIn_ready (rs := [2]) (by kernel_rfl) (by simp) ?_
          refine AllReadyIn.cons rfl (fun K hK => ?_) AllReadyIn.nil
          go_simp
          refine hK _ _ ?_
          clear hK K
          refine wpAnyIn_ready (rs := [3]) (by kernel_rfl) (by simp) ?_
          refine AllReadyIn.cons rfl (fun K hK => ?_) AllReadyIn.nil
          rw [if_pos (by rfl)]
          refine wpIn_store_row 97 _ _ rfl (w.heap.size + 1 + 1) (chA x.2) rfl rfl 97 _ h1d.h (by kernel_rfl) (by rfl) (by kernel_rfl) ?_
          refine hK _ _ ?_
          clear hK K
          refine wpAnyIn_done (by kernel_rfl) ?_ _
          gi_wp2
          exact ⟨hkf.out, ⟨rfl, hix.out⟩, hbw.out⟩
        · go_simp
          refine hK _ _ ?_
          clear hK K
          refine wpAnyIn_ready (rs := [1]) (by kernel_rfl) (by simp) ?_
          refine AllReadyIn.cons rfl (fun K hK => ?_) AllReadyIn.nil
          rw [if_pos (by rfl)]
          refine wpIn_load_row 97 _ rfl Bx rfl 97 _ (0, 0) _ (Blk.far bXd ⟨w.heap.size + 1, 0, none⟩ (.int .i64 (x.1 : Int)) (by simp; omega)).h Try.underlying97 rfl (by kernel_rfl) ?_
          refine hK _ _ ?_
          clear hK K
          refine wpAnyIn_ready (rs := [3]) (by kernel_rfl) (by simp) ?_
          refine AllReadyIn.cons rfl (fun K hK => ?_) AllReadyIn.nil
          rw [if_pos (by rfl)]
          refine wpIn_store_row 97 _ _ rfl (w.heap.size + 1 + 1) (chA x.2) rfl rfl 97 _ h1d.h (by kernel_rfl) (by rfl) (by kernel_rfl) ?_
          refine hK _ _ ?_
          clear hK K
          refine wpAnyIn_done (by kernel_rfl) ?_ _
          gi_wp2
          exact ⟨hkf.out, ⟨rfl, hix.out⟩, hbw.out⟩
      · rw [if_pos (by rfl)]
        refine wpIn_load_row 97 _ rfl Bx rfl 97 _ (0, 0) _ bXd.h Try.underlying97 rfl (by kernel_rfl) ?_
        refine hK _ _ ?_
        clear hK K
        refine wpAnyIn_ready (rs := [0]) (by kernel_rfl) (by simp) ?_
        refine AllReadyIn.cons rfl (fun K hK => ?_) AllReadyIn.nil
        go_simp
        refine hK _ _ ?_
        clear hK K
        refine wpAnyIn_ready (rs := [2]) (by kernel_rfl) (by simp) ?_
        refine AllReadyIn.cons rfl (fun K hK => ?_) AllReadyIn.nil
        go_simp
        refine hK _ _ ?_
        clear hK K
        refine wpAnyIn_ready (rs := [3]) (by kernel_rfl) (by simp) ?_
        refine AllReadyIn.cons rfl (fun K hK => ?_) AllReadyIn.nil
        rw [if_pos (by rfl)]
        refine wpIn_store_row 97 _ _ rfl (w.heap.size + 1 + 1) (chA x.2) rfl rfl 97 _ h1d.h (by kernel_rfl) (by rfl) (by kernel_rfl) ?_
        refine hK _ _ ?_
        clear hK K
        refine wpAnyIn_done (by kernel_rfl) ?_ _
        gi_wp2
        exact ⟨hkf.out, ⟨rfl, hix.out⟩, hbw.out⟩
    · have hbt : (x.2.2.cell == cell) = false := by simpa using he
      gi_wp2
      exact ⟨(KeepsOthers.refl _).from _, Below.refl _ _, ⟨fun y hy => (List.mem_append.1 hy).elim (hp y) (fun e => by simp at e; subst e; exact he), hc, h0, h1⟩, hB⟩
  case done =>
    rintro D ys W hD rfl ⟨⟨hne, _, h0, h1⟩, hB⟩ hK
    have c0 := h0.at 0 rfl
    have f0 := h0.free 0
    have h1s := Blk.far h1 ⟨w.heap.size + 1, 0, none⟩ (.int .i64 (-1)) (by simp)
    have B0 : Blk (W.setCell ⟨w.heap.size + 1, 0, none⟩ (.int .i64 (-1))) (w.heap.size + 1) #[.int .i64 (-1)] 3 := by simpa using h0.set 0 (.int .i64 (-1))
    have hk := ((KeepsOthers.setCell W ⟨w.heap.size + 1, 0, none⟩ (.int .i64 (-1))).trans (keeps_row h1s chz)).same D _ hK rfl
    have B0' := blkRowFar B0 (s := w.heap.size + 1 + 1) (by omega) chz
    have B1' := blkRow h1s chz
    have hW : Below w.heap.size w W := below_push2 hB0 hB (by omega)
    have hW' := below_setRow (hW.setCell (p := ⟨w.heap.size + 1, 0, none⟩) (by simp) (.int .i64 (-1))) (show w.heap.size ≤ w.heap.size + 1 + 1 by omega) chz
    have hD2 : w.heap.size ≤ D := by omega
    replace hsz := Lib.hid hsz
    gi_wp2_with (refine wpListIn_store_row rfl 97 _ _ rfl (w.heap.size + 1 + 1) chz rfl rfl 97 _ h1s.h (by kernel_rfl) (by rfl) (by kernel_rfl) ?_)
    refine ⟨by simp, .inl ⟨_, _, rfl, run_takeDeferred hk, ?_⟩⟩
    refine ⟨_, last_results rfl rfl (blk_put B0' hk rfl _) (blk_put B1' hk rfl _) (by kernel_rfl), .inl ⟨rfl, fun j hj => ?_⟩, hW'.trans (belowK_b (w := w) (Nat.le_refl _) _ D _ _ hD2 hk rfl rfl)⟩
    have := hne (fromBack R (R.length - 1 - j)) (List.mem_map.2 ⟨_, List.mem_range.2 (by omega), rfl⟩)
    unfold fromBack at this
    rw [show R.length - 1 - (R.length - 1 - j) = j by omega, List.getD_eq_getElem?_getD, List.getElem?_eq_getElem hj] at this
    exact this
  case stop =>
    rintro D c pre W hD ⟨k, hk, hpre⟩ ⟨⟨rfl, pre', x, rfl, hne, hx, h0, h1⟩, hB⟩ hK
    have hD2 : w.heap.size ≤ D := by omega
    replace hsz := Lib.hid hsz
    gi_wp2
    refine ⟨by simp, .inl ⟨_, _, rfl, run_takeDeferred hK, ?_⟩⟩
    refine ⟨_, last_results rfl rfl (blk_put h0 hK rfl _) (blk_put h1 hK rfl _) (by kernel_rfl), .inr ?_, hB.trans (belowK_b (w := w) (Nat.le_refl _) W D _ _ hD2 hK rfl rfl)⟩
    have hk1 : k = pre'.length + 1 := by
      have := congrArg List.length hpre
      rw [upto_length] at this
      simpa using this.symm
    subst hk1
    rw [upto_succ] at hpre
    obtain ⟨e1, e2⟩ := List.append_inj' hpre rfl
    simp only [List.cons.injEq, and_true] at e2
    have hl2 : R.length - 1 - pre'.length < R.length := by omega
    have hfb : fromBack R pre'.length = (R.length - 1 - pre'.length, R[R.length - 1 - pre'.length]) := by
      unfold fromBack
      rw [List.getD_eq_getElem?_getD, List.getElem?_eq_getElem hl2]
      rfl
    rw [hfb] at e2
    subst e2
    refine ⟨_, hl2, rfl, hx, fun j hj hlt => ?_⟩
    have := hne (fromBack R (R.length - 1 - j)) (by rw [e1]; exact List.mem_map.2 ⟨_, List.mem_range.2 (by omega), rfl⟩)
    unfold fromBack at this
    rw [show R.length - 1 - (R.length - 1 - j) = j by omega, List.getD_eq_getElem?_getD, List.getElem?_eq_getElem hj] at this
    exact this
/-- the last change of a cell -/
theorem last_any (E : Nat) (R : List Ch) (cell : Int) (w : World) (hR : ChRow w.heap.size w E R) (hl : R.length ≤ 100) :
    Calls Try.prog 44 #[.pointer (some ⟨E, 0, none⟩), .int .i64 cell] w fun e W' => ((e = .returned (.tuple #[.int .i64 (-1), .agg chz]) ∧ ∀ j (hj : j < R.length), R[j].2.cell ≠ cell) ∨
      (∃ i, ∃ hi : i < R.length, e = .returned (.tuple #[.int .i64 (i : Int), .agg (chA R[i])]) ∧ R[i].2.cell = cell ∧ ∀ j (hj : j < R.length), i < j → R[j].2.cell ≠ cell)) ∧ Below w.heap.size w W' :=
  (callsIn_wide (n := 3)).1 (last_in Fence.wide 3 trivial trivial trivial rfl (by omega) E R cell w hR hl)
end Go.Proofs.Ytbemgfpnoeogdaa.EdP

/-
  Elements that lie flat (no rows in them): their cells in a row, rows of records of them and back.
-/
namespace Go.Proofs.Ytbemgfpnoeogdaa.Dp
open Go.RowKit RefP
set_option linter.unusedVariables false
set_option linter.unusedSimpArgs false
/-- a codec whose things lie flat -/
structure Flat {α : Type} (C : Cod α) (L : α → List Value) : Prop where
  eq : ∀ {w S cs x}, C.rep w S cs x → cs = L x
  any : ∀ {w S w' S' cs x}, C.rep w S cs x → C.rep w' S' cs x
  pos : 0 < C.k
  len : ∀ x, (L x).length = C.k
  one : ∀ x, ∀ v ∈ L x, v.oneCell' = true
theorem flat_str : Flat strC (fun s => [.string s]) := ⟨fun h => h.1, fun h => h, by decide, fun _ => rfl, fun x v hv => by simp at hv; subst hv; rfl⟩
theorem flat_u64 : Flat u64C (fun n => [.int .u64 n]) := ⟨fun h => h.1, fun h => h, by decide, fun _ => rfl, fun x v hv => by simp at hv; subst hv; rfl⟩
theorem flat_i64 : Flat i64C (fun n => [.int .i64 n]) := ⟨fun h => h.1, fun h => h, by decide, fun _ => rfl, fun x v hv => by simp at hv; subst hv; rfl⟩
theorem flat_pair : Flat pairT pairL := ⟨fun h => (pairT_of h).1, fun h => by obtain ⟨rfl, o⟩ := pairT_of h; exact pairT_mk o, by decide, fun _ => rfl, fun x v hv => by simp [pairL] at hv; rcases hv with rfl | rfl <;> rfl⟩
theorem flat_step : Flat stepT stepL := ⟨fun h => (stepT_of h).1, fun h => by obtain ⟨rfl, o⟩ := stepT_of h; exact stepT_mk o, by decide, fun _ => rfl, fun x v hv => by simp [stepL] at hv; rcases hv with rfl | rfl | rfl | rfl | rfl <;> rfl⟩
section
variable {α : Type} {C : Cod α} {L : α → List Value}
/-- a cell of a row -/
theorem Flat.cell (F : Flat C L) {w : World} {S : List Nat} {h : Hd} {xs : List α} (H : HRow C w S h xs) (i : Nat) (hi : i < xs.length) :
    ∃ b off, h.a = some ⟨b, off, none⟩ ∧ b < w.heap.size ∧ ∀ j v, (L xs[i])[j]? = some v → w.cell? ⟨b, off + i * C.k + j, none⟩ = some v := by
  obtain ⟨b, off, e, hb, _, hc⟩ := H.row (by omega)
  obtain ⟨cs, hr, hv⟩ := hc i xs[i] (List.getElem?_eq_getElem hi)
  rw [F.eq hr] at hv
  exact ⟨b, off, e, hb, hv⟩
/-- the one block of a row -/
theorem Flat.cells (F : Flat C L) {w : World} {S : List Nat} {h : Hd} {xs : List α} (H : HRow C w S h xs) (h0 : 0 < xs.length) :
    ∃ b off, h.a = some ⟨b, off, none⟩ ∧ b < w.heap.size ∧ ∀ i (hi : i < xs.length) j v, (L xs[i])[j]? = some v → w.cell? ⟨b, off + i * C.k + j, none⟩ = some v := by
  obtain ⟨b, off, e, hb, _, hc⟩ := H.row h0
  refine ⟨b, off, e, hb, fun i hi j v hj => ?_⟩
  obtain ⟨cs, hr, hv⟩ := hc i xs[i] (List.getElem?_eq_getElem hi)
  rw [F.eq hr] at hv
  exact hv j v hj
abbrev flatF (L : α → List Value) (x : α) (j : Nat) : Value := (L x).getD j undef
theorem Flat.getD (F : Flat C L) (x : α) (j : Nat) (hj : j < C.k) : (L x)[j]? = some (flatF L x j) := by
  have : j < (L x).length := by rw [F.len]; exact hj
  simp [flatF, List.getD, this]
theorem Flat.oneF (F : Flat C L) (x : α) (j : Nat) (hj : j < C.k) : (flatF L x j).oneCell' = true :=
  F.one x _ (List.mem_of_getElem? (F.getD x j hj))
/-- a row is a row of records -/
theorem Flat.recs (F : Flat C L) {w : World} {S : List Nat} {h : Hd} {xs : List α} (d : α) (H : HRow C w S h xs) : RecS C.k (flatF L) d w h.a xs := by
  by_cases h0 : 0 < xs.length
  · obtain ⟨b, off, e, hb, hc⟩ := F.cells H h0
    refine ⟨⟨fun hm => ⟨b, off, e, hb, fun m hm => ?_⟩⟩⟩
    have hi := rec_div hm
    have hj := Nat.mod_lt m F.pos
    have e1 : m = m / C.k * C.k + m % C.k := by rw [Nat.mul_comm]; exact (Nat.div_add_mod m C.k).symm
    have := hc (m / C.k) hi (m % C.k) _ (F.getD _ _ hj)
    rw [Nat.add_assoc, ← e1] at this
    rw [this]
    simp [recF, List.getD_eq_getElem?_getD, hi]
  · obtain rfl : xs = [] := List.eq_nil_of_length_eq_zero (by omega)
    exact RecS.nil _ _ _ _ _
/-- what the elements of a row are -/
theorem HRow.all {w : World} {S : List Nat} {h : Hd} {xs : List α} (H : HRow C w S h xs) : ∀ x ∈ xs, ∃ cs, C.rep w S cs x := by
  intro x hx
  obtain ⟨i, hi, rfl⟩ := List.getElem_of_mem hx
  obtain ⟨b, off, e, hb, _, hc⟩ := H.row (by omega)
  obtain ⟨cs, hr, hv⟩ := hc i xs[i] (List.getElem?_eq_getElem hi)
  exact ⟨cs, hr⟩
/-- and back -/
theorem Flat.back (F : Flat C L) {w w0 : World} {S S0 : List Nat} {d : α} {a : Option Addr} {c : Nat} {xs : List α} (R : RecS C.k (flatF L) d w a xs) (hx : ∀ x ∈ xs, ∃ cs, C.rep w0 S0 cs x) (hS : ∀ b off, a = some ⟨b, off, none⟩ → b ∉ S) (hl : xs.length ≤ c) (hc : c ≤ maxLen) : HRow C w S ⟨a, c⟩ xs := by
  refine ⟨hl, hc, fun h0 => ?_⟩
  obtain ⟨b, off, e, hb, hcell⟩ := R.row.get (by have := rec_lt h0 F.pos; omega)
  refine ⟨b, off, e, hb, hS b off e, fun i x hi => ?_⟩
  have hil : i < xs.length := (List.getElem?_eq_some_iff.1 hi).1
  have hxi : x = xs[i] := by have := (List.getElem?_eq_some_iff.1 hi).2; exact this.symm
  subst hxi
  obtain ⟨cs, hr⟩ := hx _ (List.getElem_mem hil)
  have := F.eq hr
  subst this
  refine ⟨_, F.any hr, fun j v hj => ?_⟩
  have hjk : j < C.k := by rw [← F.len xs[i]]; exact (List.getElem?_eq_some_iff.1 hj).1
  have := hcell (i * C.k + j) (rec_lt hil hjk)
  rw [recF_at _ _ _ _ _ hjk, ← Nat.add_assoc] at this
  rw [this]
  have e2 : xs.getD i d = xs[i] := by simp [List.getD_eq_getElem?_getD, hil]
  rw [e2, ← F.getD xs[i] j hjk, hj]
/-- a block that has the cells of a row -/
theorem Flat.blk (F : Flat C L) {w w0 : World} {S S0 : List Nat} {b : Nat} {xs : List α} {T : TypeId} (d : α) (B : Blk w b (recA C.k (flatF L) d xs) T) (hx : ∀ x ∈ xs, ∃ cs, C.rep w0 S0 cs x) (hS : b ∉ S) (hl : xs.length ≤ maxLen) : HRow C w S ⟨some ⟨b, 0, none⟩, xs.length⟩ xs :=
  F.back (RecS.of_blk B) hx (fun b' off e => by injection e with e; injection e with e1; subst e1; exact hS) (Nat.le_refl _) hl
theorem Flat.hany (F : Flat C L) {w w0 : World} {S S0 : List Nat} {xs : List α} (h : ∀ x ∈ xs, ∃ cs, C.rep w0 S0 cs x) : ∀ x ∈ xs, ∃ cs, C.rep w S cs x := fun x hx => by
  obtain ⟨cs, hr⟩ := h x hx
  exact ⟨cs, F.any hr⟩
end
end Go.Proofs.Ytbemgfpnoeogdaa.Dp

/-
  Are two deep things the same? slices.Equal, and the Sames of the program and of the document: contracts.
-/
namespace Go.Proofs.Ytbemgfpnoeogdaa.Dp
open Go.RowKit RefP
set_option linter.unusedVariables false
set_option linter.unusedSimpArgs false
theorem eq_step {α : Type} {xs ys : List α} {k : Nat} (h : xs.take k = ys.take k) (hx : k < xs.length) (hy : k < ys.length) (e : xs[k] = ys[k]) : xs.take (k + 1) = ys.take (k + 1) := by
  rw [List.take_succ_eq_append_getElem hx, List.take_succ_eq_append_getElem hy, h, e]
theorem eq_not {α : Type} {xs ys : List α} {k : Nat} (hx : k < xs.length) (hy : k < ys.length) (e : xs[k] ≠ ys[k]) : xs ≠ ys := fun h => by subst h; exact e rfl
theorem eq_all {α : Type} {xs ys : List α} (h : xs.take xs.length = ys.take xs.length) (hl : xs.length = ys.length) : xs = ys := by
  rw [List.take_length] at h
  rw [h, hl, List.take_length]
theorem eq_len {α : Type} {xs ys : List α} (h : xs.length ≠ ys.length) : xs ≠ ys := fun e => h (by rw [e])
theorem sEq {x y : ByteArray} (h : (!x.toList == y.toList) = false) : x = y := (Lib.bytes_beq_iff x y).1 (by simpa using h)
theorem sNe {x y : ByteArray} (h : (!x.toList == y.toList) = true) : x ≠ y := (Lib.bytes_beq_false_iff x y).1 (by simpa using h)
theorem iEq {x y : Int} (h : (x != y) = false) : x = y := by simpa using h
theorem iNe {x y : Int} (h : (x != y) = true) : x ≠ y := by simpa using h
theorem dEq {α : Type} [DecidableEq α] {x y : α} (h : (!decide (x = y)) = false) : x = y := by simpa using h
theorem dNe {α : Type} [DecidableEq α] {x y : α} (h : (!decide (x = y)) = true) : x ≠ y := by simpa using h
theorem pEq {x1 y1 : ByteArray} {x2 y2 : Int} (h : (!decide (x1 = y1)) = false ∧ (!decide (x2 = y2)) = false) : PairV.mk x1 x2 = PairV.mk y1 y2 := by simpa using h
theorem pNe {x1 y1 : ByteArray} {x2 y2 : Int} (h : (!decide (x1 = y1)) = true ∨ (!decide (x2 = y2)) = true) : PairV.mk x1 x2 ≠ PairV.mk y1 y2 := by
  intro e
  injection e with e1 e2
  subst e1; subst e2
  simp at h
theorem tEq {x1 y1 x2 y2 x3 y3 x4 y4 : Int} {x5 y5 : Bool} (h : (!decide (x1 = y1)) = false ∧ (!decide (x2 = y2)) = false ∧ (!decide (x3 = y3)) = false ∧ (!decide (x4 = y4)) = false ∧ (!decide (x5 = y5)) = false) : StepV.mk x1 x2 x3 x4 x5 = StepV.mk y1 y2 y3 y4 y5 := by simpa using h
theorem tNe {x1 y1 x2 y2 x3 y3 x4 y4 : Int} {x5 y5 : Bool} (h : (!decide (x1 = y1)) = true ∨ (!decide (x2 = y2)) = true ∨ (!decide (x3 = y3)) = true ∨ (!decide (x4 = y4)) = true ∨ (!decide (x5 = y5)) = true) : StepV.mk x1 x2 x3 x4 x5 ≠ StepV.mk y1 y2 y3 y4 y5 := by
  intro e
  injection e with e1 e2 e3 e4 e5
  subst e1; subst e2; subst e3; subst e4; subst e5
  simp at h
end Go.Proofs.Ytbemgfpnoeogdaa.Dp

/-
  The document's Sames of rows, nodes, answers, blocks: contracts.
-/
namespace Go.Proofs.Ytbemgfpnoeogdaa.Dp
open Go.RowKit RefP
set_option linter.unusedVariables false
set_option linter.unusedSimpArgs false
set_option maxRecDepth 100000 in
set_option maxHeartbeats 1600000 in
theorem same04_any (S S' : List Nat) (h h' : Hd) (xs ys : List (ByteArray)) (w : World) (H : HRow strC w S h xs) (H' : HRow strC w S' h' ys) :
    Calls Try.prog 51 #[.slice h.a xs.length h.c, .slice h'.a ys.length h'.c] w fun e w' => e = .returned (.bool (decide (xs = ys))) ∧ Below w.heap.size w w' := by
  by_cases hl : xs.length = ys.length
  · have q0 : ((xs.length : Int) != (ys.length : Int)) = false := by simp; omega
    have hle := H.le
    have hcap := H.cap
    have hm : (maxLen : Nat) = 9223372036854775807 := by unfold maxLen; rfl
    go_enter Try.func51, Try.ntmps51
    go_wp2_with fail
    go_loopw [5] (fun i wr => ∃ k : Nat, k ≤ xs.length ∧ i = .int .i64 k ∧ Below w.heap.size w wr ∧ xs.take k = ys.take k) (fun i _ => xs.length - (intOf i).toNat)
    case atStart => exact ⟨0, Nat.zero_le _, rfl, Below.refl _ _, by simp⟩
    case round =>
      obtain ⟨k, hk, rfl, hB, hall⟩ := hrel
      by_cases hlt : k < xs.length
      · have hlt' : (k : Int) < (xs.length : Int) := by omega
        have hlty : k < ys.length := by omega
        have hlty' : (k : Int) < (ys.length : Int) := by omega
        obtain ⟨b, off, ha, hbl, hc⟩ := (flat_str).cell (H.keep (Keeps.of_below hB)) k hlt
        obtain ⟨b', off', ha', hbl', hc'⟩ := (flat_str).cell (H'.keep (Keeps.of_below hB)) k hlty
        rw [ha, ha']
        have hst := fun e => Lib.hid (eq_step hall hlt hlty e)
        have hno := fun e => Lib.hid (eq_not hlt hlty e)
        generalize hX : xs[k] = x at hc hst hno
        generalize hY : ys[k] = y at hc' hst hno
        clear hX hY hall
        have c0 : wr.cell? ⟨b, off + k, none⟩ = some (.string x) := by simpa [strC] using hc 0 _ rfl
        have d0 : wr.cell? ⟨b', off' + k, none⟩ = some (.string y) := by simpa [strC] using hc' 0 _ rfl
        go_upto_region 6 with (fail)
        go_quiet (fail)
        go_wp2_with fail
        · rename_i hq
          have hN := hno (sNe hq)
          go_ret
          exact ⟨by rw [decide_eq_false hN.out]; rfl, below_drewN hB _⟩
        · rename_i hq
          go_roundw
          case rel => exact ⟨k + 1, by omega, by go_num, below_drewN hB _, (hst (sEq hq)).out⟩
          case measure => simp [intOf]; omega
      · obtain rfl : k = xs.length := by omega
        have hR := Lib.hid (eq_all hall hl)
        clear hall
        go_wp2_with fail
        go_ret
        exact ⟨by rw [decide_eq_true hR.out]; rfl, hB⟩
  · have q0 : ((xs.length : Int) != (ys.length : Int)) = true := by simp; omega
    have hR := Lib.hid (eq_len hl)
    clear hl
    go_enter Try.func51, Try.ntmps51
    go_wp2_with fail
    go_ret
    exact ⟨by rw [decide_eq_false hR.out]; rfl, Below.refl _ _⟩
set_option maxRecDepth 100000 in
set_option maxHeartbeats 3200000 in
theorem same10_any (S S' : List Nat) (h h' : NodeH) (x y : NodeV) (w : World) (H : NodeOk w S h x) (H' : NodeOk w S' h' y) :
    Calls Try.prog 21 #[.agg (nodeA h x), .agg (nodeA h' y)] w fun e w' => e = .returned (.bool (decide (x = y))) ∧ Below w.heap.size w w' := by
  have hb : Below w.heap.size w ((w.alloc (.cells (nodeA h x) 26)).alloc (.cells (nodeA h' y) 26)) := by (repeat (first | exact Below.refl _ _ | assumption | refine below_alloc2 ?_ (by first | exact Nat.le_refl _ | omega) _ | refine Below.drew ?_ | refine below_drewN ?_ _ | refine below_push2 ?_ ‹_› (by first | exact Nat.le_refl _ | omega) | refine Below.setCell ?_ (by first | (simp; done) | (simp; omega) | omega) _))
  have BX := (Blk.new w (nodeA h x) 26).alloc (.cells (nodeA h' y) 26)
  have BY : Blk ((w.alloc (.cells (nodeA h x) 26)).alloc (.cells (nodeA h' y) 26)) (w.heap.size + 1) (nodeA h' y) 26 := by
    have := Blk.new (w.alloc (.cells (nodeA h x) 26)) (nodeA h' y) 26
    simpa using this
  generalize hW : (w.alloc (.cells (nodeA h x) 26)).alloc (.cells (nodeA h' y) 26) = w1 at hb BX BY
  replace hW := Lib.hid hW
  have x0 := BX.at 0 rfl
  have x1 := BX.at 1 rfl
  have x2 := BX.at 2 rfl
  have x3 := BX.at 3 rfl
  have x4 := BX.at 4 rfl
  have x5 := BX.at 5 rfl
  have x6 := BX.at 6 rfl
  have x7 := BX.at 7 rfl
  have y0 := BY.at 0 rfl
  have y1 := BY.at 1 rfl
  have y2 := BY.at 2 rfl
  have y3 := BY.at 3 rfl
  have y4 := BY.at 4 rfl
  have y5 := BY.at 5 rfl
  have y6 := BY.at 6 rfl
  have y7 := BY.at 7 rfl
  go_enter Try.func21, Try.ntmps21
  go_upto_region 1 with (fail)
  rw [hW.out]
  go_wp2_with fail
  all_goals first
    | (go_ret
       refine ⟨?_, hb⟩
       have hne : x ≠ y := by
         intro e
         subst e
         clear hb BX BY hW x0 x1 x2 x3 x4 x5 x6 x7 y0 y1 y2 y3 y4 y5 y6 y7 H H'
         simp_all
       rw [decide_eq_false hne]; rfl)
    | skip
  clear hW x0 x1 x2 x3 x4 x5 x6 x7 y0 y1 y2 y3 y4 y5 y6 y7
  have f2 : x.low = y.low := (Lib.bytes_beq_iff _ _).1 (by simpa using (show x.low.toList = y.low.toList by assumption))
  have f3 : x.high = y.high := (Lib.bytes_beq_iff _ _).1 (by simpa using (show x.high.toList = y.high.toList by assumption))
  have f5 : x.next = y.next := by simpa using (show (x.next != y.next) = false by assumption)
  have hE : Hid (x.level = y.level ∧ x.low = y.low ∧ x.high = y.high ∧ x.last = y.last ∧ x.next = y.next) := ⟨by assumption, f2, f3, by assumption, f5⟩
  clear f2 f3 f5
  refine (same04_any S S' h.keys h'.keys x.keys y.keys w1 (H.keys.keep (Keeps.of_below hb)) (H'.keys.keep (Keeps.of_below hb))).mono ?_
  rintro e w2 ⟨rfl, hb2⟩
  have hB := below_push2 hb hb2 (Nat.le_refl _)
  replace BX := BX.below hb2
  replace BY := BY.below hb2
  clear hb hb2
  have x0 := BX.at 0 rfl
  have x1 := BX.at 1 rfl
  have x2 := BX.at 2 rfl
  have x3 := BX.at 3 rfl
  have x4 := BX.at 4 rfl
  have x5 := BX.at 5 rfl
  have x6 := BX.at 6 rfl
  have x7 := BX.at 7 rfl
  have y0 := BY.at 0 rfl
  have y1 := BY.at 1 rfl
  have y2 := BY.at 2 rfl
  have y3 := BY.at 3 rfl
  have y4 := BY.at 4 rfl
  have y5 := BY.at 5 rfl
  have y6 := BY.at 6 rfl
  have y7 := BY.at 7 rfl
  have hm : (maxLen : Nat) = 9223372036854775807 := by unfold maxLen; rfl
  have v1 := H.vals.le
  have v2 := H.vals.cap
  have v3 := H.kids.le
  have v4 := H.kids.cap
  by_cases hk : x.keys = y.keys
  · rw [decide_eq_true hk]
    have hkH := Lib.hid hk
    by_cases hv : x.vals.length = y.vals.length
    · have q1 : ((x.vals.length : Int) != (y.vals.length : Int)) = false := by simp; omega
      by_cases hd : x.kids.length = y.kids.length
      · have q2 : ((x.kids.length : Int) != (y.kids.length : Int)) = false := by simp; omega
        have hv' := Lib.hid hv
        have hd' := Lib.hid hd
        clear hv hd hk
        go_wp2_with fail
        clear q1 q2 x0 x1 x2 x3 x4 x5 x6 x7 y0 y1 y2 y3 y4 y5 y6 y7
        go_loopw [5] (fun i wr => ∃ k : Nat, k ≤ x.vals.length ∧ i = .int .i64 k ∧ Below w.heap.size w wr ∧ Blk wr w.heap.size (nodeA h x) 26 ∧ Blk wr (w.heap.size + 1) (nodeA h' y) 26 ∧ x.vals.take k = y.vals.take k) (fun i _ => x.vals.length - (intOf i).toNat)
        case atStart => exact ⟨0, Nat.zero_le _, rfl, hB, BX, BY, by simp⟩
        clear BX BY hB
        obtain ⟨k, hk, rfl, hB, BX, BY, hall⟩ := hrel
        have x6 := BX.at 6 rfl
        have y6 := BY.at 6 rfl
        by_cases hlt : k < x.vals.length
        · have hlt' : (k : Int) < (x.vals.length : Int) := by omega
          have hlty : k < y.vals.length := by have := (hv').out; omega
          have hlty' : (k : Int) < (y.vals.length : Int) := by omega
          obtain ⟨b, off, ha, hbl, hc⟩ := (flat_u64).cell (H.vals.keep (Keeps.of_below hB)) k hlt
          obtain ⟨b', off', ha', hbl', hc'⟩ := (flat_u64).cell (H'.vals.keep (Keeps.of_below hB)) k hlty
          have hst := fun e => Lib.hid (eq_step hall hlt hlty e)
          have hno := fun e => Lib.hid (eq_not hlt hlty e)
          have c0 : wr.cell? ⟨b, off + k, none⟩ = some (.int .u64 x.vals[k]) := by simpa [intC] using hc 0 _ rfl
          have d0 : wr.cell? ⟨b', off' + k, none⟩ = some (.int .u64 y.vals[k]) := by simpa [intC] using hc' 0 _ rfl
          have p0 : wr.cell? ⟨w.heap.size, 6, none⟩ = some (.slice (some ⟨b, off, none⟩) x.vals.length h.vals.c) := by rw [← ha]; exact x6
          have p1 : wr.cell? ⟨w.heap.size + 1, 6, none⟩ = some (.slice (some ⟨b', off', none⟩) y.vals.length h'.vals.c) := by rw [← ha']; exact y6
          clear hc hc' ha ha' x6 y6 hall
          generalize x.vals[k] = a at c0 hst hno
          generalize y.vals[k] = c at d0 hst hno
          go_upto_region 8 with (fail)
          go_quiet (fail)
          have BX2 := BX.drewN nq
          have BY2 := BY.drewN nq
          go_wp2_with fail
          · rename_i hq
            have hN := Lib.hid (show x ≠ y from fun e => (hno (iNe hq)).out (by rw [e]))
            go_ret
            exact ⟨by rw [decide_eq_false hN.out]; rfl, below_drewN hB _⟩
          · rename_i hq
            go_roundw
            case rel => exact ⟨k + 1, by omega, by go_num, below_drewN hB _, BX2, BY2, (hst (iEq hq)).out⟩
            case measure => simp [intOf]; omega
        obtain rfl : k = x.vals.length := by omega
        have hRvals := Lib.hid (eq_all hall (hv').out)
        clear hall
        go_wp2_with fail
        go_loopw [6] (fun i wr => ∃ k : Nat, k ≤ x.kids.length ∧ i = .int .i64 k ∧ Below w.heap.size w wr ∧ Blk wr w.heap.size (nodeA h x) 26 ∧ Blk wr (w.heap.size + 1) (nodeA h' y) 26 ∧ x.kids.take k = y.kids.take k) (fun i _ => x.kids.length - (intOf i).toNat)
        case atStart => exact ⟨0, Nat.zero_le _, rfl, hB, BX, BY, by simp⟩
        clear BX BY hB
        obtain ⟨k, hk, rfl, hB, BX, BY, hall⟩ := hrel
        have x7 := BX.at 7 rfl
        have y7 := BY.at 7 rfl
        by_cases hlt : k < x.kids.length
        · have hlt' : (k : Int) < (x.kids.length : Int) := by omega
          have hlty : k < y.kids.length := by have := (hd').out; omega
          have hlty' : (k : Int) < (y.kids.length : Int) := by omega
          obtain ⟨b, off, ha, hbl, hc⟩ := (flat_i64).cell (H.kids.keep (Keeps.of_below hB)) k hlt
          obtain ⟨b', off', ha', hbl', hc'⟩ := (flat_i64).cell (H'.kids.keep (Keeps.of_below hB)) k hlty
          have hst := fun e => Lib.hid (eq_step hall hlt hlty e)
          have hno := fun e => Lib.hid (eq_not hlt hlty e)
          have c0 : wr.cell? ⟨b, off + k, none⟩ = some (.int .i64 x.kids[k]) := by simpa [intC] using hc 0 _ rfl
          have d0 : wr.cell? ⟨b', off' + k, none⟩ = some (.int .i64 y.kids[k]) := by simpa [intC] using hc' 0 _ rfl
          have p0 : wr.cell? ⟨w.heap.size, 7, none⟩ = some (.slice (some ⟨b, off, none⟩) x.kids.length h.kids.c) := by rw [← ha]; exact x7
          have p1 : wr.cell? ⟨w.heap.size + 1, 7, none⟩ = some (.slice (some ⟨b', off', none⟩) y.kids.length h'.kids.c) := by rw [← ha']; exact y7
          clear hc hc' ha ha' x7 y7 hall
          generalize x.kids[k] = a at c0 hst hno
          generalize y.kids[k] = c at d0 hst hno
          go_upto_region 13 with (fail)
          go_quiet (fail)
          have BX2 := BX.drewN nq
          have BY2 := BY.drewN nq
          go_wp2_with fail
          · rename_i hq
            have hN := Lib.hid (show x ≠ y from fun e => (hno (iNe hq)).out (by rw [e]))
            go_ret
            exact ⟨by rw [decide_eq_false hN.out]; rfl, below_drewN hB _⟩
          · rename_i hq
            go_roundw
            case rel => exact ⟨k + 1, by omega, by go_num, below_drewN hB _, BX2, BY2, (hst (iEq hq)).out⟩
            case measure => simp [intOf]; omega
        obtain rfl : k = x.kids.length := by omega
        have hRkids := Lib.hid (eq_all hall (hd').out)
        clear hall
        go_wp2_with fail
        go_ret
        exact ⟨by
          obtain ⟨g1, g2, g3, g4, g5⟩ := hE.out
          rw [decide_eq_true (show x = y by cases x; cases y; simp only [NodeV.mk.injEq]; exact ⟨g1, g2, g3, g4, g5, hkH.out, hRvals.out, hRkids.out⟩)]; rfl, hB⟩
      · have q2 : ((x.kids.length : Int) != (y.kids.length : Int)) = true := by simp; omega
        have hN := Lib.hid (show x ≠ y from fun e => hd (by rw [e]))
        clear hv hd hk
        go_wp2_with fail
        go_ret
        exact ⟨by rw [decide_eq_false hN.out]; rfl, hB⟩
    · have q1 : ((x.vals.length : Int) != (y.vals.length : Int)) = true := by simp; omega
      have hN := Lib.hid (show x ≠ y from fun e => hv (by rw [e]))
      clear hv hk
      go_wp2_with fail
      go_ret
      exact ⟨by rw [decide_eq_false hN.out]; rfl, hB⟩
  · rw [decide_eq_false hk]
    go_wp2_with fail
    go_ret
    exact ⟨by rw [decide_eq_false (fun e => hk (by rw [e]))]; rfl, hB⟩
end Go.Proofs.Ytbemgfpnoeogdaa.Dp

/-
  Deep copies: node.Clone, slices.Clone, memory's copied: contracts.
-/
namespace Go.Proofs.Ytbemgfpnoeogdaa.Dp
open Go.RowKit RefP FoP
set_option linter.unusedVariables false
set_option linter.unusedSimpArgs false
theorem copy_fr {P : Program} {w : World} {ops : Array Oper} {rest : List Oper} {o : Oper} {a : Act} {Q : Exit → Act → World → Prop} (hgd : o.guard = none) (d s : Operand) (dT sT : TypeId)
    (ho : o.op = .call { callee := .builtin .copy, args := #[d, s], argTypes := #[dT, sT] }) (elem : TypeId) (hu : P.underlying dT = some (.slice elem)) (hsz : (P.info? elem).map (·.size) = some 1)
    (dp sp : Option Addr) (dLen dCap sLen sCap : Nat) (hd : a.eval d = .slice dp dLen dCap) (hs : a.eval s = .slice sp sLen sCap)
    (g off : Nat) (cur : List Value) (t : TypeId) (hg : w.heap[g]? = some (.cells cur.toArray t (0, 0))) (cs : List Value) (hn : cs.length = Nat.min sLen dLen)
    (hpos : 0 < cs.length → dp = some ⟨g, off, none⟩ ∧ ∃ ad, sp = some ad ∧ ∀ j v, cs[j]? = some v → w.cell? (ad.add j) = some v)
    (hfit : off + cs.length ≤ cur.length) (h1 : ∀ v ∈ cs, v.oneCell' = true)
    (h : ∀ w', Hid (w'.heap[g]? = some (.cells (splice cur off cs).toArray t (0, 0))) → Fr [g] w w' → wpList P ops Q rest (a.put o.dst (goInt cs.length)) w') :
    wpList P ops Q (o :: rest) a w := by
  by_cases h0 : cs.length = 0
  · obtain rfl : cs = [] := List.eq_nil_of_length_eq_zero h0
    refine wpList_copy_nothing hgd d s dT sT ho elem hu hsz dp sp dLen dCap sLen sCap hd hs (by simpa using hn.symm) ?_
    exact h w (show _ = _ by simpa [splice] using hg) (Fr.refl _ _)
  · obtain ⟨rfl, ad, rfl, hsrc⟩ := hpos (by omega)
    refine wpList_copy_own hgd d s dT sT ho elem hu hsz g off dLen dCap ad sLen sCap hd hs cur.toArray t hg cs hn hsrc (by simpa using hfit) h1 ?_
    exact h _ (show _ = _ by simpa [splice] using setRow_heap w g _ _ t _ hg) (Fr.row g _ (by simp))
theorem add_off (b off i : Nat) : (⟨b, off, none⟩ : Addr).add i = ⟨b, off + i, none⟩ := by
  unfold Addr.add
  by_cases h : i = 0 <;> simp [h]
/-- the cells of a row of elements of one cell, in order -/
theorem src1 {α : Type} {C : Cod α} (f : α → Value) (F : Flat C (fun x => [f x])) {w : World} {S : List Nat} {h : Hd} {xs : List α} (H : HRow C w S h xs) : 0 < (xs.map f).length → ∃ ad, h.a = some ad ∧ ∀ j v, (xs.map f)[j]? = some v → w.cell? (ad.add j) = some v := by
  intro h0
  have hk : C.k = 1 := by
    cases xs with
    | nil => simp at h0
    | cons x _ => rw [← F.len x]; rfl
  obtain ⟨b, off, e, hb, hc⟩ := F.cells H (by simpa using h0)
  refine ⟨_, e, fun j v hj => ?_⟩
  rw [List.getElem?_map] at hj
  cases hx : xs[j]? with
  | none => simp [hx] at hj
  | some x =>
    simp [hx] at hj
    subst hj
    obtain ⟨hi, hxi⟩ := List.getElem?_eq_some_iff.1 hx
    have := hc j hi 0 _ rfl
    rw [hk, Nat.mul_one, Nat.add_zero, hxi] at this
    rw [add_off]; exact this
/-- a block that has them -/
theorem row1 {α : Type} {C : Cod α} (f : α → Value) (F : Flat C (fun x => [f x])) {w w0 : World} {S S0 : List Nat} {b : Nat} {xs : List α} {T : TypeId} (B : Blk w b (xs.map f).toArray T) (hx : ∀ x ∈ xs, ∃ cs, C.rep w0 S0 cs x) (hS : b ∉ S) (hl : xs.length ≤ maxLen) : HRow C w S ⟨some ⟨b, 0, none⟩, xs.length⟩ xs := by
  refine ⟨Nat.le_refl _, hl, fun h0 => ⟨b, 0, rfl, B.lt, hS, fun i x hi => ?_⟩⟩
  obtain ⟨hil, hxi⟩ := List.getElem?_eq_some_iff.1 hi
  subst hxi
  obtain ⟨cs, hr⟩ := hx _ (List.getElem_mem hil)
  have := F.eq hr
  subst this
  have hk : C.k = 1 := by rw [← F.len xs[i]]; rfl
  refine ⟨_, F.any hr, fun j v hj => ?_⟩
  cases j with
  | zero =>
    simp at hj
    subst hj
    rw [hk, Nat.mul_one, Nat.add_zero, Nat.zero_add]
    exact B.at i (by simp [hil])
  | succ j => simp at hj
/-- a row of zeros that was made -/
abbrev zrow (z : Value) (n : Nat) : Array Value := madeCells #[z] n
abbrev hd1 (b n : Nat) : Value := .slice (some ⟨b, 0, none⟩) n n
theorem infoS : (Try.prog.info? 9).map (fun i => (i.zero, i.size, i.bytes)) = some (some (.string ⟨#[]⟩), 1, 16) := by kernel_rfl
theorem infoU : (Try.prog.info? 51).map (fun i => (i.zero, i.size, i.bytes)) = some (some (.int .u64 0), 1, 8) := by kernel_rfl
theorem infoI : (Try.prog.info? 3).map (fun i => (i.zero, i.size, i.bytes)) = some (some (.int .i64 0), 1, 8) := by kernel_rfl
theorem mk_u {P : Program} (t e : TypeId) (z : Value) (by_ : Nat) (ht : P.underlying t = some (.slice e)) (hi : (P.info? e).map (fun i => (i.zero, i.size, i.bytes)) = some (some z, 1, by_)) (hz : z.cells = #[z]) (n : Nat) (hb : by_ * n ≤ 281474976710656) (h63 : n ≤ 9223372036854775807) (w : World) :
    (Instr.makeSlice t (.int .i64 (n : Int)) (.int .i64 (n : Int))).run P w = .ok (.slice (some ⟨w.heap.size, 0, none⟩) n n) (w.alloc (.cells (zrow z n) e)) := by
  obtain ⟨i0, hi, hz0, hz1, hz2⟩ := info_parts' hi
  have hb' : (i0.bytes : Int) * (n : Int) ≤ 281474976710656 := by
    have h : ((i0.bytes * n : Nat) : Int) ≤ 281474976710656 := by rw [hz2]; omega
    rwa [Int.natCast_mul] at h
  have hr := run_make (P := P) w t e i0 z ht hi hz0 .i64 .i64 n n (by omega) (by omega) hb' (by omega)
  simp only [Int.toNat_natCast, hz1, Nat.mul_one, hz] at hr
  exact hr
end Go.Proofs.Ytbemgfpnoeogdaa.Dp

/-
  node.Clone of any node: contract.
-/
namespace Go.Proofs.Ytbemgfpnoeogdaa.Dp
open Go.RowKit RefP FoP
set_option linter.unusedVariables false
set_option linter.unusedSimpArgs false
abbrev ndZ : Array Value := #[.int .i64 0, .string ⟨#[]⟩, .string ⟨#[]⟩, .bool false, .int .i64 0, .slice none 0 0, .slice none 0 0, .slice none 0 0]
theorem splice_all' {α : Type} (L cs : List α) (h : L.length = cs.length) : splice L 0 cs = cs := by simp [splice, ← h]
/-- what makes three rows leaves -/
structure Made3 (w0 w w' : World) (h : NodeH) (x : NodeV) (b1 b2 b3 : Nat) : Prop where
  below : Below w0.heap.size w0 w'
  n : Blk w' w0.heap.size (nodeA h x) 26
  r : Blk w' (w0.heap.size + 1) ndZ 26
  k : Blk w' b1 (zrow (.string ⟨#[]⟩) x.keys.length) 9
  v : Blk w' b2 (zrow (.int .u64 0) x.vals.length) 51
  d : Blk w' b3 (zrow (.int .i64 0) x.kids.length) 3
  ge : w0.heap.size + 2 ≤ b1 ∧ w0.heap.size + 2 ≤ b2 ∧ w0.heap.size + 2 ≤ b3
  ne : b1 ≠ b2 ∧ b1 ≠ b3 ∧ b2 ≠ b3
set_option maxRecDepth 100000 in
set_option maxHeartbeats 3200000 in
theorem nclone_any (S : List Nat) (h : NodeH) (x : NodeV) (w : World) (H : NodeOk w S h x) (hk : x.keys.length ≤ 1000) (hv : x.vals.length ≤ 1000) (hd : x.kids.length ≤ 1000) :
    Calls Try.prog 45 #[.agg (nodeA h x)] w fun e w' => (∃ h', e = .returned (.agg (nodeA h' x)) ∧ NodeOk w' (List.range w.heap.size) h' x) ∧ Below w.heap.size w w' := by
  have hb0 : Below w.heap.size w ((w.alloc (.cells (nodeA h x) 26)).alloc (.cells ndZ 26)) := by (repeat (first | exact Below.refl _ _ | assumption | refine below_alloc2 ?_ (by first | exact Nat.le_refl _ | omega) _ | refine Below.drew ?_ | refine below_drewN ?_ _ | refine below_push2 ?_ ‹_› (by first | exact Nat.le_refl _ | omega) | refine Below.setCell ?_ (by first | (simp; done) | (simp; omega) | omega) _))
  have BN := (Blk.new w (nodeA h x) 26).alloc (.cells ndZ 26)
  have BR : Blk ((w.alloc (.cells (nodeA h x) 26)).alloc (.cells ndZ 26)) (w.heap.size + 1) ndZ 26 := by
    have := Blk.new (w.alloc (.cells (nodeA h x) 26)) ndZ 26
    simpa using this
  have m1 := mk_u (P := Try.prog) 22 9 _ _ Try.underlying22 infoS (by simp [Value.cells]) x.keys.length (by omega) (by omega)
  have m2 := mk_u (P := Try.prog) 23 51 _ _ Try.underlying23 infoU (by simp [Value.cells]) x.vals.length (by omega) (by omega)
  have m3 := mk_u (P := Try.prog) 24 3 _ _ Try.underlying24 infoI (by simp [Value.cells]) x.kids.length (by omega) (by omega)
  have hs : ((w.alloc (.cells (nodeA h x) 26)).alloc (.cells ndZ 26)).heap.size = w.heap.size + 2 := by simp
  go_enter Try.func45, Try.ntmps45
  go_wp2_with fail
  generalize ((w.alloc (.cells (nodeA h x) 26)).alloc (.cells ndZ 26)) = w1 at hb0 BN BR hs ⊢
  have c5 := BN.at 5 rfl
  have c6 := BN.at 6 rfl
  have c7 := BN.at 7 rfl
  go_upto_region 1 with (fail)
  have f1 : ∀ (c : Array Value) (T : TypeId) (Y Z : Obj), Blk (((w1.alloc (.cells c T)).alloc Y).alloc Z).drew (w.heap.size + 2) c T := fun c T Y Z => by
    have := (((Blk.new w1 c T).alloc Y).alloc Z).drew
    rwa [hs] at this
  have f2 : ∀ (c : Array Value) (T : TypeId) (Y Z : Obj), Blk (((w1.alloc Y).alloc (.cells c T)).alloc Z).drew (w.heap.size + 2 + 1) c T := fun c T Y Z => by
    have := ((Blk.new (w1.alloc Y) c T).alloc Z).drew
    rwa [World.size_alloc, hs] at this
  have f3 : ∀ (c : Array Value) (T : TypeId) (Y Z : Obj), Blk (((w1.alloc Y).alloc Z).alloc (.cells c T)).drew (w.heap.size + 2 + 1 + 1) c T := fun c T Y Z => by
    have := (Blk.new ((w1.alloc Y).alloc Z) c T).drew
    rwa [World.size_alloc, World.size_alloc, hs] at this
  go_cut [3, 4, 5] (fun u3 u4 u5 wx => ∃ b1 b2 b3, u3 = hd1 b1 x.keys.length ∧ u4 = hd1 b2 x.vals.length ∧ u5 = hd1 b3 x.kids.length ∧ Made3 w w1 wx h x b1 b2 b3)
  case first =>
    go_region_held (fun w' => w'.cell? ⟨w.heap.size, 5, none⟩ = some (.slice h.keys.a x.keys.length h.keys.c) ∧ w'.cell? ⟨w.heap.size, 6, none⟩ = some (.slice h.vals.a x.vals.length h.vals.c) ∧ w'.cell? ⟨w.heap.size, 7, none⟩ = some (.slice h.kids.a x.kids.length h.kids.c)) (first | exact ⟨BN.drew.at 5 rfl, BN.drew.at 6 rfl, BN.drew.at 7 rfl⟩ | exact ⟨(BN.alloc _).drew.at 5 rfl, (BN.alloc _).drew.at 6 rfl, (BN.alloc _).drew.at 7 rfl⟩ | exact ⟨((BN.alloc _).alloc _).drew.at 5 rfl, ((BN.alloc _).alloc _).drew.at 6 rfl, ((BN.alloc _).alloc _).drew.at 7 rfl⟩ | exact ⟨(((BN.alloc _).alloc _).alloc _).drew.at 5 rfl, (((BN.alloc _).alloc _).alloc _).drew.at 6 rfl, (((BN.alloc _).alloc _).alloc _).drew.at 7 rfl⟩) (fail)
    all_goals
      go_wp2_with fail
      go_meet
      refine ⟨_, _, _, rfl, rfl, rfl, (((hb0.alloc (by omega) _).alloc (by simp; omega) _).alloc (by simp; omega) _).drew, (((BN.alloc _).alloc _).alloc _).drew, (((BR.alloc _).alloc _).alloc _).drew, ?_, ?_, ?_, ⟨by omega, by omega, by omega⟩, ⟨by omega, by omega, by omega⟩⟩ <;>
        first
          | exact f1 _ _ _ _
          | exact f2 _ _ _ _
          | exact f3 _ _ _ _
  case rest =>
    obtain ⟨b1, b2, b3, rfl, rfl, rfl, M⟩ := hcut
    clear hb0 BN BR c5 c6 c7 hs m1 m2 m3 f1 f2 f3
    have c5 := M.n.at 5 rfl
    have c6 := M.n.at 6 rfl
    have c7 := M.n.at 7 rfl
    have hkk := Keeps.of_below (S := S) M.below
    have kH := H.keep hkk
    have z1 : (Try.prog.info? 9).map (·.size) = some 1 := by kernel_rfl
    have z2 : (Try.prog.info? 51).map (·.size) = some 1 := by kernel_rfl
    have z3 : (Try.prog.info? 3).map (·.size) = some 1 := by kernel_rfl
    have l1 : (zrow (.string ⟨#[]⟩) x.keys.length).toList.length = (x.keys.map Value.string).length := by simp [size_madeCells]
    have l2 : (zrow (.int .u64 0) x.vals.length).toList.length = (x.vals.map (Value.int .u64)).length := by simp [size_madeCells]
    have l3 : (zrow (.int .i64 0) x.kids.length).toList.length = (x.kids.map (Value.int .i64)).length := by simp [size_madeCells]
    have n1 : (x.keys.map Value.string).length = Nat.min x.keys.length x.keys.length := by simp
    have n2 : (x.vals.map (Value.int .u64)).length = Nat.min x.vals.length x.vals.length := by simp
    have n3 : (x.kids.map (Value.int .i64)).length = Nat.min x.kids.length x.kids.length := by simp
    have h1 : wc.heap[b1]? = some (.cells (zrow (.string ⟨#[]⟩) x.keys.length).toList.toArray 9 (0, 0)) := by simpa using M.k.h
    have hl := M.below.size
    obtain ⟨ge1, ge2, ge3⟩ := M.ge
    obtain ⟨ne1, ne2, ne3⟩ := M.ne
    go_upto_region 2 with (fail)
    go_upto_region 3 with (refine copy_fr (o := ⟨some _, _, _, _, _, _⟩) rfl _ _ 22 22 rfl 9 Try.underlying22 z1 _ _ _ _ _ _ (by rfl) (by rfl) b1 0 (zrow (.string ⟨#[]⟩) x.keys.length).toList 9 h1 (x.keys.map Value.string) n1 (fun h0 => ⟨rfl, src1 Value.string flat_str kH.keys h0⟩) (by omega) (fun v hv => by simp at hv; obtain ⟨s, _, rfl⟩ := hv; rfl) ?_; intro w2 hg2 hF2)
    have hg2' := hg2.out
    rw [splice_all' _ _ l1] at hg2'
    have BK : Blk w2 b1 (x.keys.map Value.string).toArray 9 := ⟨hg2'⟩
    have hB2 := hF2.below M.below (Nat.le_refl _) (by simp; omega)
    have N2 := hF2.blk M.n (by simp; omega)
    have R2 := hF2.blk M.r (by simp; omega)
    have V2 := hF2.blk M.v (by simp; omega)
    have D2 := hF2.blk M.d (by simp; omega)
    have kH2 := H.keep (Keeps.of_below (S := S) hB2)
    clear hg2 hg2' hF2 c5 c6 c7 kH hkk h1 M
    have h2 : w2.heap[b2]? = some (.cells (zrow (.int .u64 0) x.vals.length).toList.toArray 51 (0, 0)) := by simpa using V2.h
    have c6 := N2.at 6 rfl
    go_upto_region 4 with (refine copy_fr (o := ⟨some _, _, _, _, _, _⟩) rfl _ _ 23 23 rfl 51 Try.underlying23 z2 _ _ _ _ _ _ (by rfl) (by rfl) b2 0 (zrow (.int .u64 0) x.vals.length).toList 51 h2 (x.vals.map (Value.int .u64)) n2 (fun h0 => ⟨rfl, src1 (Value.int .u64) flat_u64 kH2.vals h0⟩) (by omega) (fun v hv => by simp at hv; obtain ⟨s, _, rfl⟩ := hv; rfl) ?_; intro w3 hg3 hF3)
    have hg3' := hg3.out
    rw [splice_all' _ _ l2] at hg3'
    have BV : Blk w3 b2 (x.vals.map (Value.int .u64)).toArray 51 := ⟨hg3'⟩
    have hB3 := hF3.below hB2 (Nat.le_refl _) (by simp; omega)
    have N3 := hF3.blk N2 (by simp; omega)
    have R3 := hF3.blk R2 (by simp; omega)
    have K3 := hF3.blk BK (by simp; omega)
    have D3 := hF3.blk D2 (by simp; omega)
    have kH3 := H.keep (Keeps.of_below (S := S) hB3)
    clear hg3 hg3' hF3 c6 kH2 h2 N2 R2 V2 D2 BK hB2
    have h3 : w3.heap[b3]? = some (.cells (zrow (.int .i64 0) x.kids.length).toList.toArray 3 (0, 0)) := by simpa using D3.h
    have c7 := N3.at 7 rfl
    go_upto_region 5 with (refine copy_fr (o := ⟨some _, _, _, _, _, _⟩) rfl _ _ 24 24 rfl 3 Try.underlying24 z3 _ _ _ _ _ _ (by rfl) (by rfl) b3 0 (zrow (.int .i64 0) x.kids.length).toList 3 h3 (x.kids.map (Value.int .i64)) n3 (fun h0 => ⟨rfl, src1 (Value.int .i64) flat_i64 kH3.kids h0⟩) (by omega) (fun v hv => by simp at hv; obtain ⟨s, _, rfl⟩ := hv; rfl) ?_; intro w4 hg4 hF4)
    have hg4' := hg4.out
    rw [splice_all' _ _ l3] at hg4'
    have D4 : Blk w4 b3 (x.kids.map (Value.int .i64)).toArray 3 := ⟨hg4'⟩
    have hB4 := hF4.below hB3 (Nat.le_refl _) (by simp; omega)
    have N4 := hF4.blk N3 (by simp; omega)
    have R4 := hF4.blk R3 (by simp; omega)
    have K4 := hF4.blk K3 (by simp; omega)
    have V4 := hF4.blk BV (by simp; omega)
    clear hg4 hg4' hF4 c7 kH3 h3 N3 R3 D3 K3 BV hB3
    have f5 := N4.free 5
    have f6 := N4.free 6
    have f7 := N4.free 7
    have c5 := N4.at 5 rfl
    have c6 := N4.at 6 rfl
    have c7 := N4.at 7 rfl
    generalize hh : (⟨⟨some ⟨b1, 0, none⟩, x.keys.length⟩, ⟨some ⟨b2, 0, none⟩, x.vals.length⟩, ⟨some ⟨b3, 0, none⟩, x.kids.length⟩⟩ : NodeH) = h'
    have BF : Blk (((w4.setCell ⟨w.heap.size, 5, none⟩ (hd1 b1 x.keys.length)).setCell ⟨w.heap.size, 6, none⟩ (hd1 b2 x.vals.length)).setCell ⟨w.heap.size, 7, none⟩ (hd1 b3 x.kids.length)) w.heap.size (nodeA h' x) 26 := by
      subst hh
      simpa [nodeA] using ((N4.set 5 (hd1 b1 x.keys.length)).set 6 (hd1 b2 x.vals.length)).set 7 (hd1 b3 x.kids.length)
    have far : ∀ {b : Nat} {cs : Array Value} {T : TypeId}, Blk w4 b cs T → b ≠ w.heap.size → Blk (((w4.setCell ⟨w.heap.size, 5, none⟩ (hd1 b1 x.keys.length)).setCell ⟨w.heap.size, 6, none⟩ (hd1 b2 x.vals.length)).setCell ⟨w.heap.size, 7, none⟩ (hd1 b3 x.kids.length)) b cs T := fun B hn =>
      ((B.far ⟨w.heap.size, 5, none⟩ _ hn).far ⟨w.heap.size, 6, none⟩ _ hn).far ⟨w.heap.size, 7, none⟩ _ hn
    have RF := far R4 (by omega)
    have KF := far K4 (by omega)
    have VF := far V4 (by omega)
    have DF := far D4 (by omega)
    have hbF := ((hB4.setCell (p := ⟨w.heap.size, 5, none⟩) (Nat.le_refl _) (hd1 b1 x.keys.length)).setCell (p := ⟨w.heap.size, 6, none⟩) (Nat.le_refl _) (hd1 b2 x.vals.length)).setCell (p := ⟨w.heap.size, 7, none⟩) (Nat.le_refl _) (hd1 b3 x.kids.length)
    go_wp2_with (first
      | (refine wpList_load_row rfl 26 _ rfl w.heap.size rfl 26 _ (0, 0) _ BF.h Try.underlying26 rfl (by kernel_rfl) ?_)
      | (refine wpList_store_row rfl 26 _ _ rfl (w.heap.size + 1) _ rfl rfl 26 _ RF.h (by kernel_rfl) (by rfl) (by kernel_rfl) ?_))
    refine bodyPost_ret (results_cell_row rfl _ _ (w.heap.size + 1) 26 (nodeA h' x) (0, 0) _ rfl (Blk.row RF (nodeA h' x)).h Try.underlying26 rfl (by kernel_rfl)) rfl ⟨⟨h', rfl, ?_⟩, below_setRow hbF (by omega) _⟩
    have hm : (maxLen : Nat) = 9223372036854775807 := by unfold maxLen; rfl
    have FR := Fr.row (S := [w.heap.size + 1]) (w := (((w4.setCell ⟨w.heap.size, 5, none⟩ (hd1 b1 x.keys.length)).setCell ⟨w.heap.size, 6, none⟩ (hd1 b2 x.vals.length)).setCell ⟨w.heap.size, 7, none⟩ (hd1 b3 x.kids.length))) (w.heap.size + 1) (nodeA h' x) (by simp)
    have K5 := FR.blk KF (by simp; omega)
    have V5 := FR.blk VF (by simp; omega)
    have D5 := FR.blk DF (by simp; omega)
    subst hh
    exact ⟨H.level, H.low, H.high, H.next, row1 Value.string flat_str K5 H.keys.all (by simp; omega) (by omega), row1 (Value.int .u64) flat_u64 V5 H.vals.all (by simp; omega) (by omega), row1 (Value.int .i64) flat_i64 D5 H.kids.all (by simp; omega) (by omega)⟩
end Go.Proofs.Ytbemgfpnoeogdaa.Dp

/-
  A view that is none: contracts.
-/
namespace Go.Proofs.Ytbemgfpnoeogdaa.FoP
open Go.RowKit RefP
set_option linter.unusedVariables false
set_option linter.unusedSimpArgs false
abbrev vwA (m : Option Nat) (sp : Option Addr) (sn sc : Nat) (k n : Int) : Array Value := #[.map m, .slice sp sn sc, .int .i64 k, .int .i64 n]
/-- a node's cells, of none -/
abbrev nd0 : Array Value := #[.int .i64 0, .string ⟨#[]⟩, .string ⟨#[]⟩, .bool false, .int .i64 0, .slice none 0 0, .slice none 0 0, .slice none 0 0]
/-- what is known of a cell, of none -/
abbrev kz : Array Value := #[.int .i64 0, .int .u64 0, .int .u64 0, .int .i64 0, .string ⟨#[]⟩, .string ⟨#[]⟩, .bool false, .int .i64 0, .slice none 0 0, .slice none 0 0, .slice none 0 0]
abbrev sz : Array Value := #[.int .i64 0, .int .u64 0]
abbrev nz (k n : Int) : Array Value := #[.int .i64 k, .int .i64 n]
/-- no view -/
def NoV (w : World) (v : Value) : Prop := v = .pointer none ∨ ∃ o, v = .pointer (some ⟨o, 0, none⟩) ∧ Blk w o (vwA none none 0 0 0 0) 88
theorem NoV.below {w w' : World} {v : Value} (h : NoV w v) (hb : Below w.heap.size w w') : NoV w' v := by
  rcases h with h | ⟨o, h, B⟩
  · exact .inl h
  · exact .inr ⟨o, h, B.below hb⟩
def cellB (n : Int) : Bool := decide (0 ≤ n) && decide (n < 8192)
theorem mapEq (r : Option Nat) (w : World) : (binOp .eql 86 (.map r) (.map none)).run Try.prog w = .ok (.bool r.isNone) w := run_eql_map_nil w _ _ _ r Try.underlying86
theorem none_no (w : World) (v : Value) (h : NoV w v) : Calls Try.prog 52 #[v] w fun e w' => e = .returned (.bool true) ∧ w' = w := by
  rcases h with rfl | ⟨o, rfl, B⟩
  · go_enter Try.func52, Try.ntmps52
    go_wp2_with fail
    go_ret
    exact ⟨rfl, rfl⟩
  · have c0 := B.at 0 rfl
    have hm := mapEq none
    go_enter Try.func52, Try.ntmps52
    go_wp2_with fail
    go_ret
    exact ⟨rfl, rfl⟩
theorem none_some {w : World} {o m : Nat} {sp : Option Addr} {sn sc : Nat} {k n : Int} {T : TypeId} (B : Blk w o (vwA (some m) sp sn sc k n) T) : Calls Try.prog 52 #[.pointer (some ⟨o, 0, none⟩)] w fun e w' => e = .returned (.bool false) ∧ w' = w := by
  have c0 := B.at 0 rfl
  have hm := mapEq (some m)
  go_enter Try.func52, Try.ntmps52
  go_wp2_with fail
  go_ret
  exact ⟨rfl, rfl⟩
theorem cell_any (w : World) (n : Int) : Calls Try.prog 53 #[.int .i64 n] w fun e w' => e = .returned (.bool (cellB n)) ∧ w' = w := by
  by_cases h0 : 0 ≤ n
  · by_cases h1 : n < 8192
    · go_enter Try.func53, Try.ntmps53
      go_wp2_with fail
      go_ret
      exact ⟨by simp [cellB, h0, h1], rfl⟩
    · go_enter Try.func53, Try.ntmps53
      go_wp2_with fail
      go_ret
      exact ⟨by simp [cellB, h0, h1], rfl⟩
  · go_enter Try.func53, Try.ntmps53
    go_wp2_with fail
    go_ret
    exact ⟨by simp [cellB]; omega, rfl⟩
theorem lack_no (w : World) (v : Value) (k n : Int) (h : NoV w v) : Calls Try.prog 56 #[v, .int .i64 k, .int .i64 n] w fun e w' => e = .returned (.tuple #[]) ∧ w' = w := by
  have hc := none_no w v h
  go_enter Try.func56, Try.ntmps56
  go_wp2_with fail
  refine hc.mono ?_
  rintro e w1 ⟨rfl, rfl⟩
  go_wp2_with fail
  go_end0
  exact ⟨rfl, rfl⟩
theorem giveup_no (w : World) (v : Value) (h : NoV w v) : Calls Try.prog 34 #[v] w fun e w' => e = .returned (.tuple #[]) ∧ w' = w := by
  go_enter Try.func34, Try.ntmps34
  go_wp2_with fail
  refine (lack_no w v 3 0 h).mono ?_
  rintro e w1 ⟨rfl, rfl⟩
  go_wp2_with fail
  go_end0
  exact ⟨rfl, rfl⟩
theorem again_no (w : World) (v : Value) (h : NoV w v) : Calls Try.prog 36 #[v] w fun e w' => e = .returned (.tuple #[]) ∧ w' = w := by
  go_enter Try.func36, Try.ntmps36
  go_wp2_with fail
  refine (none_no w v h).mono ?_
  rintro e w1 ⟨rfl, rfl⟩
  go_wp2_with fail
  go_end0
  exact ⟨rfl, rfl⟩
theorem spares_no (w : World) (v : Value) (h : NoV w v) : Calls Try.prog 39 #[v] w fun e w' => e = .returned (.int .i64 0) ∧ w' = w := by
  go_enter Try.func39, Try.ntmps39
  go_wp2_with fail
  refine (none_no w v h).mono ?_
  rintro e w1 ⟨rfl, rfl⟩
  go_wp2_with fail
  go_ret
  exact ⟨rfl, rfl⟩
theorem cells_no (w : World) (v : Value) (h : NoV w v) : Calls Try.prog 38 #[v] w fun e w' => e = .returned (.slice none 0 0) ∧ w' = w := by
  go_enter Try.func38, Try.ntmps38
  go_wp2_with fail
  refine (none_no w v h).mono ?_
  rintro e w1 ⟨rfl, rfl⟩
  go_wp2_with fail
  go_ret
  exact ⟨rfl, rfl⟩
theorem forget_no (w : World) (v : Value) (c : Int) (h : NoV w v) : Calls Try.prog 28 #[v, .int .i64 c] w fun e w' => e = .returned (.bool false) ∧ w' = w := by
  go_enter Try.func28, Try.ntmps28
  go_wp2_with fail
  refine (none_no w v h).mono ?_
  rintro e w1 ⟨rfl, rfl⟩
  go_wp2_with fail
  go_ret
  exact ⟨rfl, rfl⟩
theorem learn_no (w : World) (v : Value) (cs : Array Value) (h : NoV w v) : Calls Try.prog 24 #[v, .agg cs] w fun e w' => e = .returned (.bool false) ∧ Below w.heap.size w w' := by
  have h1 := h.below ((Below.refl _ w).alloc (Nat.le_refl _) (.cells cs 53))
  go_enter Try.func24, Try.ntmps24
  go_wp2_with fail
  refine (none_no _ v h1).mono ?_
  rintro e w1 ⟨rfl, rfl⟩
  go_wp2_with fail
  go_ret
  exact ⟨rfl, by (repeat (first | exact Below.refl _ _ | assumption | refine below_alloc2 ?_ (by first | exact Nat.le_refl _ | omega) _ | refine Below.drew ?_ | refine below_drewN ?_ _ | refine below_push2 ?_ ‹_› (by first | exact Nat.le_refl _ | omega) | refine Below.setCell ?_ (by first | (simp; done) | (simp; omega) | omega) _))⟩
theorem spare_no (w : World) (v : Value) (cs : Array Value) (h : NoV w v) : Calls Try.prog 26 #[v, .agg cs] w fun e w' => e = .returned (.bool false) ∧ Below w.heap.size w w' := by
  have h1 := h.below ((Below.refl _ w).alloc (Nat.le_refl _) (.cells cs 60))
  go_enter Try.func26, Try.ntmps26
  go_wp2_with fail
  refine (none_no _ v h1).mono ?_
  rintro e w1 ⟨rfl, rfl⟩
  go_wp2_with fail
  go_ret
  exact ⟨rfl, by (repeat (first | exact Below.refl _ _ | assumption | refine below_alloc2 ?_ (by first | exact Nat.le_refl _ | omega) _ | refine Below.drew ?_ | refine below_drewN ?_ _ | refine below_push2 ?_ ‹_› (by first | exact Nat.le_refl _ | omega) | refine Below.setCell ?_ (by first | (simp; done) | (simp; omega) | omega) _))⟩
theorem at_no (w : World) (v : Value) (c : Int) (h : NoV w v) : Calls Try.prog 30 #[v, .int .i64 c] w fun e w' => e = .returned (.tuple #[.agg kz, .bool false]) ∧ Below w.heap.size w w' := by
  have hb := (Below.refl w.heap.size w).alloc (Nat.le_refl _) (.cells kz 53)
  have h1 := h.below hb
  have BR := Blk.new w kz 53
  go_enter Try.func30, Try.ntmps30
  go_wp2_with fail
  refine (none_no _ v h1).mono ?_
  rintro e w1 ⟨rfl, rfl⟩
  go_wp2_with (refine wpList_store_row rfl 53 _ _ rfl w.heap.size _ rfl rfl 53 _ (BR).h (by kernel_rfl) (by rfl) (by kernel_rfl) ?_)
  refine bodyPost_ret (v := .tuple #[.agg (kz), .bool false]) (results_cell_tmp rfl _ _ w.heap.size 53 (kz) (0, 0) _ (.bool false) rfl rfl (Blk.row BR (kz)).h Try.underlying53 rfl (by kernel_rfl)) rfl ?_
  exact ⟨rfl, below_setRow hb (Nat.le_refl _) _⟩
theorem take_no (w : World) (v : Value) (c : Int) (h : NoV w v) : Calls Try.prog 32 #[v, .int .i64 c] w fun e w' => e = .returned (.tuple #[.agg sz, .bool false]) ∧ Below w.heap.size w w' := by
  have hb := (Below.refl w.heap.size w).alloc (Nat.le_refl _) (.cells sz 60)
  have h1 := h.below hb
  have BR := Blk.new w sz 60
  go_enter Try.func32, Try.ntmps32
  go_wp2_with fail
  refine (none_no _ v h1).mono ?_
  rintro e w1 ⟨rfl, rfl⟩
  go_wp2_with (refine wpList_store_row rfl 60 _ _ rfl w.heap.size _ rfl rfl 60 _ (BR).h (by kernel_rfl) (by rfl) (by kernel_rfl) ?_)
  refine bodyPost_ret (v := .tuple #[.agg (sz), .bool false]) (results_cell_tmp rfl _ _ w.heap.size 60 (sz) (0, 0) _ (.bool false) rfl rfl (Blk.row BR (sz)).h Try.underlying60 rfl (by kernel_rfl)) rfl ?_
  exact ⟨rfl, below_setRow hb (Nat.le_refl _) _⟩
theorem need_no (w : World) (v : Value) (h : NoV w v) : Calls Try.prog 40 #[v] w fun e w' => e = .returned (.agg (nz 3 0)) ∧ Below w.heap.size w w' := by
  have hb := (Below.refl w.heap.size w).alloc (Nat.le_refl _) (.cells (nz 0 0) 56)
  have h1 := h.below hb
  have BR := Blk.new w (nz 0 0) 56
  go_enter Try.func40, Try.ntmps40
  go_wp2_with fail
  refine (none_no _ v h1).mono ?_
  rintro e w1 ⟨rfl, rfl⟩
  go_wp2_with (refine wpList_store_row rfl 56 _ _ rfl w.heap.size _ rfl rfl 56 _ (BR).h (by kernel_rfl) (by rfl) (by kernel_rfl) ?_)
  refine bodyPost_ret (results_cell_row rfl _ _ w.heap.size 56 (nz 3 0) (0, 0) _ rfl (Blk.row BR (nz 3 0)).h Try.underlying56 rfl (by kernel_rfl)) rfl ?_
  exact ⟨rfl, below_setRow hb (Nat.le_refl _) _⟩
end Go.Proofs.Ytbemgfpnoeogdaa.FoP
