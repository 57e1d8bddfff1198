/-
  How a law's walk becomes the given statement: one generic step for every law that returns true and writes nothing that was there.
-/
import Derived.Test.YtpempcefgfmniaaRows
import Derived.WalkKit
import Derived.ProofKit
import Derived.OpenShut
import Derived.ShutString
import Derived.ChangeOld
import Derived.Below
import Derived.Carry
import Derived.Lib.SmallJoins
import Derived.Lib.Hide
import Derived.Lib.QuietBelow
import Derived.Deep.RegionHeld3
import Derived.OneCell
import Derived.Deep.AppendLies
import Derived.Laws.CopyOwn
import Derived.Laws.MakeOwn
import Derived.WalkLawsBesides
import Derived.WalkSpells
import Derived.Outline
import Derived.BigQuiet
import Derived.LoopTactic
import Derived.Laws.NewDeep
import Derived.RowKit
import Derived.Laws.BitsAllLaws
import Derived.Laws.BitsLemmas
import Derived.Deep.Slices
import Derived.StillTailTactics
import Derived.Deep.DeepCutAuto
import Derived.Deep.QuietTactic
import Derived.Deep.RegionWith

namespace Go.Proofs.Ytpempcefgfmniaa.Lift
open Go.ChangeShapes Go.WideShapes Go.ChangeAt Go.RowKit Go.Joins Go.Deep
set_option linter.unusedVariables false

theorem own : ownKnob Try.prog.godebug = none := by kernel_rfl
theorem laidOut : laidOutB Try.prog = true := by kernel_rfl

theorem cons_inv {H : Type} {enc : TypeId × Value → H} {P : Program} {w : World} {base : Nat} {spare : Nat → Bool} {held : Bool} {t : TypeId} {ts : List TypeId} {vs : List Value} {ds : List (DataW H)} {ps : List MemPlace}
    (h : DataW.TrodAll enc P w base spare held (t :: ts) vs ds ps) : ∃ v vs' d ds' p p', vs = v :: vs' ∧ ds = d :: ds' ∧ ps = p ++ p' ∧ DataW.Trod enc P w base spare held t v d p ∧ DataW.TrodAll enc P w base spare held ts vs' ds' p' := by
  obtain ⟨v, vs', d, ds', p, p', a, b, c, e, f⟩ := trodAll_cons h
  exact ⟨v, vs', d, ds', p, p', a, b, c, e, f⟩

theorem trodAll_below {H : Type} {enc : TypeId × Value → H} {P : Program} (hl : laidOutB P = true) {W W' : World} (hb : Below W.heap.size W W') :
    ∀ (ts : List TypeId) (vs : List Value) (ds : List (DataW H)) (ps : List MemPlace), (ts.all fun t => P.readableRec t && decide (t < P.types.size)) = true →
      DataW.TrodAll enc P W 0 (fun _ => true) true ts vs ds ps → DataW.TrodAll enc P W' 0 (fun b => decide (b < W.heap.size)) true ts vs ds ps := by
  intro ts
  induction ts with
  | nil =>
    intro vs ds ps _ h
    obtain ⟨rfl, rfl, rfl⟩ := trodAll_nil h
    exact trodAll_mk0
  | cons t ts ih =>
    intro vs ds ps ht h
    obtain ⟨v, vs', d, ds', p, p', rfl, rfl, rfl, h0, h1⟩ := cons_inv h
    have hlt : ∀ x ∈ p, x.block < W.heap.size := by
      obtain ⟨m, hm⟩ := h0
      exact DataW.trod_lt m _ _ _ hm
    simp only [List.all_cons, Bool.and_eq_true, decide_eq_true_eq] at ht
    exact trodAll_cons_mk (Below.trod hl ht.1.1 ht.1.2 h0 hb hlt) (ih vs' ds' p' ht.2 h1)

theorem trodAll_len {H : Type} {enc : TypeId × Value → H} {P : Program} {W : World} {base : Nat} {sp : Nat → Bool} {held : Bool} :
    ∀ (ts : List TypeId) (vs : List Value) (ds : List (DataW H)) (ps : List MemPlace), DataW.TrodAll enc P W base sp held ts vs ds ps → ds.length = ts.length := by
  intro ts
  induction ts with
  | nil =>
    intro vs ds ps h
    obtain ⟨rfl, rfl, rfl⟩ := trodAll_nil h
    rfl
  | cons t ts ih =>
    intro vs ds ps h
    obtain ⟨v, vs', d, ds', p, p', rfl, rfl, rfl, h0, h1⟩ := cons_inv h
    simp [ih vs' ds' p' h1]

/-- a parameter of any integer kind, any bool -/
theorem int_of {H : Type} {enc : TypeId × Value → H} {P : Program} {W : World} {base base' : Nat} {sp : Nat → Bool} {held : Bool} {t : TypeId} {k : IntKind} {v : Value} {d : DataW H} {p : List MemPlace} (ht : P.underlying t = some (.int k))
    (hv : Value.okWide P W .any base t v) (h : DataW.Trod enc P W base' sp held t v d p) : ∃ n : Int, v = .int k n ∧ (Lit.int k n).wf = true := by
  obtain ⟨x, rfl, _, _, wx⟩ := open_int ht hv h
  exact ⟨x, rfl, wx⟩
/-- a struct of three numbers, by value -/
theorem agg3_of {H : Type} {enc : TypeId × Value → H} {P : Program} {W : World} {base base' : Nat} {sp : Nat → Bool} {held : Bool} {t : TypeId} {f0 f1 f2 : Field} {k0 k1 k2 : IntKind} {v : Value} {d : DataW H} {p : List MemPlace}
    (ht : P.underlying t = some (.struct #[f0, f1, f2])) (hone : oneCellFields P #[f0, f1, f2] = true) (hC : P.cellsOf t = 3) (e0 : P.underlying f0.type = some (.int k0)) (e1 : P.underlying f1.type = some (.int k1)) (e2 : P.underlying f2.type = some (.int k2))
    (hv : Value.okWide P W .any base t v) (h : DataW.Trod enc P W base' sp held t v d p) : ∃ a b c : Int, v = .agg #[.int k0 a, .int k1 b, .int k2 c] ∧ (Lit.int k0 a).wf = true ∧ (Lit.int k1 b).wf = true ∧ (Lit.int k2 c).wf = true := by
  obtain ⟨c0, c1, c2, y0, y1, y2, m, rfl, _, _, hy0, hy1, hy2⟩ := Joins.open_agg3 ht hone hC hv h
  obtain ⟨a, ha, _, wa⟩ := DataW.trod_int e0 hy0
  obtain ⟨b, hb, _, wb⟩ := DataW.trod_int e1 hy1
  obtain ⟨c, hc, _, wc⟩ := DataW.trod_int e2 hy2
  simp only [List.cons.injEq, and_true] at ha hb hc
  subst ha hb hc
  exact ⟨a, b, c, rfl, wa, wb, wc⟩
theorem i64_range {x : Int} (h : (Lit.int .i64 x).wf = true) : -9223372036854775808 ≤ x ∧ x ≤ 9223372036854775807 := bounds_i64 h
theorem u64_range {x : Int} (h : (Lit.int .u64 x).wf = true) : 0 ≤ x ∧ x ≤ 18446744073709551615 := bounds_u64 h
theorem u8_range {x : Int} (h : (Lit.int .u8 x).wf = true) : 0 ≤ x ∧ x ≤ 255 := bounds_u8 h
theorem u16_range {x : Int} (h : (Lit.int .u16 x).wf = true) : 0 ≤ x ∧ x ≤ 65535 := bounds_u16 h
end Go.Proofs.Ytpempcefgfmniaa.Lift

/-
  Small lemmas on worlds, cells and ways of walking (no program in sight).
-/
namespace Go.Proofs.Ytpempcefgfmniaa.RefP
open Go.RowKit Go.Sort
set_option linter.unusedVariables false

theorem below_of_regrown {W w' : World} (h : ∃ p : Regrown, w' = grow (redrawn W p.d) p.os) : Below W.heap.size W w' := by
  obtain ⟨p, rfl⟩ := h
  exact below_regrown W p.d p.os
theorem World.cell?_alloc_some' {w : World} {a : Addr} {v : Value} {O : Obj} (h : w.cell? a = some v) : (w.alloc O).cell? a = some v := by
  rw [World.cell?_alloc_some _ _ _ (by simp [h])]; exact h
theorem World.cell?_alloc_new' (w : World) {C : Array Value} {T : TypeId} {v : Value} (i : Nat) (h : C[i]? = some v) : (w.alloc (.cells C T)).cell? ⟨w.heap.size, i, none⟩ = some v := by
  rw [World.cell?_alloc_new]; exact h
theorem below_push {B : Nat} {a b c : World} (h : Below B a b) (k : Below b.heap.size b c) (hB : B ≤ b.heap.size) : Below B a c := h.trans (k.mono hB)
theorem below_drewN {B : Nat} {a w : World} (h : Below B a w) (n : Nat) : Below B a (w.drewN n) := ⟨h.os, h.tape, h.output, h.size, h.block⟩
theorem World.size_drewN' (w : World) (n : Nat) : (w.drewN n).heap.size = w.heap.size := rfl
theorem below_box (w : World) (o : Obj) (n : Nat) : Below w.heap.size w ((w.alloc o).drewN n) :=
  ((Below.refl _ _).alloc (Nat.le_refl _) o).trans ⟨rfl, rfl, rfl, Nat.le_refl _, fun _ _ => rfl⟩
theorem bcell {W w1 : World} (hb : Below W.heap.size W w1) : (∀ b o, b < W.heap.size → w1.cell? ⟨b, o, none⟩ = W.cell? ⟨b, o, none⟩) ∧ (∀ b o, b < W.heap.size → w1.frozen? ⟨b, o, none⟩ = W.frozen? ⟨b, o, none⟩) :=
  ⟨fun b o h => hb.cell (p := ⟨b, o, none⟩) h, fun b o h => hb.frozen (p := ⟨b, o, none⟩) h⟩
theorem below_two {a b c : World} (h : Below a.heap.size a b) (k : Below b.heap.size b c) : Below a.heap.size a c := h.trans (k.mono h.size)
theorem below_call {w w1 : World} {o : Obj} (h : Below (w.alloc o).heap.size (w.alloc o) w1) : Below w.heap.size w w1 :=
  ((Below.refl _ _).alloc (Nat.le_refl _) o).trans (h.mono (by simp))
theorem ret_int {k : IntKind} {a b : Int} (h : a = b) : Ending.returned (.int k a) = .returned (.int k b) := by rw [h]
theorem ret_u64 {a b : Int} (h : a = b) : Ending.returned (.int .u64 a) = .returned (.int .u64 b) := by rw [h]
theorem ret_b {a b : Bool} (h : a = b) : Ending.returned (.bool a) = .returned (.bool b) := by rw [h]
theorem ret_3 {a b c d : Int} {x y : Bool} (h1 : a = b) (h2 : c = d) (h3 : x = y) : Ending.returned (.tuple #[.int .i64 a, .int .u64 c, .bool x]) = .returned (.tuple #[.int .i64 b, .int .u64 d, .bool y]) := by rw [h1, h2, h3]
theorem not_eq {s k : Int} (h : s ≠ k) : (s == k) = false := by simpa using h
end Go.Proofs.Ytpempcefgfmniaa.RefP

/-
  Rows of cells in memory: what stands in them, and that it stays.
-/
namespace Go.Proofs.Ytpempcefgfmniaa.RefP
open Go.RowKit
set_option linter.unusedVariables false
set_option linter.unusedSimpArgs false

theorem below_alloc2 {B : Nat} {a w : World} (h : Below B a w) (hB : B ≤ a.heap.size) (o : Obj) : Below B a (w.alloc o) := h.alloc (Nat.le_trans hB h.size) o
theorem below_push2 {B : Nat} {a b c : World} (h : Below B a b) (k : Below b.heap.size b c) (hB : B ≤ a.heap.size) : Below B a c := h.trans (k.mono (Nat.le_trans hB h.size))
/-- The m cells from address a on hold f 0, f 1, ..; nothing is said of a where m is 0. -/
structure Holds (w : World) (a : Option Addr) (m : Nat) (f : Nat → Value) : Prop where
  get : 0 < m → ∃ b off, a = some ⟨b, off, none⟩ ∧ b < w.heap.size ∧ ∀ i, i < m → w.cell? ⟨b, off + i, none⟩ = some (f i)
theorem Holds.below {w w' : World} {a : Option Addr} {m : Nat} {f : Nat → Value} (h : Holds w a m f) (hb : Below w.heap.size w w') : Holds w' a m f :=
  ⟨fun h0 => by
    obtain ⟨b, off, ha, hl, hc⟩ := h.get h0
    exact ⟨b, off, ha, Nat.lt_of_lt_of_le hl hb.size, fun i hi => (hb.cell (p := ⟨b, off + i, none⟩) hl).trans (hc i hi)⟩⟩
theorem Holds.nil (w : World) (a : Option Addr) (f : Nat → Value) : Holds w a 0 f := ⟨fun h => absurd h (by omega)⟩
theorem Holds.congr {w : World} {a : Option Addr} {m : Nat} {f g : Nat → Value} (h : Holds w a m f) (e : ∀ i, i < m → f i = g i) : Holds w a m g :=
  ⟨fun h0 => by
    obtain ⟨b, off, ha, hl, hc⟩ := h.get h0
    exact ⟨b, off, ha, hl, fun i hi => by rw [hc i hi, e i hi]⟩⟩

/-- the number at a place, 0 where there is none -/
def at0 (xs : List Int) (i : Nat) : Int := xs.getD i 0
theorem at0_of (xs : List Int) (i : Nat) (h : i < xs.length) : at0 xs i = xs[i] := by simp [at0, h]
theorem at0_mem (xs : List Int) (i : Nat) (h : i < xs.length) : at0 xs i ∈ xs := by rw [at0_of xs i h]; exact List.getElem_mem h
theorem at0_out (xs : List Int) (i : Nat) (h : xs.length ≤ i) : at0 xs i = 0 := by simp [at0, List.getElem?_eq_none h]
theorem at0_take (xs : List Int) (k i : Nat) (h : i < k) : at0 (xs.take k) i = at0 xs i := by simp [at0, List.getElem?_take, h]
theorem at0_append (xs ys : List Int) (i : Nat) (h : i < xs.length) : at0 (xs ++ ys) i = at0 xs i := by simp [at0, List.getElem?_append_left h]
theorem at0_snoc (xs : List Int) (x : Int) : at0 (xs ++ [x]) xs.length = x := by simp [at0]
theorem take_succ_at0 (xs : List Int) (k : Nat) (h : k < xs.length) : xs.take (k + 1) = xs.take k ++ [at0 xs k] := by
  rw [List.take_succ_eq_append_getElem h, at0_of xs k h]

/-- a row of words -/
def u64F (xs : List Int) (i : Nat) : Value := .int .u64 (at0 xs i)
structure U64s (w : World) (a : Option Addr) (xs : List Int) : Prop where
  row : Holds w a xs.length (u64F xs)
  rng : ∀ x ∈ xs, 0 ≤ x ∧ x ≤ 18446744073709551615
  len : xs.length ≤ 9223372036854775807
theorem U64s.below {w w' : World} {a : Option Addr} {xs : List Int} (h : U64s w a xs) (hb : Below w.heap.size w w') : U64s w' a xs := ⟨h.row.below hb, h.rng, h.len⟩
theorem U64s.nil (w : World) (a : Option Addr) : U64s w a [] := ⟨Holds.nil _ _ _, by simp, by simp⟩
theorem U64s.rngD {w : World} {a : Option Addr} {xs : List Int} (h : U64s w a xs) (i : Nat) : 0 ≤ at0 xs i ∧ at0 xs i ≤ 18446744073709551615 := by
  by_cases hi : i < xs.length
  · exact h.rng _ (at0_mem xs i hi)
  · rw [at0_out _ _ (by omega)]; omega
/-- the cell of a place -/
theorem U64s.cell {w : World} {a : Option Addr} {xs : List Int} (h : U64s w a xs) (k : Nat) (hk : k < xs.length) : ∃ b off, a = some ⟨b, off, none⟩ ∧ b < w.heap.size ∧ w.cell? ⟨b, off + k, none⟩ = some (.int .u64 (at0 xs k)) := by
  obtain ⟨b, off, ha, hl, hc⟩ := h.row.get (by omega)
  exact ⟨b, off, ha, hl, hc k hk⟩

/-! a block that is known whole, and may be written -/
structure Blk (w : World) (b : Nat) (cs : Array Value) (T : TypeId) : Prop where
  h : w.heap[b]? = some (.cells cs T (0, 0))
theorem Blk.lt {w : World} {b : Nat} {cs : Array Value} {T : TypeId} (k : Blk w b cs T) : b < w.heap.size := lt_of_block k.h
theorem Blk.cellAt {w : World} {b : Nat} {cs : Array Value} {T : TypeId} (k : Blk w b cs T) (i : Nat) : w.cell? ⟨b, i, none⟩ = cs[i]? := by simp [World.cell?, k.h]
theorem Blk.at {w : World} {b : Nat} {cs : Array Value} {T : TypeId} (k : Blk w b cs T) (i : Nat) {v : Value} (e : cs[i]? = some v) : w.cell? ⟨b, i, none⟩ = some v := (k.cellAt i).trans e
theorem Blk.free {w : World} {b : Nat} {cs : Array Value} {T : TypeId} (k : Blk w b cs T) (i : Nat) : w.frozen? ⟨b, i, none⟩ = false := by simp [World.frozen?, k.h]
theorem Blk.below {w w' : World} {b : Nat} {cs : Array Value} {T : TypeId} (k : Blk w b cs T) (hb : Below w.heap.size w w') : Blk w' b cs T := ⟨(hb.block b k.lt).trans k.h⟩
theorem Blk.alloc {w : World} {b : Nat} {cs : Array Value} {T : TypeId} (k : Blk w b cs T) (o : Obj) : Blk (w.alloc o) b cs T := ⟨(Below.heap_alloc w o b k.lt).trans k.h⟩
theorem Blk.new (w : World) (cs : Array Value) (T : TypeId) : Blk (w.alloc (.cells cs T)) w.heap.size cs T := ⟨heap_alloc_new w _⟩
theorem Blk.drew {w : World} {b : Nat} {cs : Array Value} {T : TypeId} (k : Blk w b cs T) : Blk w.drew b cs T := ⟨k.h⟩
theorem Blk.drewN {w : World} {b : Nat} {cs : Array Value} {T : TypeId} (k : Blk w b cs T) (n : Nat) : Blk (w.drewN n) b cs T := ⟨k.h⟩
theorem Blk.set {w : World} {b : Nat} {cs : Array Value} {T : TypeId} (k : Blk w b cs T) (i : Nat) (v : Value) : Blk (w.setCell ⟨b, i, none⟩ v) b (cs.setIfInBounds i v) T := by
  have hlt := k.lt
  have h' : w.heap[b] = .cells cs T (0, 0) := by simpa [Array.getElem?_eq_getElem hlt] using k.h
  refine ⟨?_⟩
  show (w.heap.modify b _)[b]? = _
  rw [Array.getElem?_eq_getElem (by simpa using hlt), Array.getElem_modify_self, h']
  rfl
theorem Blk.far {w : World} {b : Nat} {cs : Array Value} {T : TypeId} (k : Blk w b cs T) (a : Addr) (v : Value) (hne : b ≠ a.block) : Blk (w.setCell a v) b cs T := ⟨(Below.heap_setCell w a v b hne).trans k.h⟩
theorem Blk.grown {w w' : World} {b : Nat} {cs : Array Value} {T : TypeId} {row : Option Nat} (k : Blk w b cs T) (hg : w.grownBy w' row) (hne : some b ≠ row) : Blk w' b cs T := ⟨(hg.block b k.lt hne).trans k.h⟩
theorem Holds.of_owns {w : World} {base : Nat} {e : TypeId} {size : Nat} {a : Option Addr} {n c : Nat} {xs : List Value} (h : w.ownsRow base e size (.slice a n c) n xs) : Holds w a xs.length (fun i => xs.getD i undef) := by
  obtain ⟨h1, h2⟩ := h
  rcases h2 with ⟨hv, rfl⟩ | ⟨g, cap, cur, hv, hg, hh, hn, hc, hs, ht⟩
  · have : xs.length = 0 := by omega
    rw [this]; exact Holds.nil _ _ _
  · simp only [Value.slice.injEq] at hv
    obtain ⟨rfl, _, _⟩ := hv
    refine ⟨fun h0 => ⟨g, 0, rfl, lt_of_block hh, fun i hi => ?_⟩⟩
    have hi' : cur.toList[i]? = some (xs[i]) := by
      have e1 : (cur.toList.take (n * size))[i]? = some (xs[i]) := by rw [ht]; exact List.getElem?_eq_getElem hi
      rw [List.getElem?_take] at e1
      split at e1
      · exact e1
      · cases e1
    simp only [Nat.zero_add]
    simp only [World.cell?, hh]
    simpa [hi] using hi'

/-! rows of pairs of a number and a word (thread and phase) -/
def at2 (l : List (Int × Int)) (i : Nat) : Int × Int := l.getD i (0, 0)
theorem at2_of (l : List (Int × Int)) (i : Nat) (h : i < l.length) : at2 l i = l[i] := by simp [at2, h]
theorem at2_mem (l : List (Int × Int)) (i : Nat) (h : i < l.length) : at2 l i ∈ l := by rw [at2_of l i h]; exact List.getElem_mem h
theorem take_succ_at2 (l : List (Int × Int)) (k : Nat) (h : k < l.length) : l.take (k + 1) = l.take k ++ [at2 l k] := by
  rw [List.take_succ_eq_append_getElem h, at2_of l k h]
def candF (l : List (Int × Int)) (m : Nat) : Value := if m % 2 = 0 then .int .i64 (at2 l (m / 2)).1 else .int .u64 (at2 l (m / 2)).2
structure Cands (w : World) (a : Option Addr) (l : List (Int × Int)) : Prop where
  row : Holds w a (l.length * 2) (candF l)
  rng : ∀ c ∈ l, (-9223372036854775808 ≤ c.1 ∧ c.1 ≤ 9223372036854775807) ∧ 0 ≤ c.2 ∧ c.2 ≤ 18446744073709551615
  len : l.length ≤ 9223372036854775807
theorem Cands.below {w w' : World} {a : Option Addr} {l : List (Int × Int)} (h : Cands w a l) (hb : Below w.heap.size w w') : Cands w' a l := ⟨h.row.below hb, h.rng, h.len⟩
theorem Cands.cell {w : World} {a : Option Addr} {l : List (Int × Int)} (h : Cands w a l) (k : Nat) (hk : k < l.length) :
    ∃ b off, a = some ⟨b, off, none⟩ ∧ b < w.heap.size ∧ w.cell? ⟨b, off + k * 2, none⟩ = some (.int .i64 (at2 l k).1) ∧ w.cell? ⟨b, off + k * 2 + 1, none⟩ = some (.int .u64 (at2 l k).2) := by
  obtain ⟨b, off, ha, hl, hc⟩ := h.row.get (by omega)
  refine ⟨b, off, ha, hl, ?_, ?_⟩
  · rw [hc (k * 2) (by omega)]
    simp [candF]
  · have := hc (k * 2 + 1) (by omega)
    rw [← Nat.add_assoc] at this
    rw [this]
    have e1 : (k * 2 + 1) % 2 = 1 := by omega
    have e2 : (k * 2 + 1) / 2 = k := by omega
    simp [candF, e1, e2]
theorem Cands.rngD {w : World} {a : Option Addr} {l : List (Int × Int)} (h : Cands w a l) (k : Nat) (hk : k < l.length) : (-9223372036854775808 ≤ (at2 l k).1 ∧ (at2 l k).1 ≤ 9223372036854775807) ∧ 0 ≤ (at2 l k).2 ∧ (at2 l k).2 ≤ 18446744073709551615 := h.rng _ (at2_mem l k hk)

/-! n structs of k numbers: field j of the i-th is F i j, of kind K j -/
structure Nums (w : World) (a : Option Addr) (n k : Nat) (K : Nat → IntKind) (F : Nat → Nat → Int) : Prop where
  get : 0 < n → ∃ b off, a = some ⟨b, off, none⟩ ∧ b < w.heap.size ∧ ∀ i j, i < n → j < k → w.cell? ⟨b, off + (i * k + j), none⟩ = some (.int (K j) (F i j))
  wf : ∀ i j, i < n → j < k → (Lit.int (K j) (F i j)).wf = true
  len : n ≤ 9223372036854775807
theorem Nums.below {w w' : World} {a : Option Addr} {n k : Nat} {K : Nat → IntKind} {F : Nat → Nat → Int} (h : Nums w a n k K F) (hb : Below w.heap.size w w') : Nums w' a n k K F :=
  ⟨fun h0 => by
    obtain ⟨b, off, ha, hl, hc⟩ := h.get h0
    exact ⟨b, off, ha, Nat.lt_of_lt_of_le hl hb.size, fun i j hi hj => (hb.cell (p := ⟨b, off + (i * k + j), none⟩) hl).trans (hc i j hi hj)⟩, h.wf, h.len⟩
theorem Nums.nil (w : World) (a : Option Addr) (k : Nat) (K : Nat → IntKind) (F : Nat → Nat → Int) : Nums w a 0 k K F := ⟨fun h => absurd h (by omega), fun i j h => absurd h (by omega), by omega⟩
/-- the cells of the i-th -/
theorem Nums.cell {w : World} {a : Option Addr} {n k : Nat} {K : Nat → IntKind} {F : Nat → Nat → Int} (h : Nums w a n k K F) (i : Nat) (hi : i < n) :
    ∃ b off, a = some ⟨b, off, none⟩ ∧ b < w.heap.size ∧ ∀ j, j < k → w.cell? ⟨b, off + i * k + j, none⟩ = some (.int (K j) (F i j)) := by
  obtain ⟨b, off, ha, hl, hc⟩ := h.get (by omega)
  exact ⟨b, off, ha, hl, fun j hj => by rw [Nat.add_assoc]; exact hc i j hi hj⟩
end Go.Proofs.Ytpempcefgfmniaa.RefP

/-
  Rows that a call owns and appends to, in terms of what stands at each place.
-/
namespace Go.Proofs.Ytpempcefgfmniaa.RefP
open Go.RowKit
set_option linter.unusedVariables false
set_option linter.unusedSimpArgs false

theorem Holds.congr' {w : World} {a : Option Addr} {m m' : Nat} {f g : Nat → Value} (h : Holds w a m f) (hm : m' = m) (e : ∀ i, i < m' → f i = g i) : Holds w a m' g := by
  subst hm; exact h.congr e
def rowL (m : Nat) (f : Nat → Value) : List Value := (List.range m).map f
theorem rowL_length (m : Nat) (f : Nat → Value) : (rowL m f).length = m := by simp [rowL]
theorem rowL_get (m : Nat) (f : Nat → Value) (j : Nat) (u : Value) (h : (rowL m f)[j]? = some u) : j < m ∧ u = f j := by
  have hj : j < m := by
    rcases Nat.lt_or_ge j m with h' | h'
    · exact h'
    · rw [List.getElem?_eq_none (by rw [rowL_length]; exact h')] at h; cases h
  refine ⟨hj, ?_⟩
  simp only [rowL, List.getElem?_map, List.getElem?_range hj, Option.map_some, Option.some.injEq] at h
  exact h.symm
theorem rowL_at (m : Nat) (f : Nat → Value) (j : Nat) (h : j < m) : (rowL m f)[j]? = some (f j) := by
  simp [rowL, h]
theorem rowL_append (a b : Nat) (f g : Nat → Value) : rowL a f ++ rowL b g = rowL (a + b) (fun j => if j < a then f j else g (j - a)) := by
  apply List.ext_getElem?
  intro j
  by_cases h : j < a
  · rw [List.getElem?_append_left (by rw [rowL_length]; exact h), rowL_at a f j h, rowL_at _ _ j (by omega)]; simp [h]
  · by_cases h2 : j < a + b
    · rw [List.getElem?_append_right (by rw [rowL_length]; omega), rowL_length, rowL_at b g (j - a) (by omega), rowL_at _ _ j h2]; simp [h]
    · rw [List.getElem?_eq_none (by simp [rowL_length]; omega), List.getElem?_eq_none (by rw [rowL_length]; omega)]
theorem rowL_congr {m : Nat} {f g : Nat → Value} (h : ∀ j, j < m → f j = g j) : rowL m f = rowL m g :=
  List.map_congr_left (fun j hj => h j (List.mem_range.1 hj))
theorem rowL_mem {m : Nat} {f : Nat → Value} {u : Value} (h : u ∈ rowL m f) : ∃ j, j < m ∧ u = f j := by
  obtain ⟨j, hj, rfl⟩ := List.mem_map.1 h
  exact ⟨j, List.mem_range.1 hj, rfl⟩
theorem rowL_zero (f : Nat → Value) : rowL 0 f = [] := rfl

theorem add_plain' (b off i : Nat) : (⟨b, off, none⟩ : Addr).add i = ⟨b, off + i, none⟩ := by
  unfold Addr.add
  by_cases h : i = 0 <;> simp [h]
/-- the cells of a row, as what is appended -/
theorem Holds.news {w : World} {b off m : Nat} {f : Nat → Value} (h : Holds w (some ⟨b, off, none⟩) m f) : ∀ j u, (rowL m f)[j]? = some u → w.cell? ((⟨b, off, none⟩ : Addr).add j) = some u := by
  intro j u hj
  obtain ⟨hjm, rfl⟩ := rowL_get m f j u hj
  obtain ⟨b', off', ha, hl, hc⟩ := h.get (by omega)
  simp only [Option.some.injEq, Addr.mk.injEq, and_true] at ha
  obtain ⟨rfl, rfl⟩ := ha
  rw [add_plain']
  exact hc j hjm

/-- a row that the call owns: of n elements of size cells each -/
abbrev Owns (w : World) (base : Nat) (e : TypeId) (size : Nat) (a : Option Addr) (n c : Nat) (f : Nat → Value) : Prop := w.ownsRow base e size (.slice a n c) n (rowL (n * size) f)
theorem Owns.holds {w : World} {base : Nat} {e : TypeId} {size : Nat} {a : Option Addr} {n c : Nat} {f : Nat → Value} (h : Owns w base e size a n c f) : Holds w a (n * size) f := by
  have k := Holds.of_owns h
  rw [rowL_length] at k
  exact k.congr fun i hi => by simp [List.getD_eq_getElem?_getD, rowL_at _ f i hi]
theorem Owns.nil (w : World) (base : Nat) (e : TypeId) (size : Nat) (f : Nat → Value) : Owns w base e size none 0 0 f := by
  show w.ownsRow base e size (.slice none 0 0) 0 (rowL (0 * size) f)
  rw [Nat.zero_mul, rowL_zero]
  exact World.ownsRow_nil w base e size
theorem Owns.empty (w : World) (base : Nat) (e : TypeId) (size : Nat) (f : Nat → Value) (hb : base ≤ w.heap.size) : Owns (w.alloc (.cells #[] e)) base e size (some ⟨w.heap.size, 0, none⟩) 0 0 f := by
  show (w.alloc (.cells #[] e)).ownsRow base e size (.slice (some ⟨w.heap.size, 0, none⟩) 0 0) 0 (rowL (0 * size) f)
  rw [Nat.zero_mul, rowL_zero]
  simpa using World.ownsRow_lit (base := base) (e := e) (size := size) w #[] 0 hb (by decide) (by simp)
/-- its block -/
theorem Owns.blk {w : World} {base : Nat} {e : TypeId} {size : Nat} {a : Option Addr} {n c : Nat} {f : Nat → Value} (h : Owns w base e size a n c f) : ∀ b off, a = some ⟨b, off, none⟩ → base ≤ b := by
  intro b off ha
  subst ha
  exact (h.lt b rfl).1
theorem Owns.congr {w : World} {base : Nat} {e : TypeId} {size : Nat} {a : Option Addr} {n c : Nat} {f g : Nat → Value} (h : Owns w base e size a n c f) (k : ∀ j, j < n * size → f j = g j) : Owns w base e size a n c g := by
  show w.ownsRow base e size (.slice a n c) n (rowL (n * size) g)
  rw [← rowL_congr k]; exact h
/-- what an append tells: the run's equation, the row behind it -/
structure Appended (P : Program) (w : World) (t : TypeId) (base : Nat) (e : TypeId) (size : Nat) (a : Option Addr) (n c : Nat) (x : Value) (m : Nat) (f : Nat → Value) (g cap : Nat) (w' : World) : Prop where
  run : ∀ ty, (Builtin.append_ #[t, t] ty #[.slice a n c, x]).run P w = .ok (.slice (some ⟨g, 0, none⟩) (n + m) cap) w'
  own : Owns w' base e size (some ⟨g, 0, none⟩) (n + m) cap f
  grown : w.grownBy w' (Value.slice a n c).ownBlock
  lt : g < w'.heap.size
  below : ∀ w0, Below base w0 w → base ≤ w.heap.size → Below base w0 w'
  at' : (Value.slice a n c).ownBlock = some g ∨ g = w.heap.size
theorem appended {P : Program} {w : World} (t : TypeId) (base : Nat) (e : TypeId) (i : TypeInfo) (z : Value) (size bytes : Nat) (ht : P.underlying t = some (.slice e)) (hi : P.info? e = some i) (hz : i.zero = some z)
    (hsize : i.size = size) (hby : i.bytes = bytes) (hzs : z.cells.size = size) (hsz : 0 < size)
    {a : Option Addr} {n c : Nat} {f : Nat → Value} (hown : Owns w base e size a n c f)
    {b off m c' : Nat} {h : Nat → Value} (hnew : Holds w (some ⟨b, off, none⟩) (m * size) h) (h1 : ∀ j, j < m * size → (h j).oneCell' = true)
    (hm : 0 < m) (h63 : n + m ≤ maxLen) (hbytes : (n + m) * bytes ≤ 140737488355328) (hbase : base ≤ w.heap.size) :
    ∃ g cap w', Appended P w t base e size a n c (.slice (some ⟨b, off, none⟩) m c') m (fun j => if j < n * size then f j else h (j - n * size)) g cap w' := by
  have key : ∀ ty, ∃ g cap w', (Builtin.append_ #[t, t] ty #[.slice a n c, .slice (some ⟨b, off, none⟩) m c']).run P w = .ok (.slice (some ⟨g, 0, none⟩) (n + m) cap) w' ∧
      w'.ownsRow base e size (.slice (some ⟨g, 0, none⟩) (n + m) cap) (n + m) (rowL (n * size) f ++ rowL (m * size) h) ∧ w.grownBy w' (Value.slice a n c).ownBlock ∧ ((Value.slice a n c).ownBlock = some g ∨ g = w.heap.size) ∧ g < w'.heap.size := fun ty =>
    run_append_lies (P := P) (w := w) t ty base e i z size bytes ht hi hz hsize hby hzs hsz (.slice a n c) n (rowL (n * size) f) hown ⟨b, off, none⟩ m c' (rowL (m * size) h) (rowL_length _ _) hnew.news
      (fun u hu => by obtain ⟨j, hj, rfl⟩ := rowL_mem hu; exact h1 j hj) hm h63 hbytes hbase w.heap.size rfl
  obtain ⟨g, cap, w', hrun, hown', hgr, hat, hlt⟩ := key t
  refine ⟨g, cap, w', fun ty => ?_, ?_, hgr, hlt, fun w0 hb hs => hb.grown hgr hs (fun k e => (hown.lt k e).1), hat⟩
  · exact hrun
  · show w'.ownsRow base e size (.slice (some ⟨g, 0, none⟩) (n + m) cap) (n + m) (rowL ((n + m) * size) _)
    rw [rowL_append, ← Nat.add_mul] at hown'
    exact hown'

/-- at a builtin append: by its run's equation -/
theorem wp_append_run {P : Program} {w : World} {o : Oper} {a : Act} {K : Act → World → Prop} {Q : Exit → Act → World → Prop} {s x : Operand} {t : TypeId} {v v' r : Value} {w' : World}
    (hrun : ∀ ty, (Builtin.append_ #[t, t] ty #[v, v']).run P w = .ok r w')
    (ho : o.op = .call { callee := .builtin .append, args := #[s, x], argTypes := #[t, t] }) (hs : a.eval s = v) (hx : a.eval x = v')
    (h : K (a.put o.dst r) w') : o.wp P a w K Q := by
  unfold Oper.wp execOp
  simp only [ho, resolve, invoke, builtin, Sem.run_bind, Sem.run_pure, Result.andThen_ok, List.map_toArray, List.map_cons, List.map_nil, hs, hx, hrun]
  exact h
theorem wpList_append_run {P : Program} {w : World} {ops : Array Oper} {rest : List Oper} {o : Oper} {a : Act} {Q : Exit → Act → World → Prop} {s x : Operand} {t : TypeId} {v v' r : Value} {w' : World}
    (hrun : ∀ ty, (Builtin.append_ #[t, t] ty #[v, v']).run P w = .ok r w') (hgd : o.guard = none)
    (ho : o.op = .call { callee := .builtin .append, args := #[s, x], argTypes := #[t, t] }) (hs : a.eval s = v) (hx : a.eval x = v')
    (h : wpList P ops Q rest (a.put o.dst r) w') : wpList P ops Q (o :: rest) a w :=
  wpList_plain hgd fun _ hK => wp_append_run hrun ho hs hx (hK _ _ h)
/-- at a step of a region that draws its order -/
theorem step_append_run {P : Program} {w : World} {ops : Array Oper} {o : Oper} {a : Act} {K : Act → World → Prop} {Q : Exit → Act → World → Prop} {E : Prop} {s x : Operand} {t : TypeId} {v v' r : Value} {w' : World}
    (hrun : ∀ ty, (Builtin.append_ #[t, t] ty #[v, v']).run P w = .ok r w') (hgd : o.guard = none)
    (ho : o.op = .call { callee := .builtin .append, args := #[s, x], argTypes := #[t, t] }) (hs : a.eval s = v) (hx : a.eval x = v')
    (h : K (a.put o.dst r) w') : if Region.wanted o (yielded ops a.tmps) = true then Oper.wp P o a w K Q else E := by
  rw [if_pos (by simp [Region.wanted, hgd])]
  exact wp_append_run hrun ho hs hx h
end Go.Proofs.Ytpempcefgfmniaa.RefP

/-
  Rows of words that a call owns: appending one, appending a row, cloning.
-/
namespace Go.Proofs.Ytpempcefgfmniaa.RefP
open Go.RowKit
set_option linter.unusedVariables false
set_option linter.unusedSimpArgs false

theorem infoWord : (Try.prog.info? 22).map (fun i => (i.zero, i.size, i.bytes)) = some (some (.int .u64 0), 1, 8) := by kernel_rfl
theorem info_parts' {P : Program} {t : TypeId} {z : Value} {s b : Nat} (h : (P.info? t).map (fun i => (i.zero, i.size, i.bytes)) = some (some z, s, b)) : ∃ i, P.info? t = some i ∧ i.zero = some z ∧ i.size = s ∧ i.bytes = b := by
  cases hi : P.info? t with
  | none => rw [hi] at h; cases h
  | some i =>
    rw [hi] at h
    simp only [Option.map_some, Option.some.injEq, Prod.mk.injEq] at h
    exact ⟨i, rfl, h.1, h.2.1, h.2.2⟩
theorem Owns.below2 {w w' : World} {base : Nat} {e : TypeId} {size : Nat} {a : Option Addr} {n c : Nat} {f : Nat → Value} (h : Owns w base e size a n c f) (hb : Below w.heap.size w w') : Owns w' base e size a n c f :=
  World.ownsRow.kept h (row := none) ⟨hb.os, hb.tape, hb.output, hb.size, fun i hi _ => hb.block i hi⟩ (by cases (Value.slice a n c).ownBlock <;> simp)
theorem Holds.of_blk' {w : World} {b : Nat} {cs : Array Value} {T : TypeId} (B : Blk w b cs T) (m : Nat) (f : Nat → Value) (e : ∀ i, i < m → cs[i]? = some (f i)) : Holds w (some ⟨b, 0, none⟩) m f :=
  ⟨fun _ => ⟨b, 0, rfl, B.lt, fun i hi => by rw [Nat.zero_add]; exact B.at i (e i hi)⟩⟩
theorem u64F_append (xs ys : List Int) (j : Nat) : (if j < xs.length then u64F xs j else u64F ys (j - xs.length)) = u64F (xs ++ ys) j := by
  unfold u64F at0
  by_cases h : j < xs.length
  · rw [if_pos h]; simp [List.getElem?_append_left h]
  · rw [if_neg h]; simp [List.getElem?_append_right (show xs.length ≤ j by omega)]
/-- a row of words that a call owns -/
structure OwnsU (w : World) (base : Nat) (a : Option Addr) (c : Nat) (l : List Int) : Prop where
  own : Owns w base 22 1 a l.length c (u64F l)
  rng : ∀ x ∈ l, 0 ≤ x ∧ x ≤ 18446744073709551615
theorem OwnsU.below {w w' : World} {base : Nat} {a : Option Addr} {c : Nat} {l : List Int} (h : OwnsU w base a c l) (hb : Below w.heap.size w w') : OwnsU w' base a c l := ⟨h.own.below2 hb, h.rng⟩
theorem OwnsU.kept {w w' : World} {row : Option Nat} {base : Nat} {a : Option Addr} {c : Nat} {l : List Int} (h : OwnsU w base a c l) (hg : w.grownBy w' row) (hne : (Value.slice a l.length c).ownBlock = none ∨ (Value.slice a l.length c).ownBlock ≠ row) : OwnsU w' base a c l :=
  ⟨World.ownsRow.kept h.own hg hne, h.rng⟩
theorem OwnsU.nil (w : World) (base : Nat) : OwnsU w base none 0 [] := ⟨Owns.nil _ _ _ _ _, by simp⟩
theorem OwnsU.words {w : World} {base : Nat} {a : Option Addr} {c : Nat} {l : List Int} (h : OwnsU w base a c l) (hn : l.length ≤ 9223372036854775807) : U64s w a l :=
  ⟨by have := h.own.holds; rwa [Nat.mul_one] at this, h.rng, hn⟩
theorem OwnsU.lower {w : World} {base b' : Nat} {a : Option Addr} {c : Nat} {l : List Int} (h : OwnsU w base a c l) (hb : b' ≤ base) : OwnsU w b' a c l := by
  refine ⟨⟨h.own.1, ?_⟩, h.rng⟩
  rcases h.own.2 with k | ⟨g, cap, cur, e, hg, r⟩
  · exact .inl k
  · exact .inr ⟨g, cap, cur, e, Nat.le_trans hb hg, r⟩
/-- the block is not b, where one is -/
theorem OwnsU.far {w : World} {base : Nat} {a : Option Addr} {c : Nat} {l : List Int} (h : OwnsU w base a c l) (p : Addr) (v : Value) (hne : (Value.slice a l.length c).ownBlock ≠ some p.block) : OwnsU (w.setCell p v) base a c l :=
  h.kept (row := some p.block) ⟨rfl, rfl, rfl, by simp, fun i hi hn => Below.heap_setCell w p v i (fun e => hn (by rw [e]))⟩ (.inr hne)
theorem OwnsU.lt {w : World} {base : Nat} {a : Option Addr} {c : Nat} {l : List Int} (h : OwnsU w base a c l) (k : Nat) (e : (Value.slice a l.length c).ownBlock = some k) : base ≤ k ∧ k < w.heap.size := World.ownsRow.lt h.own k e

/-- what appending tells -/
structure AddedU (w : World) (base : Nat) (a : Option Addr) (c : Nat) (l : List Int) (v : Value) (m : Nat) (l' : List Int) (g cap : Nat) (w' : World) : Prop where
  run : ∀ ty, (Builtin.append_ #[24, 24] ty #[.slice a l.length c, v]).run Try.prog w = .ok (.slice (some ⟨g, 0, none⟩) (l.length + m) cap) w'
  own : OwnsU w' base (some ⟨g, 0, none⟩) cap l'
  grown : w.grownBy w' (Value.slice a l.length c).ownBlock
  lt : g < w'.heap.size
  ge : base ≤ g
  at' : (Value.slice a l.length c).ownBlock = some g ∨ g = w.heap.size
theorem AddedU.keeps {w : World} {base : Nat} {a : Option Addr} {c : Nat} {l : List Int} {v : Value} {m : Nat} {l' : List Int} {g cap : Nat} {w' : World} (A : AddedU w base a c l v m l' g cap w') (hl : ∀ k, (Value.slice a l.length c).ownBlock = some k → base ≤ k)
    (w0 : World) (B : Nat) (hB : B ≤ base) (h : Below B w0 w) (hs : base ≤ w.heap.size) : Below B w0 w' :=
  h.grown A.grown (Nat.le_trans hB hs) (fun k e => Nat.le_trans hB (hl k e))
/-- a row is appended -/
theorem addAll {w : World} (base : Nat) {a : Option Addr} {c : Nat} {l : List Int} (h : OwnsU w base a c l) {b : Option Addr} {c' : Nat} {xs : List Int} (hx : U64s w b xs) (h0 : 0 < xs.length) (hn : l.length + xs.length ≤ 65536) (hbase : base ≤ w.heap.size) :
    ∃ g cap w', AddedU w base a c l (.slice b xs.length c') xs.length (l ++ xs) g cap w' := by
  obtain ⟨i0, hi, hz0, hz1, hz2⟩ := info_parts' infoWord
  obtain ⟨bb, off, rfl, hbl, hc⟩ := hx.row.get h0
  obtain ⟨g, cap, w', A⟩ := appended (P := Try.prog) (c' := c') 24 base 22 i0 _ 1 8 Try.underlying24 hi hz0 hz1 hz2 rfl (by omega)
    h.own (show Holds w (some ⟨bb, off, none⟩) (xs.length * 1) (u64F xs) by rw [Nat.mul_one]; exact hx.row) (fun j hj => rfl) h0 (by unfold maxLen; omega) (by omega) hbase
  refine ⟨g, cap, w', A.run, ⟨?_, fun x hx' => ?_⟩, A.grown, A.lt, (World.ownsRow.lt A.own g rfl).1, A.at'⟩
  · rw [show (l ++ xs).length = l.length + xs.length by simp]
    refine A.own.congr fun j hj => ?_
    have := u64F_append l xs j
    simpa using this
  · rcases List.mem_append.1 hx' with hx' | hx'
    · exact h.rng _ hx'
    · exact hx.rng _ hx'
/-- one word is appended: its block is made ahead -/
theorem addOne {w : World} (base : Nat) {a : Option Addr} {c : Nat} {l : List Int} (h : OwnsU w base a c l) (x : Int) (hx : 0 ≤ x ∧ x ≤ 18446744073709551615) (hn : l.length + 1 ≤ 65536) (hbase : base ≤ w.heap.size) :
    ∃ g cap w', AddedU (w.alloc (.cells #[.int .u64 x] 22)) base a c l (.slice (some ⟨w.heap.size, 0, none⟩) 1 1) 1 (l ++ [x]) g cap w' := by
  have HX : U64s (w.alloc (.cells #[.int .u64 x] 22)) (some ⟨w.heap.size, 0, none⟩) [x] :=
    ⟨Holds.of_blk' (Blk.new w #[.int .u64 x] 22) _ _ (fun i hi => by rcases i with _ | i <;> first | rfl | (simp at hi; try omega)), by simpa using hx, by simp⟩
  exact addAll base (h.below ((Below.refl _ w).alloc (Nat.le_refl _) _)) (c' := 1) HX (by simp) (by simpa using hn) (by simp; omega)
/-- nothing is appended: the row stays (to an empty row of a block, or to nil: the model's answer is the row) -/
theorem ret_bool {a b : Bool} (h : a = b) : Ending.returned (.bool a) = .returned (.bool b) := by rw [h]
/-- what a function that makes a row of words answers -/
def WordsAt (w : World) (l : List Int) (e : Ending) (w' : World) : Prop :=
  ∃ a c, e = .returned (.slice a l.length c) ∧ OwnsU w' w.heap.size a c l ∧ Below w.heap.size w w'
end Go.Proofs.Ytpempcefgfmniaa.RefP

/-
  Rows of records of k cells, of a list of any plain thing: blocks known whole, rows read, rows owned and appended to. No program in sight but for the numbers of types that are handed in.
-/
namespace Go.Proofs.Ytpempcefgfmniaa.RefP
open Go.RowKit
set_option linter.unusedVariables false
set_option linter.unusedSimpArgs false

theorem _root_.Go.Calls.flip {P : Program} {f : FuncId} {args : Array Value} {w : World} {v : Value} (h : Calls P f args w fun e w' => e = .returned v ∧ w = w') : Calls P f args w fun e w' => e = .returned v ∧ w' = w :=
  h.mono fun _ _ h => ⟨h.1, h.2.symm⟩
/-- the m-th cell of a row of records of k cells -/
def recF {α : Type} (k : Nat) (f : α → Nat → Value) (d : α) (l : List α) (m : Nat) : Value := f (l.getD (m / k) d) (m % k)
theorem recF_at {α : Type} {k : Nat} (f : α → Nat → Value) (d : α) (l : List α) (i j : Nat) (hj : j < k) : recF k f d l (i * k + j) = f (l.getD i d) j := by
  have hk : 0 < k := by omega
  have e1 : (i * k + j) / k = i := by
    rw [Nat.add_comm, Nat.add_mul_div_right _ _ hk, Nat.div_eq_of_lt hj, Nat.zero_add]
  have e2 : (i * k + j) % k = j := by
    rw [Nat.add_comm, Nat.add_mul_mod_self_right, Nat.mod_eq_of_lt hj]
  simp only [recF, e1, e2]
theorem rec_lt {n k i j : Nat} (hi : i < n) (hj : j < k) : i * k + j < n * k :=
  Nat.lt_of_lt_of_le (by omega : i * k + j < i * k + k) (by rw [← Nat.succ_mul]; exact Nat.mul_le_mul_right k hi)
theorem rec_div {n k m : Nat} (hm : m < n * k) : m / k < n := Nat.div_lt_of_lt_mul (by rw [Nat.mul_comm]; exact hm)
theorem rec_pos {n k m : Nat} (hm : m < n * k) : 0 < k := Nat.pos_of_ne_zero (fun e => by subst e; simp at hm)
/-- the cells of a row known whole -/
def recA {α : Type} (k : Nat) (f : α → Nat → Value) (d : α) (l : List α) : Array Value := Array.ofFn (n := l.length * k) (fun x => recF k f d l x.val)
theorem recA_size {α : Type} (k : Nat) (f : α → Nat → Value) (d : α) (l : List α) : (recA k f d l).size = l.length * k := by simp [recA]
theorem recA_flat {α : Type} (k : Nat) (f : α → Nat → Value) (d : α) (l : List α) (m : Nat) (hm : m < l.length * k) : (recA k f d l)[m]? = some (recF k f d l m) := by simp [recA, hm]
theorem recA_at {α : Type} {k : Nat} (f : α → Nat → Value) (d : α) (l : List α) (i j : Nat) (hi : i < l.length) (hj : j < k) : (recA k f d l)[i * k + j]? = some (f (l.getD i d) j) := by
  rw [recA_flat k f d l _ (rec_lt hi hj), recF_at f d l i j hj]
theorem recA_ext {α : Type} {k : Nat} {f : α → Nat → Value} {d : α} {l : List α} {A : Array Value} (hs : A.size = l.length * k) (h : ∀ i j, i < l.length → j < k → A[i * k + j]? = some (f (l.getD i d) j)) : A = recA k f d l := by
  apply Array.ext_getElem?
  intro m
  by_cases hm : m < l.length * k
  · have hk := rec_pos hm
    have e : m = m / k * k + m % k := by rw [Nat.mul_comm]; exact (Nat.div_add_mod m k).symm
    have hi := rec_div hm
    have hj := Nat.mod_lt m hk
    rw [e, h _ _ hi hj, recA_at f d l _ _ hi hj]
  · rw [Array.getElem?_eq_none (by omega), Array.getElem?_eq_none (by rw [recA_size]; omega)]
/-- of no other place than these cells -/
theorem rec_ne {k i i' j j' : Nat} (hj : j < k) (hj' : j' < k) (h : i ≠ i' ∨ j ≠ j') : i * k + j ≠ i' * k + j' := by
  intro e
  have hk : 0 < k := by omega
  have e1 : (i * k + j) / k = i := by rw [Nat.add_comm, Nat.add_mul_div_right _ _ hk, Nat.div_eq_of_lt hj, Nat.zero_add]
  have e2 : (i' * k + j') / k = i' := by rw [Nat.add_comm, Nat.add_mul_div_right _ _ hk, Nat.div_eq_of_lt hj', Nat.zero_add]
  have e3 : i = i' := by rw [← e1, ← e2, e]
  subst e3
  rcases h with h | h
  · exact h rfl
  · omega
/-- one record was written -/
theorem recA_set {α : Type} {k : Nat} {f : α → Nat → Value} {d : α} {l : List α} {A : Array Value} (i : Nat) (x : α) (hi : i < l.length) (hs : A.size = l.length * k) (h1 : ∀ j, j < k → A[i * k + j]? = some (f x j))
    (h2 : ∀ i' j, i' ≠ i → i' < l.length → j < k → A[i' * k + j]? = (recA k f d l)[i' * k + j]?) : A = recA k f d (l.set i x) := by
  refine recA_ext (by simpa using hs) fun i' j hi' hj => ?_
  rw [List.length_set] at hi'
  by_cases e : i' = i
  · subst e
    rw [h1 j hj]; simp [List.getD_eq_getElem?_getD, hi]
  · rw [h2 i' j e hi' hj, recA_at f d l i' j hi' hj]
    have e' : ¬ i = i' := fun x => e x.symm
    simp [List.getD_eq_getElem?_getD, List.getElem?_set, e']
theorem recA_made {α : Type} {k : Nat} {f : α → Nat → Value} {d : α} (z : Array Value) (x : α) (n : Nat) (hz : z.size = k) (h : ∀ j, j < k → z[j]? = some (f x j)) : madeCells z (n * k) = recA k f d (List.replicate n x) := by
  refine recA_ext (by simp [size_madeCells]) fun i j hi hj => ?_
  rw [List.length_replicate] at hi
  have hk : 0 < k := by omega
  have e2 : (i * k + j) % z.size = j := by rw [hz, Nat.add_comm, Nat.add_mul_mod_self_right, Nat.mod_eq_of_lt hj]
  have e3 : (List.replicate n x).getD i d = x := by simp [List.getD_eq_getElem?_getD, List.getElem?_replicate, hi]
  have hlt := rec_lt hi hj
  have hj' := h j hj
  have hjs : j < z.size := by omega
  rw [e3, ← hj']
  simp [madeCells, hlt, e2, hjs, Array.getD]

/-- a row of records that is read -/
structure RecS {α : Type} (k : Nat) (f : α → Nat → Value) (d : α) (w : World) (a : Option Addr) (l : List α) : Prop where
  row : Holds w a (l.length * k) (recF k f d l)
theorem RecS.below {α : Type} {k : Nat} {f : α → Nat → Value} {d : α} {w w' : World} {a : Option Addr} {l : List α} (h : RecS k f d w a l) (hb : Below w.heap.size w w') : RecS k f d w' a l := ⟨h.row.below hb⟩
theorem RecS.nil {α : Type} (k : Nat) (f : α → Nat → Value) (d : α) (w : World) (a : Option Addr) : RecS k f d w a [] := ⟨by simpa using Holds.nil w a _⟩
theorem RecS.cell {α : Type} {k : Nat} {f : α → Nat → Value} {d : α} {w : World} {a : Option Addr} {l : List α} (h : RecS k f d w a l) (i : Nat) (hi : i < l.length) (hk : 0 < k) :
    ∃ b off, a = some ⟨b, off, none⟩ ∧ b < w.heap.size ∧ ∀ j, j < k → w.cell? ⟨b, off + i * k + j, none⟩ = some (f (l.getD i d) j) := by
  obtain ⟨b, off, ha, hl, hc⟩ := h.row.get (by have := rec_lt hi hk; omega)
  refine ⟨b, off, ha, hl, fun j hj => ?_⟩
  rw [Nat.add_assoc, hc _ (rec_lt hi hj), recF_at f d l i j hj]
theorem RecS.of_blk {α : Type} {k : Nat} {f : α → Nat → Value} {d : α} {w : World} {b : Nat} {l : List α} {T : TypeId} (B : Blk w b (recA k f d l) T) : RecS k f d w (some ⟨b, 0, none⟩) l :=
  ⟨⟨fun _ => ⟨b, 0, rfl, B.lt, fun i hi => by rw [Nat.zero_add]; exact B.at i (recA_flat k f d l i hi)⟩⟩⟩
/-- the cells of a record in a block known whole -/
theorem rec_blk {α : Type} {k : Nat} {f : α → Nat → Value} {d : α} {w : World} {b : Nat} {l : List α} {T : TypeId} (B : Blk w b (recA k f d l) T) (i j : Nat) (hi : i < l.length) (hj : j < k) : w.cell? ⟨b, i * k + j, none⟩ = some (f (l.getD i d) j) :=
  B.at _ (recA_at f d l i j hi hj)

/-- a row of records that the call owns -/
structure OwnR {α : Type} (k : Nat) (f : α → Nat → Value) (d : α) (w : World) (base : Nat) (e : TypeId) (a : Option Addr) (c : Nat) (l : List α) : Prop where
  own : Owns w base e k a l.length c (recF k f d l)
theorem OwnR.below {α : Type} {k : Nat} {f : α → Nat → Value} {d : α} {w w' : World} {base : Nat} {e : TypeId} {a : Option Addr} {c : Nat} {l : List α} (h : OwnR k f d w base e a c l) (hb : Below w.heap.size w w') : OwnR k f d w' base e a c l := ⟨h.own.below2 hb⟩
theorem OwnR.kept {α : Type} {k : Nat} {f : α → Nat → Value} {d : α} {w w' : World} {row : Option Nat} {base : Nat} {e : TypeId} {a : Option Addr} {c : Nat} {l : List α} (h : OwnR k f d w base e a c l) (hg : w.grownBy w' row)
    (hne : (Value.slice a l.length c).ownBlock = none ∨ (Value.slice a l.length c).ownBlock ≠ row) : OwnR k f d w' base e a c l := ⟨World.ownsRow.kept h.own hg hne⟩
theorem OwnR.nil {α : Type} (k : Nat) (f : α → Nat → Value) (d : α) (w : World) (base : Nat) (e : TypeId) : OwnR k f d w base e none 0 ([] : List α) := ⟨Owns.nil _ _ _ _ _⟩
theorem OwnR.empty {α : Type} (k : Nat) (f : α → Nat → Value) (d : α) (w : World) (base : Nat) (e : TypeId) (hb : base ≤ w.heap.size) : OwnR k f d (w.alloc (.cells #[] e)) base e (some ⟨w.heap.size, 0, none⟩) 0 ([] : List α) := ⟨Owns.empty _ _ _ _ _ hb⟩
theorem OwnR.read {α : Type} {k : Nat} {f : α → Nat → Value} {d : α} {w : World} {base : Nat} {e : TypeId} {a : Option Addr} {c : Nat} {l : List α} (h : OwnR k f d w base e a c l) : RecS k f d w a l := ⟨h.own.holds⟩
theorem OwnR.lower {α : Type} {k : Nat} {f : α → Nat → Value} {d : α} {w : World} {base b' : Nat} {e : TypeId} {a : Option Addr} {c : Nat} {l : List α} (h : OwnR k f d w base e a c l) (hb : b' ≤ base) : OwnR k f d w b' e a c l := by
  refine ⟨⟨h.own.1, ?_⟩⟩
  rcases h.own.2 with q | ⟨g, cap, cur, e, hg, r⟩
  · exact .inl q
  · exact .inr ⟨g, cap, cur, e, Nat.le_trans hb hg, r⟩
theorem OwnR.lt {α : Type} {k : Nat} {f : α → Nat → Value} {d : α} {w : World} {base : Nat} {e : TypeId} {a : Option Addr} {c : Nat} {l : List α} (h : OwnR k f d w base e a c l) (g : Nat) (q : (Value.slice a l.length c).ownBlock = some g) : base ≤ g ∧ g < w.heap.size := World.ownsRow.lt h.own g q
theorem OwnR.far {α : Type} {k : Nat} {f : α → Nat → Value} {d : α} {w : World} {base : Nat} {e : TypeId} {a : Option Addr} {c : Nat} {l : List α} (h : OwnR k f d w base e a c l) (p : Addr) (v : Value) (hne : (Value.slice a l.length c).ownBlock ≠ some p.block) : OwnR k f d (w.setCell p v) base e a c l :=
  h.kept (row := some p.block) ⟨rfl, rfl, rfl, by simp, fun i hi hn => Below.heap_setCell w p v i (fun e => hn (by rw [e]))⟩ (.inr hne)

theorem recF_append {α : Type} {k : Nat} (f : α → Nat → Value) (d : α) (l r : List α) (m : Nat) (hm : m < (l.length + r.length) * k) : (if m < l.length * k then recF k f d l m else recF k f d r (m - l.length * k)) = recF k f d (l ++ r) m := by
  have hk := rec_pos hm
  by_cases h : m < l.length * k
  · rw [if_pos h]
    have := rec_div h
    simp [recF, List.getD_eq_getElem?_getD, List.getElem?_append_left this]
  · rw [if_neg h]
    obtain ⟨q, rfl⟩ : ∃ q, m = q + l.length * k := ⟨m - l.length * k, by omega⟩
    have e1 : (q + l.length * k) / k = q / k + l.length := Nat.add_mul_div_right _ _ hk
    have e2 : (q + l.length * k) % k = q % k := Nat.add_mul_mod_self_right _ _ _
    simp only [recF, e1, e2, Nat.add_sub_cancel]
    rw [List.getD_eq_getElem?_getD, List.getD_eq_getElem?_getD, List.getElem?_append_right (Nat.le_add_left _ _), Nat.add_sub_cancel]
/-- what appending records tells -/
structure AddedR {α : Type} (P : Program) (k : Nat) (f : α → Nat → Value) (d : α) (w : World) (base : Nat) (t e : TypeId) (a : Option Addr) (c : Nat) (l : List α) (v : Value) (m : Nat) (l' : List α) (g cap : Nat) (w' : World) : Prop where
  run : ∀ ty, (Builtin.append_ #[t, t] ty #[.slice a l.length c, v]).run P w = .ok (.slice (some ⟨g, 0, none⟩) (l.length + m) cap) w'
  own : OwnR k f d w' base e (some ⟨g, 0, none⟩) cap l'
  grown : w.grownBy w' (Value.slice a l.length c).ownBlock
  lt : g < w'.heap.size
  ge : base ≤ g
  at' : (Value.slice a l.length c).ownBlock = some g ∨ g = w.heap.size
theorem AddedR.keeps {α : Type} {P : Program} {k : Nat} {f : α → Nat → Value} {d : α} {w : World} {base : Nat} {t e : TypeId} {a : Option Addr} {c : Nat} {l : List α} {v : Value} {m : Nat} {l' : List α} {g cap : Nat} {w' : World} (A : AddedR P k f d w base t e a c l v m l' g cap w') (hl : ∀ k, (Value.slice a l.length c).ownBlock = some k → base ≤ k)
    (w0 : World) (B : Nat) (hB : B ≤ base) (h : Below B w0 w) (hs : base ≤ w.heap.size) : Below B w0 w' :=
  h.grown A.grown (Nat.le_trans hB hs) (fun k e => Nat.le_trans hB (hl k e))
/-- a row of records is appended -/
theorem addRecs {α : Type} {P : Program} {k : Nat} {f : α → Nat → Value} {d : α} {w : World} (base : Nat) (t e : TypeId) (i : TypeInfo) (z : Value) (bytes : Nat) (ht : P.underlying t = some (.slice e)) (hi : P.info? e = some i) (hz : i.zero = some z) (hsize : i.size = k) (hby : i.bytes = bytes) (hzs : z.cells.size = k) (hk : 0 < k)
    (hone : ∀ x j, j < k → (f x j).oneCell' = true) {a : Option Addr} {c : Nat} {l : List α} (h : OwnR k f d w base e a c l) {b : Option Addr} {c' : Nat} {xs : List α} (hx : RecS k f d w b xs) (h0 : 0 < xs.length) (hm : l.length + xs.length ≤ maxLen) (hn : (l.length + xs.length) * bytes ≤ 140737488355328) (hbase : base ≤ w.heap.size) :
    ∃ g cap w', AddedR P k f d w base t e a c l (.slice b xs.length c') xs.length (l ++ xs) g cap w' := by
  obtain ⟨bb, off, rfl, hbl, hc⟩ := hx.row.get (by have := rec_lt h0 hk; omega)
  obtain ⟨g, cap, w', A⟩ := appended (P := P) (c' := c') t base e i z k bytes ht hi hz hsize hby hzs hk h.own hx.row (fun j hj => hone _ _ (Nat.mod_lt _ hk)) h0 hm hn hbase
  refine ⟨g, cap, w', A.run, ⟨?_⟩, A.grown, A.lt, (World.ownsRow.lt A.own g rfl).1, A.at'⟩
  rw [show (l ++ xs).length = l.length + xs.length by simp]
  exact A.own.congr fun j hj => recF_append f d l xs j hj
/-- one record is appended: its block is made ahead -/
theorem rec_lit {α : Type} {k : Nat} {f : α → Nat → Value} {d : α} {w : World} {b : Nat} {cs : Array Value} {T : TypeId} (B : Blk w b cs T) (x : α) (h : ∀ j, j < k → cs[j]? = some (f x j)) : RecS k f d w (some ⟨b, 0, none⟩) [x] :=
  ⟨⟨fun _ => ⟨b, 0, rfl, B.lt, fun i hi => by
    have hi' : i < k := by simpa using hi
    rw [Nat.zero_add, B.at i (h i hi')]
    have := recF_at f d [x] 0 i hi'
    rw [Nat.zero_mul, Nat.zero_add] at this
    rw [this]; simp⟩⟩⟩
theorem append_none {P : Program} {w : World} {base : Nat} (t ty e : TypeId) (i : TypeInfo) (size : Nat) (ht : P.underlying t = some (.slice e)) (hi : P.info? e = some i)
    (v : Value) (n : Nat) (xs : List Value) (hown : w.ownsRow base e size v n xs) (p : Option Addr) (c' : Nat) :
    (Builtin.append_ #[t, t] ty #[v, .slice p 0 c']).run P w = .ok v w := by
  rcases hown.2 with ⟨rfl, rfl⟩ | ⟨g, cap, cur, rfl, _, _, hnc, _⟩
  · cases p <;> simp [Builtin.append_, run_underlying ht, sizeOf, typeInfo, hi, Builtin.lenOf, Builtin.firstCells, loadCells, loadCellsFrom, Result.andThen]
  · cases p <;> simp [Builtin.append_, run_underlying ht, sizeOf, typeInfo, hi, Builtin.lenOf, Builtin.firstCells, hnc, storeCells, loadCells, loadCellsFrom, Result.andThen]
/-- nothing is appended: the row stays -/
theorem addRecs_zero {α : Type} {P : Program} {k : Nat} {f : α → Nat → Value} {d : α} {w : World} (base g0 : Nat) (t e : TypeId) (i : TypeInfo) (ht : P.underlying t = some (.slice e)) (hi : P.info? e = some i) {c : Nat} {l : List α} (h : OwnR k f d w base e (some ⟨g0, 0, none⟩) c l) (b : Option Addr) (c' : Nat) :
    AddedR P k f d w base t e (some ⟨g0, 0, none⟩) c l (.slice b 0 c') 0 l g0 c w :=
  ⟨fun ty => by rw [Nat.add_zero]; exact append_none (P := P) t ty e i k ht hi _ _ _ h.own b c', h, ⟨rfl, rfl, rfl, Nat.le_refl _, fun _ _ _ => rfl⟩, (h.lt g0 rfl).2, (h.lt g0 rfl).1, .inl rfl⟩
end Go.Proofs.Ytpempcefgfmniaa.RefP

/-
  Cells that are written by versions: plain laws, and how they lie in memory.
-/
namespace Go.Proofs.Ytpempcefgfmniaa.CellP
open Go.RowKit RefP
set_option linter.unusedVariables false
set_option linter.unusedSimpArgs false

/-- is there such a place? -/
def inB (n : Nat) (i : Int) : Bool := decide (0 ≤ i ∧ i < n)
theorem inB_yes {n : Nat} {i : Int} (h : inB n i = true) : 0 ≤ i ∧ i < n := of_decide_eq_true h
theorem inB_no {n : Nat} {i : Int} (h : inB n i = false) : ¬ (0 ≤ i ∧ i < n) := of_decide_eq_false h
theorem inB_mk {n : Nat} {i : Int} (h0 : 0 ≤ i) (h1 : i < n) : inB n i = true := decide_eq_true ⟨h0, h1⟩
theorem inB_mk_no {n : Nat} {i : Int} (h : ¬ (0 ≤ i ∧ i < n)) : inB n i = false := decide_eq_false h
def nextV (v : Int) : Int := (v + 1) % 18446744073709551616
theorem nextV_rng (v : Int) : 0 ≤ nextV v ∧ nextV v ≤ 18446744073709551615 := by unfold nextV; omega
/-- what a cell tells -/
def loadW (l : List (Int × Int)) (i : Int) : Int := if inB l.length i = true then (at2 l i.toNat).1 else 0
def loadV (l : List (Int × Int)) (i : Int) : Int := if inB l.length i = true then (at2 l i.toNat).2 else 0
theorem loadW_yes {l : List (Int × Int)} {i : Int} (h : inB l.length i = true) : loadW l i = (at2 l i.toNat).1 := if_pos h
theorem loadV_yes {l : List (Int × Int)} {i : Int} (h : inB l.length i = true) : loadV l i = (at2 l i.toNat).2 := if_pos h
theorem loadW_no {l : List (Int × Int)} {i : Int} (h : inB l.length i = false) : loadW l i = 0 := if_neg (by simp [h])
theorem loadV_no {l : List (Int × Int)} {i : Int} (h : inB l.length i = false) : loadV l i = 0 := if_neg (by simp [h])
/-- cells in which one was written -/
def writeL (l : List (Int × Int)) (i : Int) (word : Int) : List (Int × Int) := l.set i.toNat (word, nextV (at2 l i.toNat).2)
theorem writeL_length (l : List (Int × Int)) (i word : Int) : (writeL l i word).length = l.length := by simp [writeL]
def casB (l : List (Int × Int)) (i ver : Int) : Bool := inB l.length i && decide ((at2 l i.toNat).2 = ver)
def casL (l : List (Int × Int)) (i ver word : Int) : List (Int × Int) := if casB l i ver = true then writeL l i word else l
def storeL (l : List (Int × Int)) (i word : Int) : List (Int × Int) := if inB l.length i = true then writeL l i word else l
theorem casL_yes {l : List (Int × Int)} {i ver : Int} (word : Int) (h : casB l i ver = true) : casL l i ver word = writeL l i word := if_pos h
theorem casL_no {l : List (Int × Int)} {i ver : Int} (word : Int) (h : casB l i ver = false) : casL l i ver word = l := if_neg (by simp [h])
theorem storeL_yes {l : List (Int × Int)} {i : Int} (word : Int) (h : inB l.length i = true) : storeL l i word = writeL l i word := if_pos h
theorem storeL_no {l : List (Int × Int)} {i : Int} (word : Int) (h : inB l.length i = false) : storeL l i word = l := if_neg (by simp [h])
theorem casB_load {l : List (Int × Int)} {i : Int} (h : inB l.length i = true) : casB l i (at2 l i.toNat).2 = true := by simp [casB, h]

def Rng (l : List (Int × Int)) : Prop := ∀ c ∈ l, (0 ≤ c.1 ∧ c.1 ≤ 18446744073709551615) ∧ 0 ≤ c.2 ∧ c.2 ≤ 18446744073709551615
theorem at2_out (l : List (Int × Int)) (i : Nat) (h : l.length ≤ i) : at2 l i = (0, 0) := by simp [at2, List.getElem?_eq_none h]
theorem Rng.at {l : List (Int × Int)} (h : Rng l) (i : Nat) : (0 ≤ (at2 l i).1 ∧ (at2 l i).1 ≤ 18446744073709551615) ∧ 0 ≤ (at2 l i).2 ∧ (at2 l i).2 ≤ 18446744073709551615 := by
  by_cases hi : i < l.length
  · exact h _ (at2_mem l i hi)
  · rw [at2_out _ _ (by omega)]; simp
theorem Rng.set {l : List (Int × Int)} (h : Rng l) (i : Nat) (c : Int × Int) (hc : (0 ≤ c.1 ∧ c.1 ≤ 18446744073709551615) ∧ 0 ≤ c.2 ∧ c.2 ≤ 18446744073709551615) : Rng (l.set i c) := by
  intro x hx
  rcases List.mem_or_eq_of_mem_set hx with hx | rfl
  · exact h x hx
  · exact hc
theorem Rng.write {l : List (Int × Int)} (h : Rng l) (i word : Int) (h0 : 0 ≤ word) (h1 : word ≤ 18446744073709551615) : Rng (writeL l i word) := h.set _ _ ⟨⟨h0, h1⟩, nextV_rng _⟩
theorem Rng.cas {l : List (Int × Int)} (h : Rng l) (i ver word : Int) (h0 : 0 ≤ word) (h1 : word ≤ 18446744073709551615) : Rng (casL l i ver word) := by
  unfold casL; split
  · exact h.write i word h0 h1
  · exact h
theorem Rng.store {l : List (Int × Int)} (h : Rng l) (i word : Int) (h0 : 0 ≤ word) (h1 : word ≤ 18446744073709551615) : Rng (storeL l i word) := by
  unfold storeL; split
  · exact h.write i word h0 h1
  · exact h
theorem casL_length (l : List (Int × Int)) (i ver word : Int) : (casL l i ver word).length = l.length := by unfold casL; split <;> simp [writeL_length]
theorem storeL_length (l : List (Int × Int)) (i word : Int) : (storeL l i word).length = l.length := by unfold storeL; split <;> simp [writeL_length]
theorem load_rng {l : List (Int × Int)} (h : Rng l) (i : Int) : (0 ≤ loadW l i ∧ loadW l i ≤ 18446744073709551615) ∧ 0 ≤ loadV l i ∧ loadV l i ≤ 18446744073709551615 := by
  cases c : inB l.length i
  · rw [loadW_no c, loadV_no c]; simp
  · rw [loadW_yes c, loadV_yes c]; exact h.at _

theorem nextV_ne {v : Int} (h0 : 0 ≤ v) (h1 : v ≤ 18446744073709551615) : nextV v ≠ v := by unfold nextV; omega
theorem below_only {B g : Nat} {a w1 w2 : World} (h : Below B a w1) (hg : w1.grownBy w2 (some g)) (hB : B ≤ a.heap.size) (hr : B ≤ g) : Below B a w2 :=
  h.grown hg (Nat.le_trans hB h.size) (fun k e => by cases e; exact hr)
/-! in memory -/
def pairF (l : List (Int × Int)) (m : Nat) : Value := .int .u64 (if m % 2 = 0 then (at2 l (m / 2)).1 else (at2 l (m / 2)).2)
def pairsA (l : List (Int × Int)) : Array Value := Array.ofFn (n := l.length * 2) (fun j => pairF l j.val)
theorem pairsA_size (l : List (Int × Int)) : (pairsA l).size = l.length * 2 := by simp [pairsA]
theorem pairsA_get (l : List (Int × Int)) (m : Nat) (h : m < l.length * 2) : (pairsA l)[m]? = some (pairF l m) := by
  simp [pairsA, h]
theorem pairsA_0 (l : List (Int × Int)) (k : Nat) (h : k < l.length) : (pairsA l)[k * 2]? = some (.int .u64 (at2 l k).1) := by
  rw [pairsA_get l _ (by omega)]; simp [pairF]
theorem pairsA_1 (l : List (Int × Int)) (k : Nat) (h : k < l.length) : (pairsA l)[k * 2 + 1]? = some (.int .u64 (at2 l k).2) := by
  rw [pairsA_get l _ (by omega)]
  have e1 : (k * 2 + 1) % 2 = 1 := by omega
  have e2 : (k * 2 + 1) / 2 = k := by omega
  simp [pairF, e1, e2]
theorem at2_set (l : List (Int × Int)) (k i : Nat) (c : Int × Int) (h : k < l.length) : at2 (l.set k c) i = if i = k then c else at2 l i := by
  unfold at2
  rw [List.getD_eq_getElem?_getD, List.getElem?_set]
  by_cases e : k = i
  · subst e; simp [h]
  · have : ¬ i = k := fun x => e x.symm
    simp [e, this]
theorem pairsA_set (l : List (Int × Int)) (k : Nat) (a b : Int) (h : k < l.length) : ((pairsA l).setIfInBounds (k * 2) (.int .u64 a)).setIfInBounds (k * 2 + 1) (.int .u64 b) = pairsA (l.set k (a, b)) := by
  apply Array.ext_getElem?
  intro m
  rw [Array.getElem?_setIfInBounds, Array.getElem?_setIfInBounds]
  simp only [Array.size_setIfInBounds, pairsA_size]
  by_cases hm : m < l.length * 2
  · rw [pairsA_get l m hm, pairsA_get _ m (by simpa using hm)]
    unfold pairF
    rw [at2_set l k _ _ h]
    by_cases e1 : k * 2 + 1 = m
    · subst e1
      have e2 : (k * 2 + 1) % 2 = 1 := by omega
      have e3 : (k * 2 + 1) / 2 = k := by omega
      simp [e2, e3]; omega
    · by_cases e2 : k * 2 = m
      · subst e2
        simp; omega
      · have e3 : ¬ m / 2 = k := by omega
        simp [e1, e2, e3]
  · have e1 : ¬ k * 2 + 1 = m := by omega
    have e2 : ¬ k * 2 = m := by omega
    simp only [e1, e2, if_false]
    rw [Array.getElem?_eq_none (by rw [pairsA_size]; omega), Array.getElem?_eq_none (by rw [pairsA_size]; simp; omega)]
theorem pairsA_made (n : Nat) : madeCells #[.int .u64 0, .int .u64 0] (n * 2) = pairsA (List.replicate n (0, 0)) := by
  apply Array.ext_getElem?
  intro m
  by_cases hm : m < n * 2
  · rw [pairsA_get _ m (by simpa using hm)]
    have e : at2 (List.replicate n ((0 : Int), (0 : Int))) (m / 2) = (0, 0) := by simp [at2, List.getElem?_replicate]; split <;> rfl
    unfold pairF
    rw [e]
    have hh : m % 2 = 0 ∨ m % 2 = 1 := by omega
    rcases hh with hh | hh <;> simp [madeCells, hm, hh]
  · rw [Array.getElem?_eq_none (by rw [size_madeCells]; omega), Array.getElem?_eq_none (by rw [pairsA_size]; simp; omega)]

/-- a slice of such pairs -/
structure PairsS (w : World) (a : Option Addr) (l : List (Int × Int)) : Prop where
  row : Holds w a (l.length * 2) (pairF l)
  rng : Rng l
  len : l.length ≤ 65536
theorem PairsS.below {w w' : World} {a : Option Addr} {l : List (Int × Int)} (h : PairsS w a l) (hb : Below w.heap.size w w') : PairsS w' a l := ⟨h.row.below hb, h.rng, h.len⟩
theorem PairsS.cell {w : World} {a : Option Addr} {l : List (Int × Int)} (h : PairsS w a l) (k : Nat) (hk : k < l.length) :
    ∃ b off, a = some ⟨b, off, none⟩ ∧ b < w.heap.size ∧ w.cell? ⟨b, off + k * 2, none⟩ = some (.int .u64 (at2 l k).1) ∧ w.cell? ⟨b, off + k * 2 + 1, none⟩ = some (.int .u64 (at2 l k).2) := by
  obtain ⟨b, off, ha, hl, hc⟩ := h.row.get (by omega)
  refine ⟨b, off, ha, hl, ?_, ?_⟩
  · rw [hc (k * 2) (by omega)]
    simp [pairF]
  · have := hc (k * 2 + 1) (by omega)
    rw [← Nat.add_assoc] at this
    rw [this]
    have e1 : (k * 2 + 1) % 2 = 1 := by omega
    have e2 : (k * 2 + 1) / 2 = k := by omega
    simp [pairF, e1, e2]
theorem Holds.grown {w w' : World} {a : Option Addr} {m : Nat} {f : Nat → Value} {g : Nat} (h : Holds w a m f) (hg : w.grownBy w' (some g)) (hne : ∀ b off, a = some ⟨b, off, none⟩ → b ≠ g) : Holds w' a m f :=
  ⟨fun h0 => by
    obtain ⟨b, off, ha, hl, hc⟩ := h.get h0
    have hbg := hne b off ha
    refine ⟨b, off, ha, Nat.lt_of_lt_of_le hl hg.size, fun i hi => ?_⟩
    exact (World.cell?_of_block (hg.block b hl (fun e => hbg (by injection e)))).trans (hc i hi)⟩
theorem PairsS.grown {w w' : World} {a : Option Addr} {l : List (Int × Int)} {g : Nat} (h : PairsS w a l) (hg : w.grownBy w' (some g)) (hne : ∀ b off, a = some ⟨b, off, none⟩ → b ≠ g) : PairsS w' a l := ⟨Holds.grown h.row hg hne, h.rng, h.len⟩
theorem pairF_set {l : List (Int × Int)} {k : Nat} {a b : Int} (h : k < l.length) (m : Nat) : (if m = k * 2 + 1 then Value.int .u64 b else if m = k * 2 then Value.int .u64 a else pairF l m) = pairF (l.set k (a, b)) m := by
  unfold pairF
  rw [at2_set l k _ _ h]
  by_cases e1 : m = k * 2 + 1
  · subst e1
    have e2 : (k * 2 + 1) % 2 = 1 := by omega
    have e3 : (k * 2 + 1) / 2 = k := by omega
    simp [e2, e3]
  · by_cases e2 : m = k * 2
    · subst e2; simp
    · have e3 : ¬ m / 2 = k := by omega
      simp [e1, e2, e3]
theorem Holds.set {w : World} {b off m : Nat} {f : Nat → Value} (h : Holds w (some ⟨b, off, none⟩) m f) (i : Nat) (hi : i < m) (v : Value) : Holds (w.setCell ⟨b, off + i, none⟩ v) (some ⟨b, off, none⟩) m (fun j => if j = i then v else f j) :=
  ⟨fun h0 => by
    obtain ⟨b', off', ha, hl, hc⟩ := h.get h0
    simp only [Option.some.injEq, Addr.mk.injEq, and_true] at ha
    obtain ⟨rfl, rfl⟩ := ha
    refine ⟨b, off, rfl, by simpa using hl, fun j hj => ?_⟩
    by_cases e : j = i
    · subst e
      simp only [if_true]
      exact World.cell?_setCell_same _ _ _ (hc j hj)
    · simp only [e, if_false]
      rw [World.cell?_setCell_other _ _ _ _ (by intro e2; injection e2 with _ e3 _; omega)]
      exact hc j hj⟩
end Go.Proofs.Ytpempcefgfmniaa.CellP

/-
  cell.New, Len, has, Load, Cas, Store: contracts.
-/
namespace Go.Proofs.Ytpempcefgfmniaa.CellP
open Go.RowKit RefP
set_option linter.unusedVariables false
set_option linter.unusedSimpArgs false

theorem run_make_rowN {P : Program} (t e : TypeId) (i : TypeInfo) (z : Value) (ht : P.underlying t = some (.slice e)) (hi : P.info? e = some i) (hz : i.zero = some z)
    (kl kc : IntKind) (n c : Nat) (hnc : n ≤ c) (hbytes : i.bytes * c ≤ 281474976710656) (h63 : c ≤ 9223372036854775807) (w : World) :
    (Instr.makeSlice t (.int kl (n : Int)) (.int kc (c : Int))).run P w = .ok (.slice (some ⟨w.heap.size, 0, none⟩) n c) (w.alloc (.cells (madeCells z.cells (c * i.size)) e)) := by
  have hb : (i.bytes : Int) * (c : Int) ≤ 281474976710656 := by
    have h : ((i.bytes * c : Nat) : Int) ≤ 281474976710656 := by omega
    rwa [Int.natCast_mul] at h
  have hr := run_make (P := P) w t e i z ht hi hz kl kc n c (by omega) (by omega) hb (by omega)
  simp only [Int.toNat_natCast] at hr
  exact hr

/-- the cells of an object o whose rows lie in block g -/
structure CellsAt (w : World) (o g : Nat) (l : List (Int × Int)) : Prop where
  head : Blk w o #[.slice (some ⟨g, 0, none⟩) l.length l.length] 131
  rows : Blk w g (pairsA l) 128
  ne : o ≠ g
  rng : Rng l
  len : l.length ≤ 65536
theorem CellsAt.below {w w' : World} {o g : Nat} {l : List (Int × Int)} (h : CellsAt w o g l) (hb : Below w.heap.size w w') : CellsAt w' o g l := ⟨h.head.below hb, h.rows.below hb, h.ne, h.rng, h.len⟩
/-- cells were made -/
def MadeAt (w : World) (l : List (Int × Int)) (e : Ending) (w' : World) : Prop := ∃ o g, e = .returned (.pointer (some ⟨o, 0, none⟩)) ∧ CellsAt w' o g l ∧ Below w.heap.size w w' ∧ w.heap.size ≤ o ∧ w.heap.size ≤ g
theorem Rng.zeros (n : Nat) : Rng (List.replicate n (0, 0)) := by
  intro c hc
  rw [List.eq_of_mem_replicate hc]; simp
theorem infoRow : (Try.prog.info? 128).map (fun i => (i.zero, i.size, i.bytes)) = some (some (.agg #[.int .u64 0, .int .u64 0]), 2, 16) := by kernel_rfl

set_option maxHeartbeats 800000 in
theorem new_no (n : Int) (w : World) (h : n < 0 ∨ ¬ n < 0 ∧ 65536 < n) : Calls Try.prog 88 #[.int .i64 n] w fun e w' => e = .returned (.pointer none) ∧ w = w' := by
  rcases h with h | ⟨h, k⟩
  all_goals
    go_enter Try.func88, Try.ntmps88
    go_wp2_with fail
    go_ret
    exact ⟨rfl, rfl⟩
set_option maxHeartbeats 800000 in
theorem new_yes (n : Nat) (w : World) (h : n ≤ 65536) : Calls Try.prog 88 #[.int .i64 n] w (MadeAt w (List.replicate n (0, 0))) := by
  obtain ⟨i0, hi, hz0, hz1, hz2⟩ := info_parts infoRow
  have hmk := fun W => run_make_rowN (P := Try.prog) 129 128 i0 _ Try.underlying129 hi hz0 .i64 .i64 n n (Nat.le_refl _) (by rw [hz2]; omega) (by omega) W
  have e0 : (Value.agg #[.int .u64 0, .int .u64 0]).cells = #[.int .u64 0, .int .u64 0] := by simp [Value.cells]
  rw [e0, hz1, pairsA_made n] at hmk
  clear e0 hz0 hz1 hz2 hi
  go_enter Try.func88, Try.ntmps88
  go_wp2_with fail
  go_ret
  refine ⟨w.heap.size + 1, w.heap.size, rfl, ⟨?_, ?_, by omega, Rng.zeros n, by simpa using h⟩, by (repeat (first | exact Below.refl _ _ | assumption | refine below_alloc2 ?_ (by first | exact Nat.le_refl _ | omega) _ | refine Below.drew ?_ | refine below_drewN ?_ _ | refine below_push2 ?_ ‹_› (by first | exact Nat.le_refl _ | omega) | refine Below.setCell ?_ (by first | (simp; done) | (simp; omega) | omega) _)), by omega, by omega⟩
  · have := Blk.new (w.alloc (.cells (pairsA (List.replicate n (0, 0))) 128)) #[.slice (some ⟨w.heap.size, 0, none⟩) n n] 131
    simpa using this
  · exact (Blk.new w _ _).alloc _

set_option maxHeartbeats 800000 in
theorem len_nil (w : World) : Calls Try.prog 51 #[.pointer none] w fun e w' => e = .returned (.int .i64 0) ∧ w = w' := by
  go_enter Try.func51, Try.ntmps51
  go_wp2_with fail
  go_ret
  exact ⟨rfl, rfl⟩
set_option maxHeartbeats 800000 in
theorem len_any (o g : Nat) (l : List (Int × Int)) (w : World) (h : CellsAt w o g l) : Calls Try.prog 51 #[.pointer (some ⟨o, 0, none⟩)] w fun e w' => e = .returned (.int .i64 l.length) ∧ w = w' := by
  have c0 := h.head.at 0 rfl
  go_enter Try.func51, Try.ntmps51
  go_wp2_with fail
  go_ret
  exact ⟨rfl, rfl⟩
set_option maxHeartbeats 800000 in
theorem has_nil (i : Int) (w : World) : Calls Try.prog 76 #[.pointer none, .int .i64 i] w fun e w' => e = .returned (.bool false) ∧ w = w' := by
  by_cases c : 0 ≤ i
  · go_enter Try.func76, Try.ntmps76
    go_wp2_with fail
    refine (len_nil _).mono ?_
    rintro e w1 ⟨rfl, rfl⟩
    go_wp2_with fail
    go_ret
    exact ⟨by simp; omega, rfl⟩
  · go_enter Try.func76, Try.ntmps76
    go_wp2_with fail
    go_ret
    exact ⟨rfl, rfl⟩
set_option maxHeartbeats 800000 in
theorem has_any (o g : Nat) (l : List (Int × Int)) (i : Int) (w : World) (h : CellsAt w o g l) : Calls Try.prog 76 #[.pointer (some ⟨o, 0, none⟩), .int .i64 i] w fun e w' => e = .returned (.bool (inB l.length i)) ∧ w = w' := by
  by_cases c : 0 ≤ i
  · have e : Hid (inB l.length i = decide (i < l.length)) := by simp [Hid, inB, c]
    go_enter Try.func76, Try.ntmps76
    go_wp2_with fail
    refine (len_any _ _ _ _ h).mono ?_
    rintro e w1 ⟨rfl, rfl⟩
    go_wp2_with fail
    go_ret
    exact ⟨ret_b e.out.symm, rfl⟩
  · have e : Hid (inB l.length i = false) := by simp [Hid, inB, c]
    go_enter Try.func76, Try.ntmps76
    go_wp2_with fail
    go_ret
    exact ⟨ret_b e.out.symm, rfl⟩

theorem ret_uub {a b c d : Int} {x y : Bool} (h1 : a = b) (h2 : c = d) (h3 : x = y) : Ending.returned (.tuple #[.int .u64 a, .int .u64 c, .bool x]) = .returned (.tuple #[.int .u64 b, .int .u64 d, .bool y]) := by rw [h1, h2, h3]
set_option maxHeartbeats 800000 in
theorem load_nil (i : Int) (w : World) : Calls Try.prog 50 #[.pointer none, .int .i64 i] w fun e w' => e = .returned (.tuple #[.int .u64 0, .int .u64 0, .bool false]) ∧ w = w' := by
  go_enter Try.func50, Try.ntmps50
  go_wp2_with fail
  refine (has_nil _ _).mono ?_
  rintro e w1 ⟨rfl, rfl⟩
  go_wp2_with fail
  go_ret3
  exact ⟨rfl, rfl⟩
set_option maxHeartbeats 800000 in
theorem load_any (o g : Nat) (l : List (Int × Int)) (i : Int) (w : World) (h : CellsAt w o g l) :
    Calls Try.prog 50 #[.pointer (some ⟨o, 0, none⟩), .int .i64 i] w fun e w' => e = .returned (.tuple #[.int .u64 (loadW l i), .int .u64 (loadV l i), .bool (inB l.length i)]) ∧ Below w.heap.size w w' := by
  cases c : inB l.length i
  · have e := Lib.hid (ret_uub (loadW_no c) (loadV_no c) (Eq.refl false))
    go_enter Try.func50, Try.ntmps50
    go_wp2_with fail
    refine (has_any _ _ _ _ _ h).mono ?_
    rintro e w1 ⟨rfl, rfl⟩
    go_wp2_with fail
    go_ret3
    exact ⟨e.out.symm, Below.refl _ _⟩
  · have e := Lib.hid (ret_uub (loadW_yes c) (loadV_yes c) (Eq.refl true))
    obtain ⟨i0, i1⟩ := inB_yes c
    obtain ⟨k, rfl⟩ := Int.eq_ofNat_of_zero_le i0
    have hk : k < l.length := by omega
    have hl := h.len
    rw [Int.toNat_natCast] at e
    have c0 := h.head.at 0 rfl
    have r0 := h.rows.at _ (pairsA_0 l k hk)
    have r1 := h.rows.at _ (pairsA_1 l k hk)
    go_enter Try.func50, Try.ntmps50
    go_wp2_with fail
    refine (has_any _ _ _ _ _ h).mono ?_
    rintro e w1 ⟨rfl, rfl⟩
    go_wp2_with fail
    go_quiet (fail)
    go_wp2_with fail
    go_ret3
    exact ⟨e.out.symm, below_drewN (Below.refl _ _) _⟩

/-- only the block g was written -/
abbrev Only (w w' : World) (g : Nat) : Prop := w.grownBy w' (some g)
theorem only_refl (w : World) (row : Option Nat) : w.grownBy w row := ⟨rfl, rfl, rfl, Nat.le_refl _, fun _ _ _ => rfl⟩
theorem only_of_below {a w : World} (h : Below a.heap.size a w) (row : Option Nat) : a.grownBy w row := ⟨h.os, h.tape, h.output, h.size, fun i hi _ => h.block i hi⟩
theorem only_set {a w : World} {g : Nat} (h : a.grownBy w (some g)) (i : Nat) (v : Value) : a.grownBy (w.setCell ⟨g, i, none⟩ v) (some g) :=
  ⟨h.os, h.tape, h.output, by simpa using h.size, fun k hk hne => (Below.heap_setCell w _ v k (fun e => hne (by rw [e]))).trans (h.block k hk hne)⟩
theorem only_trans {a b c : World} {row : Option Nat} (h : a.grownBy b row) (k : b.grownBy c row) : a.grownBy c row :=
  ⟨k.os.trans h.os, k.tape.trans h.tape, k.output.trans h.output, Nat.le_trans h.size k.size, fun i hi hne => (k.block i (Nat.lt_of_lt_of_le hi h.size) hne).trans (h.block i hi hne)⟩
theorem CellsAt.write {w w1 : World} {o g : Nat} {l : List (Int × Int)} (h : CellsAt w o g l) (hb : Below w.heap.size w w1) (k : Nat) (hk : k < l.length) (a b : Int) (ha : 0 ≤ a ∧ a ≤ 18446744073709551615) (hv : 0 ≤ b ∧ b ≤ 18446744073709551615) :
    CellsAt ((w1.setCell ⟨g, k * 2, none⟩ (.int .u64 a)).setCell ⟨g, k * 2 + 1, none⟩ (.int .u64 b)) o g (l.set k (a, b)) := by
  have h1 := h.below hb
  refine ⟨?_, ?_, h.ne, h.rng.set _ _ ⟨ha, hv⟩, by simpa using h.len⟩
  · simpa using (h1.head.far ⟨g, k * 2, none⟩ (.int .u64 a) h.ne).far ⟨g, k * 2 + 1, none⟩ (.int .u64 b) h.ne
  · have := (h1.rows.set (k * 2) (.int .u64 a)).set (k * 2 + 1) (.int .u64 b)
    rwa [pairsA_set l k a b hk] at this

set_option maxHeartbeats 800000 in
theorem cas_any (o g : Nat) (l : List (Int × Int)) (i ver word : Int) (w : World) (h : CellsAt w o g l) (v0 : 0 ≤ ver) (v1 : ver ≤ 18446744073709551615) (x0 : 0 ≤ word) (x1 : word ≤ 18446744073709551615) :
    Calls Try.prog 68 #[.pointer (some ⟨o, 0, none⟩), .int .i64 i, .int .u64 ver, .int .u64 word] w fun e w' => e = .returned (.bool (casB l i ver)) ∧ CellsAt w' o g (casL l i ver word) ∧ Only w w' g := by
  cases c : casB l i ver
  · rw [casL_no word c]
    cases ci : inB l.length i
    · go_enter Try.func68, Try.ntmps68
      go_wp2_with fail
      refine (load_any _ _ _ _ _ h).mono ?_
      rintro e w1 ⟨rfl, hb1⟩
      have H1 := h.below hb1
      go_wp2_with fail
      go_ret
      exact ⟨rfl, H1, only_of_below hb1 _⟩
    · have hv : loadV l i ≠ ver := by
        intro e; rw [loadV_yes ci] at e; rw [casB, ci] at c; simp [e] at c
      have hq : (loadV l i != ver) = true := by simpa using hv
      clear hv c
      go_enter Try.func68, Try.ntmps68
      go_wp2_with fail
      refine (load_any _ _ _ _ _ h).mono ?_
      rintro e w1 ⟨rfl, hb1⟩
      have H1 := h.below hb1
      go_wp2_with fail
      go_ret
      exact ⟨rfl, H1, only_of_below hb1 _⟩
  · have hc := c
    simp only [casB, Bool.and_eq_true, decide_eq_true_eq] at hc
    obtain ⟨ci, cv⟩ := hc
    have hq : (loadV l i != ver) = false := by rw [loadV_yes ci]; simp [cv]
    have hE := Lib.hid (casL_yes word c)
    obtain ⟨i0, i1⟩ := inB_yes ci
    obtain ⟨k, rfl⟩ := Int.eq_ofNat_of_zero_le i0
    rw [Int.toNat_natCast] at cv
    have hk : k < l.length := by omega
    have hl := h.len
    have hW : Hid (writeL l k word = l.set k (word, nextV ver)) := by simp [Hid, writeL, cv]
    clear cv c
    go_enter Try.func68, Try.ntmps68
    go_wp2_with fail
    refine (load_any _ _ _ _ _ h).mono ?_
    rintro e w1 ⟨rfl, hb1⟩
    have H1 := h.below hb1
    have c0 := H1.head.at 0 rfl
    have r0 := H1.rows.at _ (pairsA_0 l k hk)
    have r1 := H1.rows.at _ (pairsA_1 l k hk)
    have f0 := H1.rows.free (k * 2)
    have f1 := H1.rows.free (k * 2 + 1)
    go_wp2_with fail
    go_ret
    refine ⟨rfl, ?_, only_set (only_set (only_of_below hb1 _) _ _) _ _⟩
    rw [hE.out, hW.out, show IntKind.u64.wrap (ver + 1) = nextV ver from IntKind.wrap_u64 _]
    exact h.write hb1 k hk _ _ ⟨x0, x1⟩ (nextV_rng _)

set_option maxHeartbeats 800000 in
theorem store_nil (i word : Int) (w : World) : Calls Try.prog 67 #[.pointer none, .int .i64 i, .int .u64 word] w fun e w' => e = .returned (.bool false) ∧ w = w' := by
  go_enter Try.func67, Try.ntmps67
  go_wp2_with fail
  refine (load_nil _ _).mono ?_
  rintro e w1 ⟨rfl, rfl⟩
  go_wp2_with fail
  go_ret
  exact ⟨rfl, rfl⟩
set_option maxHeartbeats 800000 in
theorem store_any (o g : Nat) (l : List (Int × Int)) (i word : Int) (w : World) (h : CellsAt w o g l) (x0 : 0 ≤ word) (x1 : word ≤ 18446744073709551615) :
    Calls Try.prog 67 #[.pointer (some ⟨o, 0, none⟩), .int .i64 i, .int .u64 word] w fun e w' => e = .returned (.bool (inB l.length i)) ∧ CellsAt w' o g (storeL l i word) ∧ Only w w' g := by
  cases c : inB l.length i
  · rw [storeL_no word c]
    go_enter Try.func67, Try.ntmps67
    go_wp2_with fail
    refine (load_any _ _ _ _ _ h).mono ?_
    rintro e w1 ⟨rfl, hb1⟩
    have H1 := h.below hb1
    go_wp2_with fail
    go_ret
    exact ⟨rfl, H1, only_of_below hb1 _⟩
  · have hv := loadV_yes c
    have hcb := casB_load c
    have hE := Lib.hid ((casL_yes word hcb).trans (storeL_yes word c).symm)
    rw [← hv] at hcb hE
    have hr := load_rng h.rng i
    clear hv
    go_enter Try.func67, Try.ntmps67
    go_wp2_with fail
    refine (load_any _ _ _ _ _ h).mono ?_
    rintro e w1 ⟨rfl, hb1⟩
    have H1 := h.below hb1
    go_wp2_with fail
    refine (cas_any _ _ _ _ _ _ _ H1 (by omega) (by omega) x0 x1).mono ?_
    rintro e w2 ⟨rfl, H2, hg2⟩
    rw [hE.out] at H2
    have H2' := Lib.hid H2
    clear H2
    go_wp2_with fail
    go_ret
    exact ⟨rfl, H2'.out, only_trans (only_of_below hb1 _) hg2⟩
end Go.Proofs.Ytpempcefgfmniaa.CellP

/-
  What the words of references, uses and gates are, in plain arithmetic (no program in sight).
-/
namespace Go.Proofs.Ytpempcefgfmniaa.RefP
set_option linter.unusedVariables false

def topW : Int := 18446744073709551615
theorem topW_eq : topW = 18446744073709551615 := rfl

def packI (p g : Int) : Int := if p < 0 ∨ 8192 ≤ p ∨ g < 1 ∨ 4294967295 < g then 0 else g * 16384 + p + 1
def useI (s g : Int) : Int := if s < 0 ∨ 2 < s ∨ 4294967295 < g then topW else g * 4 + s

theorem packI_no (p g : Int) (h : p < 0 ∨ 8192 ≤ p ∨ g < 1 ∨ 4294967295 < g) : packI p g = 0 := if_pos h
theorem packI_yes (p g : Int) (h1 : 0 ≤ p) (h2 : p < 8192) (h3 : 1 ≤ g) (h4 : g ≤ 4294967295) : packI p g = g * 16384 + p + 1 := if_neg (by omega)
theorem useI_no (s g : Int) (h : s < 0 ∨ 2 < s ∨ 4294967295 < g) : useI s g = topW := if_pos h
theorem useI_yes (s g : Int) (h1 : 0 ≤ s) (h2 : s ≤ 2) (h4 : g ≤ 4294967295) : useI s g = g * 4 + s := if_neg (by omega)

theorem packI_lo (p g : Int) : 0 ≤ packI p g := by unfold packI; split <;> omega
theorem packI_hi (p g : Int) : packI p g ≤ 18446744073709551615 := by unfold packI; split <;> omega
theorem useI_lo (s g : Int) (h : 0 ≤ g) : 0 ≤ useI s g := by unfold useI topW; split <;> omega
theorem useI_hi (s g : Int) : useI s g ≤ 18446744073709551615 := by unfold useI topW; split <;> omega

/-- does a word say a reference? -/
def opensB (x : Int) : Bool := decide (1 ≤ x % 16384 ∧ x % 16384 ≤ 8192 ∧ 1 ≤ x / 16384 ∧ x / 16384 ≤ 4294967295)
def openP (x : Int) : Int := if opensB x = true then x % 16384 - 1 else 0
def openG (x : Int) : Int := if opensB x = true then x / 16384 else 0

theorem opensB_yes {x : Int} (h : opensB x = true) : 1 ≤ x % 16384 ∧ x % 16384 ≤ 8192 ∧ 1 ≤ x / 16384 ∧ x / 16384 ≤ 4294967295 := of_decide_eq_true h
theorem opensB_no {x : Int} (h : opensB x = false) : ¬ (1 ≤ x % 16384 ∧ x % 16384 ≤ 8192 ∧ 1 ≤ x / 16384 ∧ x / 16384 ≤ 4294967295) := of_decide_eq_false h
theorem openP_yes {x : Int} (h : opensB x = true) : openP x = x % 16384 - 1 := if_pos h
theorem openG_yes {x : Int} (h : opensB x = true) : openG x = x / 16384 := if_pos h
theorem openP_no {x : Int} (h : opensB x = false) : openP x = 0 := if_neg (by simp [h])
theorem openG_no {x : Int} (h : opensB x = false) : openG x = 0 := if_neg (by simp [h])

/-- what was packed is told again -/
theorem pack_of_open (x : Int) (h : opensB x = true) : packI (x % 16384 - 1) (x / 16384) = x := by
  have := opensB_yes h
  rw [packI_yes _ _ (by omega) (by omega) (by omega) (by omega)]; omega
theorem pack_not_open (x : Int) (h0 : 0 ≤ x) (hx : x ≠ 0) (h : opensB x = false) : packI (x % 16384 - 1) (x / 16384) ≠ x := by
  have := opensB_no h
  rw [packI_no _ _ (by omega)]; omega
theorem open_of_pack (p g : Int) (h : packI p g ≠ 0) : opensB (packI p g) = true ∧ openP (packI p g) = p ∧ openG (packI p g) = g := by
  have hc : ¬ (p < 0 ∨ 8192 ≤ p ∨ g < 1 ∨ 4294967295 < g) := fun hc => h (packI_no p g hc)
  have e := packI_yes p g (by omega) (by omega) (by omega) (by omega)
  have ho : opensB (packI p g) = true := by rw [e]; exact decide_eq_true (by omega)
  refine ⟨ho, ?_, ?_⟩
  · rw [openP_yes ho, e]; omega
  · rw [openG_yes ho, e]; omega
theorem open_bounds (x : Int) : 0 ≤ openP x ∧ openP x ≤ 8191 ∧ 0 ≤ openG x ∧ openG x ≤ 4294967295 := by
  cases h : opensB x
  · rw [openP_no h, openG_no h]; omega
  · have := opensB_yes h
    rw [openP_yes h, openG_yes h]; omega

/-- does a word say a use? -/
def statesB (x : Int) : Bool := decide (x % 4 ≤ 2 ∧ x / 4 ≤ 4294967295)
def stateS (x : Int) : Int := if statesB x = true then x % 4 else 0
def stateG (x : Int) : Int := if statesB x = true then x / 4 else 0
theorem statesB_yes {x : Int} (h : statesB x = true) : x % 4 ≤ 2 ∧ x / 4 ≤ 4294967295 := of_decide_eq_true h
theorem statesB_no {x : Int} (h : statesB x = false) : ¬ (x % 4 ≤ 2 ∧ x / 4 ≤ 4294967295) := of_decide_eq_false h
theorem stateS_yes {x : Int} (h : statesB x = true) : stateS x = x % 4 := if_pos h
theorem stateG_yes {x : Int} (h : statesB x = true) : stateG x = x / 4 := if_pos h
theorem stateS_no {x : Int} (h : statesB x = false) : stateS x = 0 := if_neg (by simp [h])
theorem stateG_no {x : Int} (h : statesB x = false) : stateG x = 0 := if_neg (by simp [h])
theorem statesB_top : statesB 18446744073709551615 = false := decide_eq_false (by omega)
theorem use_of_state (x : Int) (h : statesB x = true) : useI (x % 4) (x / 4) = x := by
  have := statesB_yes h
  rw [useI_yes _ _ (by omega) (by omega) (by omega)]; omega
theorem use_not_state (x : Int) (hx : x ≠ topW) (h : statesB x = false) : useI (x % 4) (x / 4) ≠ x := by
  have := statesB_no h
  rw [useI_no _ _ (by omega)]; exact fun e => hx e.symm
theorem state_of_use (s g : Int) (h0 : 0 ≤ g) (h : useI s g ≠ topW) : statesB (useI s g) = true ∧ stateS (useI s g) = s ∧ stateG (useI s g) = g := by
  have hc : ¬ (s < 0 ∨ 2 < s ∨ 4294967295 < g) := fun hc => h (useI_no s g hc)
  have e := useI_yes s g (by omega) (by omega) (by omega)
  have ho : statesB (useI s g) = true := by rw [e]; exact decide_eq_true (by omega)
  refine ⟨ho, ?_, ?_⟩
  · rw [stateS_yes ho, e]; omega
  · rw [stateG_yes ho, e]; omega
theorem state_bounds (x : Int) (h0 : 0 ≤ x) : 0 ≤ stateS x ∧ stateS x ≤ 2 ∧ 0 ≤ stateG x ∧ stateG x ≤ 4294967295 := by
  cases h : statesB x
  · rw [stateS_no h, stateG_no h]; omega
  · have := statesB_yes h
    rw [stateS_yes h, stateG_yes h]; omega

/-- is there such a gate? -/
def gateB (s t x : Int) : Bool := decide (0 ≤ t ∧ t ≤ 15 ∧ (s = 0 ∧ t = 0 ∧ x = 0 ∨ (s = 1 ∨ s = 3) ∧ x = 0 ∨ s = 2 ∧ opensB x = true))
theorem gateB_yes {s t x : Int} (h : gateB s t x = true) : 0 ≤ t ∧ t ≤ 15 ∧ (s = 0 ∧ t = 0 ∧ x = 0 ∨ (s = 1 ∨ s = 3) ∧ x = 0 ∨ s = 2 ∧ opensB x = true) := of_decide_eq_true h
theorem gateB_no {s t x : Int} (h : gateB s t x = false) : ¬ (0 ≤ t ∧ t ≤ 15 ∧ (s = 0 ∧ t = 0 ∧ x = 0 ∨ (s = 1 ∨ s = 3) ∧ x = 0 ∨ s = 2 ∧ opensB x = true)) := of_decide_eq_false h
theorem gateB_mk {s t x : Int} (h : 0 ≤ t ∧ t ≤ 15 ∧ (s = 0 ∧ t = 0 ∧ x = 0 ∨ (s = 1 ∨ s = 3) ∧ x = 0 ∨ s = 2 ∧ opensB x = true)) : gateB s t x = true := decide_eq_true h
theorem gateB_mk_no {s t x : Int} (h : ¬ (0 ≤ t ∧ t ≤ 15 ∧ (s = 0 ∧ t = 0 ∧ x = 0 ∨ (s = 1 ∨ s = 3) ∧ x = 0 ∨ s = 2 ∧ opensB x = true))) : gateB s t x = false := decide_eq_false h
def shutI (s t x : Int) : Int := if gateB s t x = true then s * 4611686018427387904 + t * 72057594037927936 + x else topW
theorem shutI_yes {s t x : Int} (h : gateB s t x = true) : shutI s t x = s * 4611686018427387904 + t * 72057594037927936 + x := if_pos h
theorem shutI_no {s t x : Int} (h : gateB s t x = false) : shutI s t x = topW := if_neg (by simp [h])
theorem gateB_bounds {s t x : Int} (h : gateB s t x = true) (hx : 0 ≤ x) : 0 ≤ s ∧ s ≤ 3 ∧ 0 ≤ t ∧ t ≤ 15 ∧ x < 72057594037927936 := by
  obtain ⟨h1, h2, h3⟩ := gateB_yes h
  refine ⟨by omega, by omega, h1, h2, ?_⟩
  rcases h3 with h3 | h3 | ⟨_, h3⟩
  · omega
  · omega
  · have := opensB_yes h3; omega
theorem shutI_lo (s t x : Int) (hx : 0 ≤ x) : 0 ≤ shutI s t x := by
  cases h : gateB s t x
  · rw [shutI_no h, topW_eq]; omega
  · have := gateB_bounds h hx
    rw [shutI_yes h]; omega
theorem shutI_hi (s t x : Int) (hx : 0 ≤ x) : shutI s t x ≤ 18446744073709551615 := by
  cases h : gateB s t x
  · rw [shutI_no h, topW_eq]; omega
  · have := gateB_bounds h hx
    rw [shutI_yes h]; omega

/-- does a word say a gate? -/
def gatedB (x : Int) : Bool := gateB (x / 4611686018427387904) (x % 4611686018427387904 / 72057594037927936) (x % 72057594037927936)
def gatedS (x : Int) : Int := if gatedB x = true then x / 4611686018427387904 else 0
def gatedT (x : Int) : Int := if gatedB x = true then x % 4611686018427387904 / 72057594037927936 else 0
def gatedW (x : Int) : Int := if gatedB x = true then x % 72057594037927936 else 0
theorem gatedS_yes {x : Int} (h : gatedB x = true) : gatedS x = x / 4611686018427387904 := if_pos h
theorem gatedT_yes {x : Int} (h : gatedB x = true) : gatedT x = x % 4611686018427387904 / 72057594037927936 := if_pos h
theorem gatedW_yes {x : Int} (h : gatedB x = true) : gatedW x = x % 72057594037927936 := if_pos h
theorem gatedS_no {x : Int} (h : gatedB x = false) : gatedS x = 0 := if_neg (by simp [h])
theorem gatedT_no {x : Int} (h : gatedB x = false) : gatedT x = 0 := if_neg (by simp [h])
theorem gatedW_no {x : Int} (h : gatedB x = false) : gatedW x = 0 := if_neg (by simp [h])
theorem gatedB_top : gatedB 18446744073709551615 = false := by unfold gatedB; exact gateB_mk_no (by omega)
theorem shut_of_gated (x : Int) (h : gatedB x = true) : shutI (x / 4611686018427387904) (x % 4611686018427387904 / 72057594037927936) (x % 72057594037927936) = x := by
  rw [shutI_yes h]; omega
theorem shut_not_gated (x : Int) (hx : x ≠ topW) (h : gatedB x = false) : shutI (x / 4611686018427387904) (x % 4611686018427387904 / 72057594037927936) (x % 72057594037927936) ≠ x := by
  rw [shutI_no h]; exact fun e => hx e.symm
theorem gated_of_shut (s t x : Int) (hx : 0 ≤ x) (h : shutI s t x ≠ topW) : gatedB (shutI s t x) = true ∧ gatedS (shutI s t x) = s ∧ gatedT (shutI s t x) = t ∧ gatedW (shutI s t x) = x := by
  have hg : gateB s t x = true := by
    cases hg : gateB s t x
    · exact absurd (shutI_no hg) h
    · rfl
  have hb := gateB_bounds hg hx
  have e := shutI_yes hg
  have e1 : shutI s t x / 4611686018427387904 = s := by rw [e]; omega
  have e2 : shutI s t x % 4611686018427387904 / 72057594037927936 = t := by rw [e]; omega
  have e3 : shutI s t x % 72057594037927936 = x := by rw [e]; omega
  have ho : gatedB (shutI s t x) = true := by unfold gatedB; rw [e1, e2, e3]; exact hg
  exact ⟨ho, by rw [gatedS_yes ho, e1], by rw [gatedT_yes ho, e2], by rw [gatedW_yes ho, e3]⟩

/-! bits -/
theorem or_join (i a b : Nat) (hi : a % 2 ^ i = 0) (hb : b < 2 ^ i) (ha : a + b < 18446744073709551616) : bits .or .u64 (a : Int) (b : Int) = ((a + b : Nat) : Int) := by
  rw [u64_or_nat a b (by omega) (by omega), nat_join i a b hi hb]
theorem pack_bits (p g : Int) (h1 : 0 ≤ p) (h2 : p < 8192) (h3 : 1 ≤ g) (h4 : g ≤ 4294967295) : bits .or .u64 (g * 16384) (p + 1) = g * 16384 + p + 1 := by
  obtain ⟨p, rfl⟩ := Int.eq_ofNat_of_zero_le h1
  obtain ⟨g, rfl⟩ := Int.eq_ofNat_of_zero_le (show 0 ≤ g by omega)
  have := or_join 14 (g * 16384) (p + 1) (by omega) (by omega) (by omega)
  rw [show ((g : Int) * 16384) = ((g * 16384 : Nat) : Int) by omega, show ((p : Int) + 1) = ((p + 1 : Nat) : Int) by omega, this]; omega
theorem use_bits (s g : Int) (h1 : 0 ≤ s) (h2 : s ≤ 2) (h3 : 0 ≤ g) (h4 : g ≤ 4294967295) : bits .or .u64 (g * 4) s = g * 4 + s := by
  obtain ⟨s, rfl⟩ := Int.eq_ofNat_of_zero_le h1
  obtain ⟨g, rfl⟩ := Int.eq_ofNat_of_zero_le (show 0 ≤ g by omega)
  have := or_join 2 (g * 4) s (by omega) (by omega) (by omega)
  rw [show ((g : Int) * 4) = ((g * 4 : Nat) : Int) by omega, this]; omega
theorem shut_bits (s t x : Int) (h1 : 0 ≤ s) (h2 : s ≤ 3) (h3 : 0 ≤ t) (h4 : t ≤ 15) (h5 : 0 ≤ x) (h6 : x < 72057594037927936) :
    bits .or .u64 (bits .or .u64 (s * 4611686018427387904) (t * 72057594037927936)) x = s * 4611686018427387904 + t * 72057594037927936 + x := by
  obtain ⟨s, rfl⟩ := Int.eq_ofNat_of_zero_le h1
  obtain ⟨t, rfl⟩ := Int.eq_ofNat_of_zero_le h3
  obtain ⟨x, rfl⟩ := Int.eq_ofNat_of_zero_le h5
  have a := or_join 62 (s * 4611686018427387904) (t * 72057594037927936) (by omega) (by omega) (by omega)
  have b := or_join 56 (s * 4611686018427387904 + t * 72057594037927936) x (by omega) (by omega) (by omega)
  rw [show ((s : Int) * 4611686018427387904) = ((s * 4611686018427387904 : Nat) : Int) by omega, show ((t : Int) * 72057594037927936) = ((t * 72057594037927936 : Nat) : Int) by omega, a, b]; omega
theorem wrap_u64 (n : Int) : IntKind.u64.wrap n = n % 18446744073709551616 := by simp [IntKind.wrap, IntKind.bits, IntKind.signed]
end Go.Proofs.Ytpempcefgfmniaa.RefP

/-
  What a type's cells hold, in depth: a codec says of which plain thing some cells are, in a world, with rows that lie in none of some blocks. Numbers, bools, strings, records, rows. And how a law's arguments are opened. No program in sight.
-/
namespace Go.Proofs.Ytpempcefgfmniaa.Dp
open Go.ChangeShapes Go.WideShapes Go.ChangeAt Go.RowKit Go.Joins Go.Deep RefP
set_option linter.unusedVariables false
set_option linter.unusedSimpArgs false

/-- every block is as it was, but for some -/
structure Keeps (S : List Nat) (w w' : World) : Prop where
  size : w.heap.size ≤ w'.heap.size
  block : ∀ b, b < w.heap.size → b ∉ S → w'.heap[b]? = w.heap[b]?
theorem Keeps.refl (S : List Nat) (w : World) : Keeps S w w := ⟨Nat.le_refl _, fun _ _ _ => rfl⟩
theorem Keeps.trans {S : List Nat} {a b c : World} (h : Keeps S a b) (k : Keeps S b c) : Keeps S a c :=
  ⟨Nat.le_trans h.size k.size, fun i hi hn => (k.block i (Nat.lt_of_lt_of_le hi h.size) hn).trans (h.block i hi hn)⟩
theorem Keeps.of_below {S : List Nat} {w w' : World} (h : Below w.heap.size w w') : Keeps S w w' := ⟨h.size, fun b hb _ => h.block b hb⟩
theorem Keeps.of_grown {S : List Nat} {w w' : World} {row : Option Nat} (h : w.grownBy w' row) (hr : ∀ g, row = some g → g ∈ S) : Keeps S w w' :=
  ⟨h.size, fun b hb hn => h.block b hb (fun e => hn (hr b e.symm))⟩
theorem Keeps.set {S : List Nat} {w : World} (a : Addr) (v : Value) (h : a.block ∈ S) : Keeps S w (w.setCell a v) :=
  ⟨by simp, fun b _ hn => Below.heap_setCell w a v b (fun e => hn (e ▸ h))⟩
theorem Keeps.more {S S' : List Nat} {w w' : World} (h : Keeps S w w') (k : ∀ b ∈ S, b ∈ S') : Keeps S' w w' := ⟨h.size, fun b hb hn => h.block b hb (fun e => hn (k b e))⟩
theorem Keeps.cell {S : List Nat} {w w' : World} (h : Keeps S w w') {p : Addr} (hb : p.block < w.heap.size) (hn : p.block ∉ S) : w'.cell? p = w.cell? p := World.cell?_of_block (h.block _ hb hn)
/-- but for blocks that were not there -/
theorem Keeps.below {S : List Nat} {w w' : World} (h : Keeps S w w') (B : Nat) (hB : B ≤ w.heap.size) (hS : ∀ b ∈ S, B ≤ b) : ∀ b, b < B → w'.heap[b]? = w.heap[b]? :=
  fun b hb => h.block b (by omega) (fun e => by have := hS b e; omega)

structure Cod (α : Type) where
  k : Nat
  rep : World → List Nat → List Value → α → Prop
  len : ∀ {w S cs x}, rep w S cs x → cs.length = k
  one : ∀ {w S cs x}, rep w S cs x → ∀ v ∈ cs, v.oneCell' = true
  keep : ∀ {w w' S cs x}, rep w S cs x → Keeps S w w' → rep w' S cs x
  more : ∀ {w S S' cs x}, rep w S cs x → (∀ b ∈ S', b ∈ S ∨ w.heap.size ≤ b) → rep w S' cs x

def intC (k : IntKind) : Cod Int where
  k := 1
  rep _ _ cs x := cs = [.int k x] ∧ (Lit.int k x).wf = true
  len h := by rw [h.1]; rfl
  one h := by rw [h.1]; simp [Value.oneCell']
  keep h _ := h
  more h _ := h
def boolC : Cod Bool where
  k := 1
  rep _ _ cs x := cs = [.bool x]
  len h := by rw [h]; rfl
  one h := by rw [h]; simp [Value.oneCell']
  keep h _ := h
  more h _ := h
def strC : Cod ByteArray where
  k := 1
  rep _ _ cs x := cs = [.string x] ∧ x.size ≤ maxLen
  len h := by rw [h.1]; rfl
  one h := by rw [h.1]; simp [Value.oneCell']
  keep h _ := h
  more h _ := h
def unitC : Cod Unit where
  k := 0
  rep _ _ cs _ := cs = []
  len h := by rw [h]; rfl
  one h := by rw [h]; simp
  keep h _ := h
  more h _ := h
def pairC {α β : Type} (A : Cod α) (B : Cod β) : Cod (α × β) where
  k := A.k + B.k
  rep w S cs x := ∃ c d, cs = c ++ d ∧ A.rep w S c x.1 ∧ B.rep w S d x.2
  len h := by
    obtain ⟨c, d, rfl, h1, h2⟩ := h
    rw [List.length_append, A.len h1, B.len h2]
  one h := by
    obtain ⟨c, d, rfl, h1, h2⟩ := h
    intro v hv
    rcases List.mem_append.1 hv with hv | hv
    · exact A.one h1 v hv
    · exact B.one h2 v hv
  keep h k := by
    obtain ⟨c, d, e, h1, h2⟩ := h
    exact ⟨c, d, e, A.keep h1 k, B.keep h2 k⟩
  more h k := by
    obtain ⟨c, d, e, h1, h2⟩ := h
    exact ⟨c, d, e, A.more h1 k, B.more h2 k⟩
/-- the cells of a row: of which things they are -/
def RowRep {α : Type} (E : Cod α) (w : World) (S : List Nat) (a : Option Addr) (xs : List α) : Prop :=
  0 < xs.length → ∃ b off, a = some ⟨b, off, none⟩ ∧ b < w.heap.size ∧ b ∉ S ∧ ∀ i x, xs[i]? = some x → ∃ cs, E.rep w S cs x ∧ ∀ j v, cs[j]? = some v → w.cell? ⟨b, off + i * E.k + j, none⟩ = some v
theorem RowRep.keep {α : Type} {E : Cod α} {w w' : World} {S : List Nat} {a : Option Addr} {xs : List α} (h : RowRep E w S a xs) (k : Keeps S w w') : RowRep E w' S a xs := by
  intro h0
  obtain ⟨b, off, ha, hb, hs, hc⟩ := h h0
  refine ⟨b, off, ha, Nat.lt_of_lt_of_le hb k.size, hs, fun i x hx => ?_⟩
  obtain ⟨cs, hr, hv⟩ := hc i x hx
  exact ⟨cs, E.keep hr k, fun j v hj => (k.cell (p := ⟨b, _, none⟩) hb hs).trans (hv j v hj)⟩
theorem RowRep.more {α : Type} {E : Cod α} {w : World} {S S' : List Nat} {a : Option Addr} {xs : List α} (h : RowRep E w S a xs) (k : ∀ b ∈ S', b ∈ S ∨ w.heap.size ≤ b) : RowRep E w S' a xs := by
  intro h0
  obtain ⟨b, off, ha, hb, hs, hc⟩ := h h0
  refine ⟨b, off, ha, hb, fun e => ?_, fun i x hx => ?_⟩
  · rcases k b e with q | q
    · exact hs q
    · omega
  · obtain ⟨cs, hr, hv⟩ := hc i x hx
    exact ⟨cs, E.more hr k, hv⟩
theorem RowRep.nil {α : Type} (E : Cod α) (w : World) (S : List Nat) (a : Option Addr) : RowRep E w S a [] := fun h => absurd h (by simp)
def rowC {α : Type} (E : Cod α) : Cod (List α) where
  k := 1
  rep w S cs xs := ∃ a c, cs = [.slice a xs.length c] ∧ xs.length ≤ c ∧ c ≤ maxLen ∧ RowRep E w S a xs
  len h := by obtain ⟨a, c, rfl, _⟩ := h; rfl
  one h := by obtain ⟨a, c, rfl, _⟩ := h; simp [Value.oneCell']
  keep h k := by
    obtain ⟨a, c, e, h1, h2, h3⟩ := h
    exact ⟨a, c, e, h1, h2, h3.keep k⟩
  more h k := by
    obtain ⟨a, c, e, h1, h2, h3⟩ := h
    exact ⟨a, c, e, h1, h2, h3.more k⟩
/-- read under another name -/
def isoC {α β : Type} (A : Cod α) (f : β → α) : Cod β where
  k := A.k
  rep w S cs x := A.rep w S cs (f x)
  len h := A.len h
  one h := A.one h
  keep h k := A.keep h k
  more h k := A.more h k

/-! arguments opened -/
def Opens (P : Program) (t : TypeId) {α : Type} (C : Cod α) : Prop :=
  ∀ {H : Type} (enc : TypeId × Value → H) (w : World) (base : Nat) (sp : Nat → Bool) (held : Bool) (fuel : Nat) (cs : List Value) (y : DataW H × List MemPlace), DataW.trod enc P w base sp held fuel t cs = some y → ∃ x, C.rep w [] cs x
theorem opens_int {P : Program} {t : TypeId} {k : IntKind} (ht : P.underlying t = some (.int k)) : Opens P t (intC k) := by
  intro H enc w base sp held fuel cs y h
  obtain ⟨n, e, _, hw⟩ := DataW.trod_int ht h
  exact ⟨n, e, hw⟩
theorem opens_bool {P : Program} {t : TypeId} (ht : P.underlying t = some .bool) : Opens P t boolC := by
  intro H enc w base sp held fuel cs y h
  obtain ⟨n, e, _⟩ := DataW.trod_bool ht h
  exact ⟨n, e⟩
theorem opens_str {P : Program} {t : TypeId} (ht : P.underlying t = some .string) : Opens P t strC := by
  intro H enc w base sp held fuel cs y h
  obtain ⟨n, e, _, hs⟩ := DataW.trod_string ht h
  exact ⟨n, e, hs⟩
/-- fields from an offset on -/
def OpensAt (P : Program) (fs : List Field) (off : Nat) {α : Type} (C : Cod α) : Prop :=
  ∀ {H : Type} (enc : TypeId × Value → H) (w : World) (base : Nat) (sp : Nat → Bool) (held : Bool) (fuel : Nat) (cs : List Value), cs.length = off + C.k →
    (∀ f ∈ fs, ∃ y, DataW.trod enc P w base sp held fuel f.type ((cs.drop f.offset).take (P.cellsOf f.type)) = some y) → ∃ x, C.rep w [] (cs.drop off) x
theorem opens_nil {P : Program} {off : Nat} : OpensAt P [] off unitC := by
  intro H enc w base sp held fuel cs hl _
  have : cs.length = off := hl
  refine ⟨(), ?_⟩
  show cs.drop off = []
  exact List.drop_eq_nil_of_le (by omega)
theorem opens_cons {P : Program} {f : Field} {fs : List Field} {off : Nat} {α β : Type} {A : Cod α} {B : Cod β} (ho : f.offset = off) (hk : P.cellsOf f.type = A.k) (hA : Opens P f.type A) (hB : OpensAt P fs (off + A.k) B) : OpensAt P (f :: fs) off (pairC A B) := by
  intro H enc w base sp held fuel cs hl h
  obtain ⟨y, hy⟩ := h f (by simp)
  rw [ho, hk] at hy
  obtain ⟨x, hx⟩ := hA enc w base sp held fuel _ y hy
  obtain ⟨z, hz⟩ := hB enc w base sp held fuel cs (by rw [hl]; show off + (A.k + B.k) = _; omega) (fun g hg => h g (by simp [hg]))
  refine ⟨(x, z), _, _, ?_, hx, hz⟩
  rw [← List.drop_drop, List.take_append_drop]
theorem opens_struct {P : Program} {t : TypeId} {fs : Array Field} {α : Type} {C : Cod α} (ht : P.underlying t = some (.struct fs)) (hk : P.cellsOf t = C.k) (h : OpensAt P fs.toList 0 C) : Opens P t C := by
  intro H enc w base sp held fuel cs y hy
  obtain ⟨xs, n, _, _, hl, hxs, hf⟩ := DataW.trod_struct ht hy
  obtain ⟨x, hx⟩ := h enc w base sp held n cs (by omega) (fun f hfm => by
    obtain ⟨i, hi, rfl⟩ := List.getElem_of_mem hfm
    have hi' : i < fs.size := by simpa using hi
    have := hf i fs[i] (by simp [hi'])
    rw [List.getElem?_eq_getElem (by omega)] at this
    exact ⟨_, this⟩)
  exact ⟨x, by simpa using hx⟩
theorem opens_iso {P : Program} {t : TypeId} {α β : Type} {C : Cod α} (f : β → α) (g : α → β) (hg : ∀ x, f (g x) = x) (h : Opens P t C) : Opens P t (isoC C f) := by
  intro H enc w base sp held fuel cs y hy
  obtain ⟨x, hx⟩ := h enc w base sp held fuel cs y hy
  exact ⟨g x, by show C.rep w [] cs (f (g x)); rw [hg]; exact hx⟩
theorem list_of_get {α : Type} (n : Nat) (p : Nat → α → Prop) (h : ∀ i, i < n → ∃ x, p i x) : ∃ l : List α, l.length = n ∧ ∀ i x, l[i]? = some x → p i x := by
  induction n with
  | zero => exact ⟨[], rfl, fun i x hx => by simp at hx⟩
  | succ n ih =>
    obtain ⟨l, hl, hp⟩ := ih (fun i hi => h i (by omega))
    obtain ⟨x, hx⟩ := h n (by omega)
    refine ⟨l ++ [x], by simp [hl], fun i y hy => ?_⟩
    by_cases hi : i < l.length
    · rw [List.getElem?_append_left hi] at hy
      exact hp i y hy
    · rw [List.getElem?_append_right (by omega)] at hy
      have : i = l.length := by
        by_cases e : i - l.length = 0
        · omega
        · rw [List.getElem?_eq_none (by simp; omega)] at hy; cases hy
      subst this
      simp at hy
      subst hy
      rw [hl]; exact hx
theorem opens_row {P : Program} {t e : TypeId} {α : Type} {E : Cod α} (ht : P.underlying t = some (.slice e)) (hk : P.cellsOf e = E.k) (hpos : 0 < E.k) (h : Opens P e E) : Opens P t (rowC E) := by
  intro H enc w base sp held fuel cs y hy
  rcases open_slice ht hy with ⟨rfl, _⟩ | ⟨a, len, cap, m, n, D, Pl, rfl, hb, hl, hm, hmm, _, hi⟩
  · exact ⟨[], none, 0, rfl, Nat.le_refl _, Nat.zero_le _, RowRep.nil _ _ _ _⟩
  · have hE : ∀ i, i < len → ∃ x, ∃ cs', E.rep w [] cs' x ∧ ∀ j v, cs'[j]? = some v → w.cell? (a.add (i * E.k + j)) = some v := by
      intro i hil
      obtain ⟨cs', hc, ht'⟩ := hi i (by rw [hmm]; split <;> omega)
      obtain ⟨x, hx⟩ := h enc w base sp held n cs' _ ht'
      rw [hk] at hc
      obtain ⟨_, hcl, hat⟩ := World.cells?_some hc
      refine ⟨x, cs', hx, fun j v hj => ?_⟩
      have hj' : j < E.k := by
        rw [← hcl]
        exact (List.getElem?_eq_some_iff.1 hj).1
      rw [← Go.Deep.add_add, hat j hj', hj]
    obtain ⟨xs, hxl, hxs⟩ := list_of_get len _ hE
    refine ⟨xs, some a, cap, by rw [hxl], by rw [hxl]; exact hl, hm, fun h0 => ?_⟩
    obtain ⟨cs0, hr0, hc0⟩ := hxs 0 (xs[0]'h0) (List.getElem?_eq_getElem h0)
    have hk0 := E.len hr0
    have hc00 := hc0 0 (cs0[0]'(by omega)) (List.getElem?_eq_getElem (by omega))
    obtain ⟨b, off, spot⟩ := a
    have hspot : spot = none := by simpa [Addr.add] using World.cell?_spot hc00
    subst hspot
    have hadd : ∀ i, (⟨b, off, none⟩ : Addr).add i = ⟨b, off + i, none⟩ := by
      intro i
      unfold Addr.add
      by_cases h : i = 0 <;> simp [h]
    rw [hadd] at hc00
    refine ⟨b, off, rfl, block_lt_of_cell hc00, by simp, fun i x hx => ?_⟩
    obtain ⟨cs', hr, hc⟩ := hxs i x hx
    refine ⟨cs', hr, fun j v hj => ?_⟩
    have := hc j v hj
    rw [hadd, ← Nat.add_assoc] at this
    exact this
/-- an argument that is a struct, by value, or a slice -/
theorem opens_agg {P : Program} {t : TypeId} {α : Type} {C : Cod α} (h : Opens P t C) {H : Type} {enc : TypeId × Value → H} {W : World} {base base' : Nat} {sp : Nat → Bool} {held : Bool} {v : Value} {d : DataW H} {p : List MemPlace} {fs : Array Field} (ht : P.underlying t = some (.struct fs))
    (hv : Value.okWide P W .any base t v) (hd : DataW.Trod enc P W base' sp held t v d p) : ∃ cs x, v = .agg cs ∧ C.rep W [] cs.toList x := by
  rw [Value.okWide] at hv
  rw [ht] at hv
  obtain ⟨cs, rfl, _, _⟩ := hv
  obtain ⟨fuel, hf⟩ := hd
  obtain ⟨x, hx⟩ := h enc W base' sp held fuel _ _ hf
  exact ⟨cs, x, rfl, by simpa [Value.cells] using hx⟩
theorem opens_slice {P : Program} {t e : TypeId} {α : Type} {E : Cod α} (h : Opens P t (rowC E)) {H : Type} {enc : TypeId × Value → H} {W : World} {base base' : Nat} {sp : Nat → Bool} {held : Bool} {v : Value} {d : DataW H} {p : List MemPlace} (ht : P.underlying t = some (.slice e))
    (hv : Value.okWide P W .any base t v) (hd : DataW.Trod enc P W base' sp held t v d p) : ∃ a c xs, v = .slice a xs.length c ∧ xs.length ≤ c ∧ xs.length ≤ maxLen ∧ RowRep E W [] a xs := by
  obtain ⟨a0, len, cap, rfl⟩ := okWide_slice ht hv
  obtain ⟨fuel, hf⟩ := hd
  obtain ⟨xs, a, c, e1, h1, h2, h3⟩ := h enc W base' sp held fuel _ _ hf
  simp [Value.cells] at e1
  obtain ⟨rfl, rfl, rfl⟩ := e1
  exact ⟨a0, cap, xs, rfl, h1, Nat.le_trans h1 h2, h3⟩
end Go.Proofs.Ytpempcefgfmniaa.Dp

/-
  What threads share: where cells are, and how a memory lies. Plain laws.
-/
namespace Go.Proofs.Ytpempcefgfmniaa.MemP
open Go.RowKit RefP CellP
set_option linter.unusedVariables false
set_option linter.unusedSimpArgs false

/-- all is as it was, but for some blocks -/
structure Fr (S : List Nat) (w w' : World) : Prop where
  os : w'.os = w.os
  tape : w'.tape = w.tape
  output : w'.output = w.output
  size : w.heap.size ≤ w'.heap.size
  block : ∀ b, b < w.heap.size → b ∉ S → w'.heap[b]? = w.heap[b]?
theorem Fr.refl (S : List Nat) (w : World) : Fr S w w := ⟨rfl, rfl, rfl, Nat.le_refl _, fun _ _ _ => rfl⟩
theorem Fr.trans {S : List Nat} {a b c : World} (h : Fr S a b) (k : Fr S b c) : Fr S a c :=
  ⟨k.os.trans h.os, k.tape.trans h.tape, k.output.trans h.output, Nat.le_trans h.size k.size, fun i hi hn => (k.block i (Nat.lt_of_lt_of_le hi h.size) hn).trans (h.block i hi hn)⟩
theorem Fr.of_below {S : List Nat} {w w' : World} (h : Below w.heap.size w w') : Fr S w w' := ⟨h.os, h.tape, h.output, h.size, fun b hb _ => h.block b hb⟩
theorem Fr.of_grown {S : List Nat} {w w' : World} {row : Option Nat} (h : w.grownBy w' row) (hr : ∀ g, row = some g → g ∈ S) : Fr S w w' :=
  ⟨h.os, h.tape, h.output, h.size, fun b hb hn => h.block b hb (fun e => hn (hr b e.symm))⟩
theorem Fr.set {S : List Nat} {a w : World} (h : Fr S a w) (p : Addr) (v : Value) (hp : p.block ∈ S ∨ a.heap.size ≤ p.block) : Fr S a (w.setCell p v) :=
  ⟨h.os, h.tape, h.output, by simpa using h.size, fun b hb hn => (Below.heap_setCell w p v b (fun e => by
    rcases hp with q | q
    · exact hn (e ▸ q)
    · omega)).trans (h.block b hb hn)⟩
theorem Fr.more {S S' : List Nat} {w w' : World} (h : Fr S w w') (k : ∀ b ∈ S, b ∈ S') : Fr S' w w' := ⟨h.os, h.tape, h.output, h.size, fun b hb hn => h.block b hb (fun e => hn (k b e))⟩
theorem Fr.keeps {S : List Nat} {w w' : World} (h : Fr S w w') : Dp.Keeps S w w' := ⟨h.size, h.block⟩
theorem Fr.below {S : List Nat} {B : Nat} {a w w' : World} (h : Fr S w w') (hb : Below B a w) (hB : B ≤ a.heap.size) (hS : ∀ b ∈ S, B ≤ b) : Below B a w' :=
  ⟨h.os.trans hb.os, h.tape.trans hb.tape, h.output.trans hb.output, Nat.le_trans hb.size h.size, fun b hlt => (h.block b (Nat.lt_of_lt_of_le hlt (Nat.le_trans hB hb.size)) (fun e => by have := hS b e; omega)).trans (hb.block b hlt)⟩
theorem Fr.blk {S : List Nat} {w w' : World} (h : Fr S w w') {b : Nat} {cs : Array Value} {T : TypeId} (k : Blk w b cs T) (hn : b ∉ S) : Blk w' b cs T := ⟨(h.block b k.lt hn).trans k.h⟩
/-- where a region begins -/
def fromI (A T : Nat) (j : Nat) : Int :=
  match j with
  | 0 => 0
  | 1 => A
  | 2 => 2 * A
  | 3 => 2 * A + T
  | 4 => 2 * A + 2 * T
  | 5 => 2 * A + 3 * T
  | 6 => 2 * A + 5 * T
  | _ => 2 * A + 5 * T + 1
/-- how many cells it has -/
def sizeI (A T : Nat) (j : Nat) : Int :=
  match j with
  | 0 => A
  | 1 => A
  | 5 => 2 * T
  | 6 => 1
  | _ => T
def atI (A T r : Nat) (i : Int) : Int := if 0 ≤ i ∧ i < sizeI A T r then fromI A T r + i else -1
theorem atI_yes {A T r : Nat} {i : Int} (h0 : 0 ≤ i) (h1 : i < sizeI A T r) : atI A T r i = fromI A T r + i := if_pos ⟨h0, h1⟩
theorem atI_no {A T r : Nat} {i : Int} (h : ¬ (0 ≤ i ∧ i < sizeI A T r)) : atI A T r i = -1 := if_neg h
theorem from_succ (A T : Nat) (j : Nat) (h : j < 7) : fromI A T j + sizeI A T j = fromI A T (j + 1) := by
  have : j = 0 ∨ j = 1 ∨ j = 2 ∨ j = 3 ∨ j = 4 ∨ j = 5 ∨ j = 6 := by omega
  rcases this with h | h | h | h | h | h | h <;> subst h <;> simp [fromI, sizeI] <;> omega
theorem from_rng (A T j : Nat) (hA : A ≤ 8192) (hT : T ≤ 16) : 0 ≤ fromI A T j ∧ fromI A T j ≤ 17000 := by
  unfold fromI; split <;> omega
theorem size_rng (A T j : Nat) (hA : A ≤ 8192) (hT : T ≤ 16) : 0 ≤ sizeI A T j ∧ sizeI A T j ≤ 8192 := by
  unfold sizeI; split <;> omega
/-- the beginnings behind k rounds -/
def fk (A T k j : Nat) : Int := if j ≤ k then fromI A T j else 0
theorem fk_all (A T j : Nat) (h : j ≤ 7) : fk A T 7 j = fromI A T j := if_pos h

abbrev rawF (cs : List Value) (j : Nat) : Value := cs.getD j undef
abbrev rawA (k : Nat) (l : List (List Value)) : Array Value := recA k rawF [] l
/-- the cells of a memory's object -/
def memA (p : Value) (F : Nat → Int) (gb A gr T : Nat) : Array Value :=
  #[p, .int .i64 (F 0), .int .i64 (F 1), .int .i64 (F 2), .int .i64 (F 3), .int .i64 (F 4), .int .i64 (F 5), .int .i64 (F 6), .int .i64 (F 7), .slice (some ⟨gb, 0, none⟩) A A, .slice (some ⟨gr, 0, none⟩) T T]
/-- a memory: its object, its cells, its blocks and records (their raw cells) -/
structure MemAt (w : World) (o oc g gb gr A T : Nat) (L : List (Int × Int)) (bs rs : List (List Value)) : Prop where
  head : Blk w o (memA (.pointer (some ⟨oc, 0, none⟩)) (fromI A T) gb A gr T) 48
  cells : CellsAt w oc g L
  blocks : Blk w gb (rawA 17 bs) 35
  records : Blk w gr (rawA 5 rs) 37
  len : L.length = 2 * A + 5 * T + 1
  lb : bs.length = A
  lr : rs.length = T
  a1 : 1 ≤ A ∧ A ≤ 8192
  t1 : 1 ≤ T ∧ T ≤ 16
  ne : o ≠ g ∧ o ≠ gb ∧ o ≠ gr ∧ oc ≠ gb ∧ oc ≠ gr ∧ g ≠ gb ∧ g ≠ gr ∧ gb ≠ gr
theorem MemAt.below {w w' : World} {o oc g gb gr A T : Nat} {L : List (Int × Int)} {bs rs : List (List Value)} (h : MemAt w o oc g gb gr A T L bs rs) (hb : Below w.heap.size w w') : MemAt w' o oc g gb gr A T L bs rs :=
  ⟨h.head.below hb, h.cells.below hb, h.blocks.below hb, h.records.below hb, h.len, h.lb, h.lr, h.a1, h.t1, h.ne⟩
theorem MemAt.from {w : World} {o oc g gb gr A T : Nat} {L : List (Int × Int)} {bs rs : List (List Value)} (h : MemAt w o oc g gb gr A T L bs rs) (j : Nat) (hj : j ≤ 7) : w.cell? ⟨o, 1 + j, none⟩ = some (.int .i64 (fromI A T j)) := by
  have : j = 0 ∨ j = 1 ∨ j = 2 ∨ j = 3 ∨ j = 4 ∨ j = 5 ∨ j = 6 ∨ j = 7 := by omega
  rcases this with e | e | e | e | e | e | e | e <;> subst e <;> exact h.head.at _ rfl
/-- the cells at first -/
def freshW (A T : Nat) (gen : Int) (i : Nat) : Int := if i = 0 then packI 0 (nextV gen) else if i = A then useI 1 (nextV gen) else if A < i ∧ i < 2 * A then useI 0 gen else 0
def freshL (A T : Nat) (gen : Int) : List (Int × Int) := (List.range (2 * A + 5 * T + 1)).map fun i => (freshW A T gen i, 0)
end Go.Proofs.Ytpempcefgfmniaa.MemP

/-
  The example of chapter 8 is true.
-/
namespace Go.Proofs.Ytpempcefgfmniaa.CellP
open Go.RowKit RefP
set_option linter.unusedVariables false
set_option linter.unusedSimpArgs false
theorem ex1 : casB (List.replicate 2 (0, 0)) 0 0 = true := by decide
theorem ex2 : casL (List.replicate 2 (0, 0)) 0 0 7 = [(7, 1), (0, 0)] := by decide
theorem ex3 : casB [(7, 1), (0, 0)] 0 0 = false := by decide
theorem ex4 : casL [(7, 1), (0, 0)] 0 0 8 = [(7, 1), (0, 0)] := by decide
theorem ex5 : loadW [(7, 1), (0, 0)] 0 = 7 ∧ loadV [(7, 1), (0, 0)] 0 = 1 ∧ inB [((7 : Int), (1 : Int)), (0, 0)].length 0 = true := by decide
end Go.Proofs.Ytpempcefgfmniaa.CellP

/-
  cell.Clone, the document's Write, and the law's like: contracts.
-/
namespace Go.Proofs.Ytpempcefgfmniaa.CellP
open Go.RowKit RefP
set_option linter.unusedVariables false
set_option linter.unusedSimpArgs false

theorem infoCell : (Try.prog.info? 76).map (fun i => (i.zero, i.size, i.bytes)) = some (some (.agg #[.int .u64 0, .int .u64 0]), 2, 16) := by kernel_rfl
/-- new pairs in which one was written -/
def WroteAt (w : World) (l : List (Int × Int)) (e : Ending) (w' : World) : Prop :=
  ∃ a c, e = .returned (.slice a l.length c) ∧ PairsS w' a l ∧ Below w.heap.size w w' ∧ ∀ b off, a = some ⟨b, off, none⟩ → w.heap.size ≤ b

set_option maxHeartbeats 1600000 in
theorem write_any (a : Option Addr) (c : Nat) (l : List (Int × Int)) (i word : Int) (w : World) (h : PairsS w a l) (hin : inB l.length i = true) (x0 : 0 ≤ word) (x1 : word ≤ 18446744073709551615) :
    Calls Try.prog 59 #[.slice a l.length c, .int .i64 i, .int .u64 word] w (WroteAt w (writeL l i word)) := by
  obtain ⟨i0, i1⟩ := inB_yes hin
  obtain ⟨k, rfl⟩ := Int.eq_ofNat_of_zero_le i0
  have hk : k < l.length := by omega
  have hl := h.len
  have hW : Hid (writeL l k word = l.set k (word, nextV (at2 l k).2)) := by simp [Hid, writeL]
  obtain ⟨b, off, rfl, hbl, hc⟩ := h.row.get (by omega)
  obtain ⟨i0', hi, hz0, hz1, hz2⟩ := info_parts infoCell
  have e0 : (Value.agg #[.int .u64 0, .int .u64 0]).cells = #[.int .u64 0, .int .u64 0] := by simp [Value.cells]
  obtain ⟨g, cap, w1, A⟩ := appended (P := Try.prog) (w := w.alloc (.cells #[] 76)) (c' := c) 67 w.heap.size 76 i0' _ 2 16 Try.underlying67 hi hz0 hz1 hz2 (by rw [e0]; rfl) (by omega)
    (Owns.empty w w.heap.size _ 2 (fun _ => undef) (Nat.le_refl _)) (h.row.below (by (repeat (first | exact Below.refl _ _ | assumption | refine below_alloc2 ?_ (by first | exact Nat.le_refl _ | omega) _ | refine Below.drew ?_ | refine below_drewN ?_ _ | refine below_push2 ?_ ‹_› (by first | exact Nat.le_refl _ | omega) | refine Below.setCell ?_ (by first | (simp; done) | (simp; omega) | omega) _)))) (fun j _ => rfl) (by omega) (by unfold maxLen; omega) (by omega) (by simp)
  have hrun := A.run
  have R : PairsS w1 (some ⟨g, 0, none⟩) l := ⟨A.own.holds.congr' (by omega) (fun j hj => by simp), h.rng, h.len⟩
  have hg : w.heap.size ≤ g := A.own.blk g 0 rfl
  have hB := A.below w (by (repeat (first | exact Below.refl _ _ | assumption | refine below_alloc2 ?_ (by first | exact Nat.le_refl _ | omega) _ | refine Below.drew ?_ | refine below_drewN ?_ _ | refine below_push2 ?_ ‹_› (by first | exact Nat.le_refl _ | omega) | refine Below.setCell ?_ (by first | (simp; done) | (simp; omega) | omega) _))) (by simp)
  have hfr := fun j => A.own.frozenAt j
  have hlt := A.lt
  simp only [Nat.zero_add] at hrun hfr
  replace hrun := Lib.hid hrun
  obtain ⟨b', off', e', _, r0, r1⟩ := R.cell k hk
  simp only [Option.some.injEq, Addr.mk.injEq, and_true] at e'
  obtain ⟨rfl, rfl⟩ := e'
  have f0 := hfr (k * 2)
  have f1 := hfr (k * 2 + 1)
  simp only [Nat.zero_add] at r0 r1
  clear hfr A hi hz0 hz1 hz2 e0 hin i1
  have hkl : (k : Int) < (l.length : Int) := by omega
  go_enter Try.func59, Try.ntmps59
  go_wp2_with (at_builtin; refine wpList_append_run hrun.out rfl (by rfl) (by rfl) (by rfl) ?_)
  go_ret
  refine ⟨some ⟨g, 0, none⟩, cap, ?_, ?_, (hB.setCell hg _).setCell hg _, fun b off e => ?_⟩
  · rw [writeL_length]; rfl
  · rw [hW.out]
    have S := Holds.set (Holds.set R.row (k * 2) (by omega) (.int .u64 word)) (k * 2 + 1) (by omega) (.int .u64 (IntKind.u64.wrap ((at2 l k).2 + 1)))
    simp only [Nat.zero_add] at S
    refine ⟨?_, h.rng.set _ _ ⟨⟨x0, x1⟩, nextV_rng _⟩, by simpa using hl⟩
    rw [List.length_set]
    refine S.congr fun j _ => ?_
    rw [show IntKind.u64.wrap ((at2 l k).2 + 1) = nextV (at2 l k).2 from IntKind.wrap_u64 _]
    exact pairF_set hk j
  · simp only [Option.some.injEq, Addr.mk.injEq, and_true] at e
    omega

/-- the first k are those, the rest are fresh -/
def mixed (l : List (Int × Int)) (k : Nat) : List (Int × Int) := l.take k ++ List.replicate (l.length - k) (0, 0)
theorem mixed_length (l : List (Int × Int)) (k : Nat) (h : k ≤ l.length) : (mixed l k).length = l.length := by simp [mixed]; omega
theorem mixed_zero (l : List (Int × Int)) : mixed l 0 = List.replicate l.length (0, 0) := by simp [mixed]
theorem mixed_all (l : List (Int × Int)) : mixed l l.length = l := by simp [mixed]
theorem mixed_succ (l : List (Int × Int)) (k : Nat) (h : k < l.length) : (mixed l k).set k (at2 l k) = mixed l (k + 1) := by
  apply List.ext_getElem?
  intro j
  have e : at2 l k = l[k] := at2_of l k h
  rw [e]
  simp only [mixed, List.getElem?_set, List.getElem?_append, List.getElem?_take, List.getElem?_replicate, List.length_take, List.length_append, List.length_replicate]
  by_cases h1 : k = j
  · subst h1
    have : min k l.length = k := by omega
    have h2 : k < min (k + 1) l.length := by omega
    simp [h2, h]; omega
  · by_cases h3 : j < k
    · have h4 : j < min k l.length := by omega
      have h5 : j < min (k + 1) l.length := by omega
      have h6 : j < k + 1 := by omega
      simp [h1, h4, h5, h3, h6]
    · have h4 : ¬ j < min k l.length := by omega
      have h5 : ¬ j < min (k + 1) l.length := by omega
      simp only [h1, h4, h5, if_false]
      have : (j - min k l.length < l.length - k) ↔ (j - min (k + 1) l.length < l.length - (k + 1)) := by omega
      simp [this]
theorem at2_pair (l : List (Int × Int)) (k : Nat) : ((at2 l k).1, (at2 l k).2) = at2 l k := rfl

structure CloneRel (w : World) (o g o' g' : Nat) (l : List (Int × Int)) (k : Nat) (wr : World) : Prop where
  b : Below w.heap.size w wr
  src : CellsAt wr o g l
  dst : CellsAt wr o' g' (mixed l k)
  og : w.heap.size ≤ o' ∧ w.heap.size ≤ g' ∧ o < w.heap.size ∧ g < w.heap.size
theorem CellsAt.only {w w' : World} {o g r : Nat} {l : List (Int × Int)} (h : CellsAt w o g l) (hg : w.grownBy w' (some r)) (h1 : o ≠ r) (h2 : g ≠ r) : CellsAt w' o g l :=
  ⟨h.head.grown hg (by intro e; injection e; contradiction), h.rows.grown hg (by intro e; injection e; contradiction), h.ne, h.rng, h.len⟩
theorem CloneRel.next {w : World} {o g o' g' : Nat} {l : List (Int × Int)} {k : Nat} {wr : World} (h : CloneRel w o g o' g' l k wr) (hk : k < l.length) {wx : World} (hd : Below wr.heap.size wr wx) :
    CloneRel w o g o' g' l (k + 1) ((wx.setCell ⟨g', k * 2, none⟩ (.int .u64 (at2 l k).1)).setCell ⟨g', k * 2 + 1, none⟩ (.int .u64 (at2 l k).2)) := by
  have hr := h.src.rng.at k
  have hw := h.dst.write hd k (by rw [mixed_length l k (by omega)]; exact hk) _ _ hr.1 hr.2
  rw [at2_pair, mixed_succ l k hk] at hw
  obtain ⟨g1, g2, g3, g4⟩ := h.og
  have ho : wr.grownBy ((wx.setCell ⟨g', k * 2, none⟩ (.int .u64 (at2 l k).1)).setCell ⟨g', k * 2 + 1, none⟩ (.int .u64 (at2 l k).2)) (some g') := only_set (only_set (only_of_below hd _) _ _) _ _
  exact ⟨below_only h.b ho (Nat.le_refl _) g2, h.src.only ho (by omega) (by omega), hw, h.og⟩

end Go.Proofs.Ytpempcefgfmniaa.CellP

/-
  What the functions of package ref, and the document's, compute: contracts, each for every argument.
-/
namespace Go.Proofs.Ytpempcefgfmniaa.RefP
open Go.RowKit
set_option linter.unusedVariables false

set_option maxHeartbeats 800000 in
theorem pack_any (p g : Int) (w : World) (h0 : -9223372036854775808 ≤ p) (h1 : p ≤ 9223372036854775807) (h2 : 0 ≤ g) (h3 : g ≤ 18446744073709551615) :
    Calls Try.prog 77 #[.int .i64 p, .int .u64 g] w fun e w' => e = .returned (.int .u64 (packI p g)) ∧ w = w' := by
  by_cases c1 : p < 0
  · rw [packI_no p g (by omega)]
    go_enter Try.func77, Try.ntmps77
    go_wp2
    go_ret
    exact ⟨rfl, rfl⟩
  by_cases c2 : 8192 ≤ p
  · rw [packI_no p g (by omega)]
    go_enter Try.func77, Try.ntmps77
    go_wp2
    go_ret
    exact ⟨rfl, rfl⟩
  by_cases c3 : g < 1
  · rw [packI_no p g (by omega)]
    go_enter Try.func77, Try.ntmps77
    go_wp2
    go_ret
    exact ⟨rfl, rfl⟩
  by_cases c4 : 4294967295 < g
  · rw [packI_no p g (by omega)]
    go_enter Try.func77, Try.ntmps77
    go_wp2
    go_ret
    exact ⟨rfl, rfl⟩
  rw [packI_yes p g (by omega) (by omega) (by omega) (by omega)]
  go_enter Try.func77, Try.ntmps77
  go_wp2
  go_ret
  exact ⟨ret_u64 (pack_bits p g (by omega) (by omega) (by omega) (by omega)), rfl⟩

set_option maxHeartbeats 800000 in
theorem dpack_any (p g : Int) (w : World) (h0 : -9223372036854775808 ≤ p) (h1 : p ≤ 9223372036854775807) (h2 : 0 ≤ g) (h3 : g ≤ 18446744073709551615) :
    Calls Try.prog 43 #[.int .i64 p, .int .u64 g] w fun e w' => e = .returned (.int .u64 (packI p g)) ∧ w = w' := by
  by_cases c1 : p < 0
  · rw [packI_no p g (by omega)]
    go_enter Try.func43, Try.ntmps43
    go_wp2
    go_ret
    exact ⟨rfl, rfl⟩
  by_cases c2 : 8192 ≤ p
  · rw [packI_no p g (by omega)]
    go_enter Try.func43, Try.ntmps43
    go_wp2
    go_ret
    exact ⟨rfl, rfl⟩
  by_cases c3 : g < 1
  · rw [packI_no p g (by omega)]
    go_enter Try.func43, Try.ntmps43
    go_wp2
    go_ret
    exact ⟨rfl, rfl⟩
  by_cases c4 : 4294967295 < g
  · rw [packI_no p g (by omega)]
    go_enter Try.func43, Try.ntmps43
    go_wp2
    go_ret
    exact ⟨rfl, rfl⟩
  rw [packI_yes p g (by omega) (by omega) (by omega) (by omega)]
  go_enter Try.func43, Try.ntmps43
  go_wp2
  go_ret
  exact ⟨rfl, rfl⟩

set_option maxHeartbeats 800000 in
theorem use_any (p g : Int) (w : World) (h0 : -9223372036854775808 ≤ p) (h1 : p ≤ 9223372036854775807) (h2 : 0 ≤ g) (h3 : g ≤ 18446744073709551615) :
    Calls Try.prog 71 #[.int .i64 p, .int .u64 g] w fun e w' => e = .returned (.int .u64 (useI p g)) ∧ w = w' := by
  by_cases c1 : p < 0
  · rw [useI_no p g (by omega)]
    go_enter Try.func71, Try.ntmps71
    go_wp2
    go_ret
    exact ⟨rfl, rfl⟩
  by_cases c2 : 2 < p
  · rw [useI_no p g (by omega)]
    go_enter Try.func71, Try.ntmps71
    go_wp2
    go_ret
    exact ⟨rfl, rfl⟩
  by_cases c4 : 4294967295 < g
  · rw [useI_no p g (by omega)]
    go_enter Try.func71, Try.ntmps71
    go_wp2
    go_ret
    exact ⟨rfl, rfl⟩
  rw [useI_yes p g (by omega) (by omega) (by omega)]
  go_enter Try.func71, Try.ntmps71
  go_wp2
  go_ret
  exact ⟨ret_u64 (use_bits p g (by omega) (by omega) (by omega) (by omega)), rfl⟩

set_option maxHeartbeats 800000 in
theorem duse_any (p g : Int) (w : World) (h0 : -9223372036854775808 ≤ p) (h1 : p ≤ 9223372036854775807) (h2 : 0 ≤ g) (h3 : g ≤ 18446744073709551615) :
    Calls Try.prog 42 #[.int .i64 p, .int .u64 g] w fun e w' => e = .returned (.int .u64 (useI p g)) ∧ w = w' := by
  by_cases c1 : p < 0
  · rw [useI_no p g (by omega)]
    go_enter Try.func42, Try.ntmps42
    go_wp2
    go_ret
    exact ⟨rfl, rfl⟩
  by_cases c2 : 2 < p
  · rw [useI_no p g (by omega)]
    go_enter Try.func42, Try.ntmps42
    go_wp2
    go_ret
    exact ⟨rfl, rfl⟩
  by_cases c4 : 4294967295 < g
  · rw [useI_no p g (by omega)]
    go_enter Try.func42, Try.ntmps42
    go_wp2
    go_ret
    exact ⟨rfl, rfl⟩
  rw [useI_yes p g (by omega) (by omega) (by omega)]
  go_enter Try.func42, Try.ntmps42
  go_wp2
  go_ret
  exact ⟨rfl, rfl⟩

/-! a word's bits -/

theorem bits_low14 (x : Int) (h2 : 0 ≤ x) (h3 : x ≤ 18446744073709551615) : IntKind.u64.wrap (x * 1125899906842624) / 1125899906842624 = x % 16384 := by
  rw [wrap_u64]; omega
set_option maxHeartbeats 800000 in
theorem of_low14 (x : Int) (w : World) (h2 : 0 ≤ x) (h3 : x ≤ 18446744073709551615) :
    Calls Try.prog 87 #[.agg #[.int .i64 0, .int .i64 14], .int .u64 x] w fun e w' => e = .returned (.int .u64 (x % 16384)) ∧ Below w.heap.size w w' := by
  go_enter Try.func87, Try.ntmps87
  go_wp2
  go_quiet (fail)
  go_wp2
  go_ret
  exact ⟨ret_u64 (bits_low14 x h2 h3), below_box _ _ _⟩

theorem bits_high14 (x : Int) (h2 : 0 ≤ x) (h3 : x ≤ 18446744073709551615) : x / 16384 = x / 16384 := by
  rfl
set_option maxHeartbeats 800000 in
theorem of_high14 (x : Int) (w : World) (h2 : 0 ≤ x) (h3 : x ≤ 18446744073709551615) :
    Calls Try.prog 87 #[.agg #[.int .i64 14, .int .i64 64], .int .u64 x] w fun e w' => e = .returned (.int .u64 (x / 16384)) ∧ Below w.heap.size w w' := by
  go_enter Try.func87, Try.ntmps87
  go_wp2
  go_quiet (fail)
  go_wp2
  go_ret
  exact ⟨ret_u64 (bits_high14 x h2 h3), below_box _ _ _⟩

theorem bits_low2 (x : Int) (h2 : 0 ≤ x) (h3 : x ≤ 18446744073709551615) : IntKind.u64.wrap (x * 4611686018427387904) / 4611686018427387904 = x % 4 := by
  rw [wrap_u64]; omega
set_option maxHeartbeats 800000 in
theorem of_low2 (x : Int) (w : World) (h2 : 0 ≤ x) (h3 : x ≤ 18446744073709551615) :
    Calls Try.prog 87 #[.agg #[.int .i64 0, .int .i64 2], .int .u64 x] w fun e w' => e = .returned (.int .u64 (x % 4)) ∧ Below w.heap.size w w' := by
  go_enter Try.func87, Try.ntmps87
  go_wp2
  go_quiet (fail)
  go_wp2
  go_ret
  exact ⟨ret_u64 (bits_low2 x h2 h3), below_box _ _ _⟩

theorem bits_high2 (x : Int) (h2 : 0 ≤ x) (h3 : x ≤ 18446744073709551615) : x / 4 = x / 4 := by
  rfl
set_option maxHeartbeats 800000 in
theorem of_high2 (x : Int) (w : World) (h2 : 0 ≤ x) (h3 : x ≤ 18446744073709551615) :
    Calls Try.prog 87 #[.agg #[.int .i64 2, .int .i64 64], .int .u64 x] w fun e w' => e = .returned (.int .u64 (x / 4)) ∧ Below w.heap.size w w' := by
  go_enter Try.func87, Try.ntmps87
  go_wp2
  go_quiet (fail)
  go_wp2
  go_ret
  exact ⟨ret_u64 (bits_high2 x h2 h3), below_box _ _ _⟩

theorem bits_low56 (x : Int) (h2 : 0 ≤ x) (h3 : x ≤ 18446744073709551615) : IntKind.u64.wrap (x * 256) / 256 = x % 72057594037927936 := by
  rw [wrap_u64]; omega
set_option maxHeartbeats 800000 in
theorem of_low56 (x : Int) (w : World) (h2 : 0 ≤ x) (h3 : x ≤ 18446744073709551615) :
    Calls Try.prog 87 #[.agg #[.int .i64 0, .int .i64 56], .int .u64 x] w fun e w' => e = .returned (.int .u64 (x % 72057594037927936)) ∧ Below w.heap.size w w' := by
  go_enter Try.func87, Try.ntmps87
  go_wp2
  go_quiet (fail)
  go_wp2
  go_ret
  exact ⟨ret_u64 (bits_low56 x h2 h3), below_box _ _ _⟩

theorem bits_mid56 (x : Int) (h2 : 0 ≤ x) (h3 : x ≤ 18446744073709551615) : IntKind.u64.wrap (x * 4) / 288230376151711744 = x % 4611686018427387904 / 72057594037927936 := by
  rw [wrap_u64]; omega
set_option maxHeartbeats 800000 in
theorem of_mid56 (x : Int) (w : World) (h2 : 0 ≤ x) (h3 : x ≤ 18446744073709551615) :
    Calls Try.prog 87 #[.agg #[.int .i64 56, .int .i64 62], .int .u64 x] w fun e w' => e = .returned (.int .u64 (x % 4611686018427387904 / 72057594037927936)) ∧ Below w.heap.size w w' := by
  go_enter Try.func87, Try.ntmps87
  go_wp2
  go_quiet (fail)
  go_wp2
  go_ret
  exact ⟨ret_u64 (bits_mid56 x h2 h3), below_box _ _ _⟩

theorem bits_high62 (x : Int) (h2 : 0 ≤ x) (h3 : x ≤ 18446744073709551615) : x / 4611686018427387904 = x / 4611686018427387904 := by
  rfl
set_option maxHeartbeats 800000 in
theorem of_high62 (x : Int) (w : World) (h2 : 0 ≤ x) (h3 : x ≤ 18446744073709551615) :
    Calls Try.prog 87 #[.agg #[.int .i64 62, .int .i64 64], .int .u64 x] w fun e w' => e = .returned (.int .u64 (x / 4611686018427387904)) ∧ Below w.heap.size w w' := by
  go_enter Try.func87, Try.ntmps87
  go_wp2
  go_quiet (fail)
  go_wp2
  go_ret
  exact ⟨ret_u64 (bits_high62 x h2 h3), below_box _ _ _⟩
end Go.Proofs.Ytpempcefgfmniaa.RefP

/-
  memory.New and what it leans on: contracts.
-/
namespace Go.Proofs.Ytpempcefgfmniaa.MemP
open Go.RowKit RefP CellP
set_option linter.unusedVariables false
set_option linter.unusedSimpArgs false

theorem infoBlock : (Try.prog.info? 35).map (fun i => (i.zero, i.size, i.bytes)) = some (some (.agg #[.int .i64 0, .int .i64 0, .string ⟨#[]⟩, .string ⟨#[]⟩, .bool false, .int .i64 0, .slice none 0 0, .slice none 0 0, .slice none 0 0, .int .i64 0, .int .i64 0, .string ⟨#[]⟩, .int .u64 0, .slice none 0 0, .slice none 0 0, .slice none 0 0, .slice none 0 0]), 17, 272) := by kernel_rfl
theorem infoOp : (Try.prog.info? 37).map (fun i => (i.zero, i.size, i.bytes)) = some (some (.agg #[.int .i64 0, .string ⟨#[]⟩, .string ⟨#[]⟩, .int .u64 0, .int .i64 0]), 5, 56) := by kernel_rfl
/-- an empty block, an empty leaf's block, an empty record: their raw cells -/
def zb : List Value := [.int .i64 0, .int .i64 0, .string ⟨#[]⟩, .string ⟨#[]⟩, .bool false, .int .i64 0, .slice none 0 0, .slice none 0 0, .slice none 0 0, .int .i64 0, .int .i64 0, .string ⟨#[]⟩, .int .u64 0, .slice none 0 0, .slice none 0 0, .slice none 0 0, .slice none 0 0]
def eb : List Value := [.int .i64 1, .int .i64 0, .string ⟨#[]⟩, .string ⟨#[]⟩, .bool true, .int .i64 (-1), .slice none 0 0, .slice none 0 0, .slice none 0 0, .int .i64 0, .int .i64 0, .string ⟨#[]⟩, .int .u64 0, .slice none 0 0, .slice none 0 0, .slice none 0 0, .slice none 0 0]
def zo : List Value := [.int .i64 0, .string ⟨#[]⟩, .string ⟨#[]⟩, .int .u64 0, .int .i64 0]
theorem raw_made {k : Nat} (cs : List Value) (n : Nat) (hk : cs.length = k) : madeCells cs.toArray (n * k) = rawA k (List.replicate n cs) := by
  refine recA_made _ cs n (by simpa using hk) (fun j hj => ?_)
  simp [rawF, List.getD_eq_getElem?_getD, show j < cs.length by omega]
theorem lt17 {j : Nat} (h : j < 17) : j = 0 ∨ j = 1 ∨ j = 2 ∨ j = 3 ∨ j = 4 ∨ j = 5 ∨ j = 6 ∨ j = 7 ∨ j = 8 ∨ j = 9 ∨ j = 10 ∨ j = 11 ∨ j = 12 ∨ j = 13 ∨ j = 14 ∨ j = 15 ∨ j = 16 := by omega
/-- a cell written by its place: a chain of stores is told place by place -/
theorem set_at {A : Array Value} {i j : Nat} {v : Value} : (A.setIfInBounds i v)[j]? = if i = j then (if i < A.size then some v else none) else A[j]? := by
  rw [Array.getElem?_setIfInBounds]
theorem raw_set17 (l : List (List Value)) (i : Nat) (hi : i < l.length) (a0 a1 a2 a3 a4 a5 a6 a7 a8 a9 a10 a11 a12 a13 a14 a15 a16 : Value) :
    ((((((((((((((((((rawA 17 l).setIfInBounds (i * 17) a0).setIfInBounds (i * 17 + 1) a1).setIfInBounds (i * 17 + 2) a2).setIfInBounds (i * 17 + 3) a3).setIfInBounds (i * 17 + 4) a4).setIfInBounds (i * 17 + 5) a5).setIfInBounds (i * 17 + 6) a6).setIfInBounds (i * 17 + 7) a7).setIfInBounds (i * 17 + 8) a8).setIfInBounds (i * 17 + 9) a9).setIfInBounds (i * 17 + 10) a10).setIfInBounds (i * 17 + 11) a11).setIfInBounds (i * 17 + 12) a12).setIfInBounds (i * 17 + 13) a13).setIfInBounds (i * 17 + 14) a14).setIfInBounds (i * 17 + 15) a15).setIfInBounds (i * 17 + 16) a16) =
      rawA 17 (l.set i [a0, a1, a2, a3, a4, a5, a6, a7, a8, a9, a10, a11, a12, a13, a14, a15, a16]) := by
  have hs := recA_size 17 rawF [] l
  refine recA_set i _ hi (by simp [hs]) (fun j hj => ?_) (fun i' j hi' hl hj => ?_)
  · have hb : i * 17 + 17 ≤ l.length * 17 := by omega
    rcases lt17 hj with h | h | h | h | h | h | h | h | h | h | h | h | h | h | h | h | h <;> subst h <;> simp [Array.getElem?_setIfInBounds, hs] <;> omega
  · have e : ∀ m, m < 17 → ¬ i * 17 + m = i' * 17 + j := by intro m hm; omega
    have e0 := e 0 (by omega)
    rw [Nat.add_zero] at e0
    simp [Array.getElem?_setIfInBounds, e0, e 1, e 2, e 3, e 4, e 5, e 6, e 7, e 8, e 9, e 10, e 11, e 12, e 13, e 14, e 15, e 16]
theorem raw_at (l : List (List Value)) (i j : Nat) (hi : i < l.length) (hj : j < 17) : (rawA 17 l)[i * 17 + j]? = some (rawF (l.getD i []) j) := recA_at rawF [] l i j hi hj
theorem raw_at0 (l : List (List Value)) (hi : 0 < l.length) (j : Nat) (hj : j < 17) : (rawA 17 l)[j]? = some (rawF (l.getD 0 []) j) := by
  have := raw_at l 0 j hi hj
  rwa [Nat.zero_mul, Nat.zero_add] at this
/-- a record of a block was written, cell by cell -/
abbrev put17 (w : World) (gb i : Nat) (a0 a1 a2 a3 a4 a5 a6 a7 a8 a9 a10 a11 a12 a13 a14 a15 a16 : Value) : World := (((((((((((((((((w.setCell ⟨gb, i * 17, none⟩ a0).setCell ⟨gb, i * 17 + 1, none⟩ a1).setCell ⟨gb, i * 17 + 2, none⟩ a2).setCell ⟨gb, i * 17 + 3, none⟩ a3).setCell ⟨gb, i * 17 + 4, none⟩ a4).setCell ⟨gb, i * 17 + 5, none⟩ a5).setCell ⟨gb, i * 17 + 6, none⟩ a6).setCell ⟨gb, i * 17 + 7, none⟩ a7).setCell ⟨gb, i * 17 + 8, none⟩ a8).setCell ⟨gb, i * 17 + 9, none⟩ a9).setCell ⟨gb, i * 17 + 10, none⟩ a10).setCell ⟨gb, i * 17 + 11, none⟩ a11).setCell ⟨gb, i * 17 + 12, none⟩ a12).setCell ⟨gb, i * 17 + 13, none⟩ a13).setCell ⟨gb, i * 17 + 14, none⟩ a14).setCell ⟨gb, i * 17 + 15, none⟩ a15).setCell ⟨gb, i * 17 + 16, none⟩ a16)
abbrev put17z (w : World) (gb : Nat) (a0 a1 a2 a3 a4 a5 a6 a7 a8 a9 a10 a11 a12 a13 a14 a15 a16 : Value) : World := (((((((((((((((((w.setCell ⟨gb, 0, none⟩ a0).setCell ⟨gb, 1, none⟩ a1).setCell ⟨gb, 2, none⟩ a2).setCell ⟨gb, 3, none⟩ a3).setCell ⟨gb, 4, none⟩ a4).setCell ⟨gb, 5, none⟩ a5).setCell ⟨gb, 6, none⟩ a6).setCell ⟨gb, 7, none⟩ a7).setCell ⟨gb, 8, none⟩ a8).setCell ⟨gb, 9, none⟩ a9).setCell ⟨gb, 10, none⟩ a10).setCell ⟨gb, 11, none⟩ a11).setCell ⟨gb, 12, none⟩ a12).setCell ⟨gb, 13, none⟩ a13).setCell ⟨gb, 14, none⟩ a14).setCell ⟨gb, 15, none⟩ a15).setCell ⟨gb, 16, none⟩ a16)
theorem put17_zero (w : World) (gb : Nat) (a0 a1 a2 a3 a4 a5 a6 a7 a8 a9 a10 a11 a12 a13 a14 a15 a16 : Value) : put17 w gb 0 a0 a1 a2 a3 a4 a5 a6 a7 a8 a9 a10 a11 a12 a13 a14 a15 a16 = put17z w gb a0 a1 a2 a3 a4 a5 a6 a7 a8 a9 a10 a11 a12 a13 a14 a15 a16 := by simp only [put17, put17z, Nat.zero_mul, Nat.zero_add]
theorem blk_put17 {w : World} {gb : Nat} {l : List (List Value)} {T : TypeId} (B : Blk w gb (rawA 17 l) T) (i : Nat) (hi : i < l.length) (a0 a1 a2 a3 a4 a5 a6 a7 a8 a9 a10 a11 a12 a13 a14 a15 a16 : Value) : Blk (put17 w gb i a0 a1 a2 a3 a4 a5 a6 a7 a8 a9 a10 a11 a12 a13 a14 a15 a16) gb (rawA 17 (l.set i [a0, a1, a2, a3, a4, a5, a6, a7, a8, a9, a10, a11, a12, a13, a14, a15, a16])) T := by
  have h := (((((((((((((((((B.set (i * 17) a0).set (i * 17 + 1) a1).set (i * 17 + 2) a2).set (i * 17 + 3) a3).set (i * 17 + 4) a4).set (i * 17 + 5) a5).set (i * 17 + 6) a6).set (i * 17 + 7) a7).set (i * 17 + 8) a8).set (i * 17 + 9) a9).set (i * 17 + 10) a10).set (i * 17 + 11) a11).set (i * 17 + 12) a12).set (i * 17 + 13) a13).set (i * 17 + 14) a14).set (i * 17 + 15) a15).set (i * 17 + 16) a16)
  rw [raw_set17 l i hi] at h
  exact h
theorem fr_put17 (w : World) (gb i : Nat) (a0 a1 a2 a3 a4 a5 a6 a7 a8 a9 a10 a11 a12 a13 a14 a15 a16 : Value) : Fr [gb] w (put17 w gb i a0 a1 a2 a3 a4 a5 a6 a7 a8 a9 a10 a11 a12 a13 a14 a15 a16) := by
  repeat (refine Fr.set ?_ _ _ (.inl (by simp)))
  exact Fr.refl _ _
/-- words in a block known whole -/
def wordsA (l : List Int) : Array Value := (l.map (Value.int .u64)).toArray
theorem wordsA_at (l : List Int) (i : Nat) (h : i < l.length) : (wordsA l)[i]? = some (.int .u64 (at0 l i)) := by simp [wordsA, at0, h]
theorem wordsA_set (l : List Int) (i : Nat) (x : Int) : (wordsA l).setIfInBounds i (.int .u64 x) = wordsA (l.set i x) := by simp [wordsA, List.map_set]
theorem wordsA_made (n : Nat) : madeCells #[.int .u64 0] n = wordsA (List.replicate n 0) := by
  apply Array.ext_getElem?
  intro m
  by_cases hm : m < n
  · simp [wordsA, madeCells, hm, Nat.mod_one]
  · rw [Array.getElem?_eq_none (by rw [size_madeCells]; omega), Array.getElem?_eq_none (by simp [wordsA]; omega)]
theorem wordsA_row {w : World} {b : Nat} {l : List Int} {T : TypeId} (B : Blk w b (wordsA l) T) (hr : ∀ x ∈ l, 0 ≤ x ∧ x ≤ 18446744073709551615) (hl : l.length ≤ 9223372036854775807) : U64s w (some ⟨b, 0, none⟩) l :=
  ⟨⟨fun _ => ⟨b, 0, rfl, B.lt, fun i hi => by rw [Nat.zero_add]; exact B.at i (wordsA_at l i hi)⟩⟩, hr, hl⟩

set_option maxHeartbeats 800000 in
theorem empty_any (w : World) : Calls Try.prog 78 #[] w fun e w' => e = .returned (.agg #[.int .i64 0, .string ⟨#[]⟩, .string ⟨#[]⟩, .bool true, .int .i64 (-1), .slice none 0 0, .slice none 0 0, .slice none 0 0]) ∧ Below w.heap.size w w' := by
  go_enter Try.func78, Try.ntmps78
  go_wp2_with fail
  refine bodyPost_ret (v := .agg #[.int .i64 0, .string ⟨#[]⟩, .string ⟨#[]⟩, .bool true, .int .i64 (-1), .slice none 0 0, .slice none 0 0, .slice none 0 0]) (by simp (maxDischargeDepth := 8) [results, Try.results78, go_sem]) rfl ⟨rfl, by (repeat (first | exact Below.refl _ _ | assumption | refine below_alloc2 ?_ (by first | exact Nat.le_refl _ | omega) _ | refine Below.drew ?_ | refine below_drewN ?_ _ | refine below_push2 ?_ ‹_› (by first | exact Nat.le_refl _ | omega) | refine Below.setCell ?_ (by first | (simp; done) | (simp; omega) | omega) _))⟩
/-- words as cells -/
def asCells (l : List Int) : List (Int × Int) := l.map fun x => (x, 0)
theorem asCells_length (l : List Int) : (asCells l).length = l.length := by simp [asCells]
theorem asCells_at (l : List Int) (k : Nat) (h : k < l.length) : at2 (asCells l) k = (at0 l k, 0) := by simp [asCells, at2, at0, h]
set_option maxRecDepth 100000 in
set_option maxHeartbeats 1600000 in
theorem of_any (a : Option Addr) (c : Nat) (l : List Int) (w : World) (h : U64s w a l) (hl : l.length ≤ 65536) : Calls Try.prog 79 #[.slice a l.length c] w (MadeAt w (asCells l)) := by
  have hal := asCells_length l
  go_enter Try.func79, Try.ntmps79
  go_wp2_with fail
  refine (new_yes l.length _ hl).mono ?_
  rintro e w1 ⟨o, g, rfl, hC, hb1, hO, hG⟩
  have hC0 : CellsAt w1 o g (mixed (asCells l) 0) := by rw [mixed_zero, hal]; exact hC
  go_wp2_with fail
  go_loopw [13] (fun i wr => ∃ k : Nat, k ≤ l.length ∧ i = .int .i64 k ∧ Below w.heap.size w wr ∧ CellsAt wr o g (mixed (asCells l) k)) (fun i _ => l.length - (intOf i).toNat)
  case atStart => exact ⟨0, Nat.zero_le _, rfl, hb1, hC0⟩
  case round =>
    clear hC hC0
    obtain ⟨k, hk, rfl, hb, R⟩ := hrel
    have hml := mixed_length (asCells l) k (by omega)
    rw [hal] at hml
    by_cases hlt : k < l.length
    · have hlt' : (k : Int) < (l.length : Int) := by omega
      obtain ⟨b, off, rfl, hbl, s0⟩ := (h.below hb).cell k hlt
      have c0 := R.head.at 0 rfl
      rw [hml] at c0
      have t0 := R.rows.at _ (pairsA_0 _ k (by omega))
      have t1 := R.rows.at _ (pairsA_1 _ k (by omega))
      have f0 := R.rows.free (k * 2)
      have f1 := R.rows.free (k * 2 + 1)
      have hr := h.rngD k
      go_wp2_with fail
      go_roundw
      case rel =>
        have hW := R.write (Below.refl _ _) k (by omega) (at0 l k) 0 hr (by omega)
        have e := mixed_succ (asCells l) k (by omega)
        rw [asCells_at l k hlt] at e
        rw [e] at hW
        exact ⟨k + 1, by omega, by go_num, (hb.setCell hG _).setCell hG _, hW⟩
      case measure => simp [intOf]; omega
    · obtain rfl : k = l.length := by omega
      go_wp2_with fail
      go_ret
      rw [← hal, mixed_all] at R
      exact ⟨o, g, rfl, R, hb, hO, hG⟩
end Go.Proofs.Ytpempcefgfmniaa.MemP

/-
  memory.begin, memory.New: contracts.
-/
namespace Go.Proofs.Ytpempcefgfmniaa.MemP
open Go.RowKit RefP CellP
set_option linter.unusedVariables false
set_option linter.unusedSimpArgs false

/-- a memory whose cells were not made yet -/
structure PreAt (w : World) (o gb gr A T : Nat) (bs rs : List (List Value)) : Prop where
  head : Blk w o (memA (.pointer none) (fromI A T) gb A gr T) 48
  blocks : Blk w gb (rawA 17 bs) 35
  records : Blk w gr (rawA 5 rs) 37
  lb : bs.length = A
  lr : rs.length = T
  a1 : 1 ≤ A ∧ A ≤ 8192
  t1 : 1 ≤ T ∧ T ≤ 16
  ne : o ≠ gb ∧ o ≠ gr ∧ gb ≠ gr
theorem PreAt.below {w w' : World} {o gb gr A T : Nat} {bs rs : List (List Value)} (h : PreAt w o gb gr A T bs rs) (hb : Below w.heap.size w w') : PreAt w' o gb gr A T bs rs :=
  ⟨h.head.below hb, h.blocks.below hb, h.records.below hb, h.lb, h.lr, h.a1, h.t1, h.ne⟩
theorem PreAt.far {w : World} {o gb gr A T : Nat} {bs rs : List (List Value)} (h : PreAt w o gb gr A T bs rs) (p : Addr) (v : Value) (h1 : o ≠ p.block) (h2 : gb ≠ p.block) (h3 : gr ≠ p.block) : PreAt (w.setCell p v) o gb gr A T bs rs :=
  ⟨h.head.far p v h1, h.blocks.far p v h2, h.records.far p v h3, h.lb, h.lr, h.a1, h.t1, h.ne⟩
theorem PreAt.from {w : World} {o gb gr A T : Nat} {bs rs : List (List Value)} (h : PreAt w o gb gr A T bs rs) (j : Nat) (hj : j ≤ 7) : w.cell? ⟨o, 1 + j, none⟩ = some (.int .i64 (fromI A T j)) := by
  have : j = 0 ∨ j = 1 ∨ j = 2 ∨ j = 3 ∨ j = 4 ∨ j = 5 ∨ j = 6 ∨ j = 7 := by omega
  rcases this with e | e | e | e | e | e | e | e <;> subst e <;> exact h.head.at _ rfl
/-- the words behind k rounds -/
def fillL (A T : Nat) (gen : Int) (k : Nat) : List Int := (List.range (2 * A + 5 * T + 1)).map fun i => if A ≤ i ∧ i < A + k then useI 0 gen else 0
theorem fillL_length (A T : Nat) (gen : Int) (k : Nat) : (fillL A T gen k).length = 2 * A + 5 * T + 1 := by simp [fillL]
theorem fillL_zero (A T : Nat) (gen : Int) : fillL A T gen 0 = List.replicate (2 * A + 5 * T + 1) 0 := by
  apply List.ext_getElem?
  intro i
  simp only [fillL, List.getElem?_map, List.getElem?_range', List.getElem?_replicate]
  by_cases h : i < 2 * A + 5 * T + 1
  · have : ¬ (A ≤ i ∧ i < A) := by omega
    simp [h, this]
  · simp [h]
theorem fillL_succ (A T : Nat) (gen : Int) (k : Nat) (h : k < A) : (fillL A T gen k).set (A + k) (useI 0 gen) = fillL A T gen (k + 1) := by
  apply List.ext_getElem?
  intro i
  rw [List.getElem?_set, fillL_length]
  by_cases hi : i < 2 * A + 5 * T + 1
  · simp only [fillL, List.getElem?_map, List.getElem?_range hi, Option.map_some]
    by_cases e : A + k = i
    · subst e
      have h1 : A + k < 2 * A + 5 * T + 1 := hi
      simp [h1]
    · have e1 : (A ≤ i ∧ i < A + k) ↔ (A ≤ i ∧ i < A + (k + 1)) := by omega
      simp [e, e1]
  · have hn : ¬ A + k = i := by omega
    rw [if_neg hn, List.getElem?_eq_none (by rw [fillL_length]; omega), List.getElem?_eq_none (by rw [fillL_length]; omega)]
theorem fillL_rng (A T : Nat) (gen : Int) (k : Nat) (g0 : 0 ≤ gen) : ∀ x ∈ fillL A T gen k, 0 ≤ x ∧ x ≤ 18446744073709551615 := by
  intro x hx
  simp only [fillL, List.mem_map] at hx
  obtain ⟨i, _, rfl⟩ := hx
  split
  · exact ⟨useI_lo _ _ g0, useI_hi _ _⟩
  · omega
/-- all words at first -/
def firstL (A T : Nat) (gen : Int) : List Int := ((fillL A T gen A).set A (useI 1 (nextV gen))).set 0 (packI 0 (nextV gen))
theorem firstL_length (A T : Nat) (gen : Int) : (firstL A T gen).length = 2 * A + 5 * T + 1 := by simp [firstL, fillL_length]
theorem firstL_cells (A T : Nat) (gen : Int) (hA : 1 ≤ A) : asCells (firstL A T gen) = freshL A T gen := by
  apply List.ext_getElem?
  intro i
  simp only [asCells, freshL, List.getElem?_map, firstL, List.getElem?_set, List.length_set, fillL_length]
  by_cases hi : i < 2 * A + 5 * T + 1
  · simp only [fillL, List.getElem?_map, List.getElem?_range hi, Option.map_some]
    by_cases h0 : i = 0
    · subst h0; simp [freshW]
    · have h0' : ¬ 0 = i := fun e => h0 e.symm
      by_cases hA' : A = i
      · subst hA'
        simp [freshW, h0', h0, hi]
      · have e1 : (A ≤ i ∧ i < A + A) ↔ (A < i ∧ i < 2 * A) := by omega
        have hA2 : ¬ i = A := fun e => hA' e.symm
        simp [freshW, h0, h0', hA', hA2, e1]
  · have h0' : ¬ 0 = i := by omega
    have hA' : ¬ A = i := by omega
    simp only [h0', hA', if_false, fillL, List.getElem?_map]
    rw [List.getElem?_eq_none (by simp; omega)]
    simp
structure BegRel (w : World) (o gb gr A T : Nat) (bs rs : List (List Value)) (gen : Int) (k : Nat) (wr : World) : Prop where
  p : PreAt wr o gb gr A T bs rs
  f : Blk wr w.heap.size (wordsA (fillL A T gen k)) 22
  b : Below w.heap.size w wr
theorem infoW : (Try.prog.info? 22).map (fun i => (i.zero, i.size, i.bytes)) = some (some (.int .u64 0), 1, 8) := by kernel_rfl
/-- all is there at first -/
def BegunAt (w : World) (o gb gr A T : Nat) (bs rs : List (List Value)) (gen : Int) (w' : World) : Prop :=
  ∃ oc g, MemAt w' o oc g gb gr A T (freshL A T gen) (bs.set 0 eb) rs ∧ Fr [o, gb] w w' ∧ w.heap.size ≤ oc ∧ w.heap.size ≤ g

abbrev leafW (w : World) (gb : Nat) : World := put17z w gb (.int .i64 1) (.int .i64 0) (.string ⟨#[]⟩) (.string ⟨#[]⟩) (.bool true) (.int .i64 (-1)) (.slice none 0 0) (.slice none 0 0) (.slice none 0 0) (.int .i64 0) (.int .i64 0) (.string ⟨#[]⟩) (.int .u64 0) (.slice none 0 0) (.slice none 0 0) (.slice none 0 0) (.slice none 0 0)
theorem leaf_done {w0 w : World} {o gb gr A T f : Nat} {bs rs : List (List Value)} {ws : Array Value} {TT : TypeId} (hP : PreAt w o gb gr A T bs rs) (hS : Blk w f ws TT) (hf : f ≠ gb) (hF : Fr [o, gb] w0 w) :
    PreAt (leafW w gb) o gb gr A T (bs.set 0 eb) rs ∧ Blk (leafW w gb) f ws TT ∧ Fr [o, gb] w0 (leafW w gb) := by
  have hl : 0 < bs.length := by have := hP.lb; have := hP.a1; omega
  have hB := blk_put17 hP.blocks 0 hl (.int .i64 1) (.int .i64 0) (.string ⟨#[]⟩) (.string ⟨#[]⟩) (.bool true) (.int .i64 (-1)) (.slice none 0 0) (.slice none 0 0) (.slice none 0 0) (.int .i64 0) (.int .i64 0) (.string ⟨#[]⟩) (.int .u64 0) (.slice none 0 0) (.slice none 0 0) (.slice none 0 0) (.slice none 0 0)
  have hfr := fr_put17 w gb 0 (.int .i64 1) (.int .i64 0) (.string ⟨#[]⟩) (.string ⟨#[]⟩) (.bool true) (.int .i64 (-1)) (.slice none 0 0) (.slice none 0 0) (.slice none 0 0) (.int .i64 0) (.int .i64 0) (.string ⟨#[]⟩) (.int .u64 0) (.slice none 0 0) (.slice none 0 0) (.slice none 0 0) (.slice none 0 0)
  rw [put17_zero] at hB hfr
  have n1 := hP.ne
  exact ⟨⟨hfr.blk hP.head (by simp; omega), hB, hfr.blk hP.records (by simp; omega), by simpa using hP.lb, hP.lr, hP.a1, hP.t1, hP.ne⟩, hfr.blk hS (by simpa using hf), hF.trans (hfr.more (by simp))⟩
theorem firstL_rng (A T : Nat) (gen : Int) (g0 : 0 ≤ gen) : ∀ x ∈ firstL A T gen, 0 ≤ x ∧ x ≤ 18446744073709551615 := by
  intro x hx
  rcases List.mem_or_eq_of_mem_set hx with hx | rfl
  · rcases List.mem_or_eq_of_mem_set hx with hx | rfl
    · exact fillL_rng A T gen A g0 x hx
    · exact ⟨useI_lo _ _ (nextV_rng _).1, useI_hi _ _⟩
  · exact ⟨packI_lo _ _, packI_hi _ _⟩
theorem of_n (a : Option Addr) (c n : Nat) (l : List Int) (w : World) (h : U64s w a l) (hl : l.length ≤ 65536) (hn : l.length = n) : Calls Try.prog 79 #[.slice a n c] w (MadeAt w (asCells l)) := by
  subst hn; exact of_any a c l w h hl
theorem begun_done {w0 w w1 : World} {o gb gr A T oc g : Nat} {bs rs : List (List Value)} {gen : Int} (hP : PreAt w o gb gr A T bs rs) (hF : Fr [o, gb] w0 w) (hb : Below w.heap.size w w1) (hC : CellsAt w1 oc g (asCells (firstL A T gen))) (hO : w.heap.size ≤ oc) (hG : w.heap.size ≤ g) (h0 : o < w0.heap.size) :
    MemAt (w1.setCell ⟨o, 0, none⟩ (.pointer (some ⟨oc, 0, none⟩))) o oc g gb gr A T (freshL A T gen) bs rs ∧ Fr [o, gb] w0 (w1.setCell ⟨o, 0, none⟩ (.pointer (some ⟨oc, 0, none⟩))) ∧ w0.heap.size ≤ oc ∧ w0.heap.size ≤ g := by
  have h1 := hP.below hb
  have ho := hP.head.lt
  have hgb := hP.blocks.lt
  have hgr := hP.records.lt
  have n1 := hP.ne
  have hs := hF.size
  refine ⟨⟨?_, ?_, ?_, ?_, ?_, hP.lb, hP.lr, hP.a1, hP.t1, by omega⟩, ?_, by omega, by omega⟩
  · exact h1.head.set 0 (.pointer (some ⟨oc, 0, none⟩))
  · have := firstL_cells A T gen hP.a1.1
    rw [this] at hC
    exact ⟨hC.head.far _ _ (by show oc ≠ o; omega), hC.rows.far _ _ (by show g ≠ o; omega), hC.ne, hC.rng, hC.len⟩
  · exact h1.blocks.far _ _ (by show gb ≠ o; omega)
  · exact h1.records.far _ _ (by show gr ≠ o; omega)
  · simp [freshL]
  · exact (hF.trans (Fr.of_below hb)).set _ _ (.inl (by simp))
set_option maxRecDepth 100000 in
set_option maxHeartbeats 3200000 in
theorem begin_any (o gb gr A T : Nat) (bs rs : List (List Value)) (gen : Int) (w : World) (h : PreAt w o gb gr A T bs rs) (g0 : 0 ≤ gen) (g1 : gen < 4294967295) :
    Calls Try.prog 53 #[.pointer (some ⟨o, 0, none⟩), .int .u64 gen] w fun e w' => e = .returned (.tuple #[]) ∧ BegunAt w o gb gr A T bs rs gen w' := by
  obtain ⟨hA1, hA2⟩ := h.a1
  obtain ⟨hT1, hT2⟩ := h.t1
  obtain ⟨N, hN⟩ : ∃ N : Nat, N = 2 * A + 5 * T + 1 := ⟨_, rfl⟩
  have hNf : fromI A T 7 = (N : Int) := by simp [fromI]; omega
  obtain ⟨i0, hi, hz0, hz1, hz2⟩ := info_parts' infoW
  have hmk := fun W => run_make_rowN (P := Try.prog) 24 22 i0 _ Try.underlying24 hi hz0 .i64 .i64 N N (Nat.le_refl _) (by rw [hz2]; omega) (by omega) W
  have e0 : (Value.int .u64 0).cells = #[.int .u64 0] := by simp [Value.cells]
  rw [e0, hz1, Nat.mul_one, wordsA_made N, hN, ← fillL_zero A T gen, ← hN] at hmk
  clear e0 hz0 hz1 hz2 hi
  have c7 : w.cell? ⟨o, 8, none⟩ = some (.int .i64 N) := by rw [← hNf]; exact h.head.at 8 rfl
  have hos := h.head.lt
  have hgbs := h.blocks.lt
  have hgrs := h.records.lt
  have c9 : w.cell? ⟨o, 9, none⟩ = some (.slice (some ⟨gb, 0, none⟩) A A) := h.head.at 9 rfl
  have hN1 : 2 * A + 5 * T + 1 ≤ N := by omega
  have hN2 : N ≤ 2 * A + 5 * T + 1 := by omega
  clear hN hNf
  have hwr : IntKind.u64.wrap (gen + 1) = nextV gen := IntKind.wrap_u64 _
  have hnr := nextV_rng gen
  go_enter Try.func53, Try.ntmps53
  go_wp2_with fail
  have R0 : BegRel w o gb gr A T bs rs gen 0 (w.alloc (.cells (wordsA (fillL A T gen 0)) 22)) := ⟨h.below (by (repeat (first | exact Below.refl _ _ | assumption | refine below_alloc2 ?_ (by first | exact Nat.le_refl _ | omega) _ | refine Below.drew ?_ | refine below_drewN ?_ _ | refine below_push2 ?_ ‹_› (by first | exact Nat.le_refl _ | omega) | refine Below.setCell ?_ (by first | (simp; done) | (simp; omega) | omega) _))), Blk.new w _ _, by (repeat (first | exact Below.refl _ _ | assumption | refine below_alloc2 ?_ (by first | exact Nat.le_refl _ | omega) _ | refine Below.drew ?_ | refine below_drewN ?_ _ | refine below_push2 ?_ ‹_› (by first | exact Nat.le_refl _ | omega) | refine Below.setCell ?_ (by first | (simp; done) | (simp; omega) | omega) _))⟩
  clear hmk c7 c9
  go_loopw [17] (fun i wr => ∃ k : Nat, k ≤ A ∧ i = .int .i64 k ∧ BegRel w o gb gr A T bs rs gen k wr) (fun i _ => A - (intOf i).toNat)
  case atStart => exact ⟨0, Nat.zero_le _, rfl, R0⟩
  case round =>
    clear R0
    obtain ⟨k, hk, rfl, R⟩ := hrel
    have d1 : wr.cell? ⟨o, 2, none⟩ = some (.int .i64 A) := R.p.head.at 2 rfl
    have d0 : wr.cell? ⟨o, 1, none⟩ = some (.int .i64 0) := R.p.head.at 1 rfl
    by_cases hlt : k < A
    · have hlt' : (k : Int) < (A : Int) := by omega
      have y1 : ((A : Int) + (k : Int)).toNat = A + k := by omega
      have y2 : (0 : Int) ≤ (A : Int) + (k : Int) := by omega
      have y3 : (A : Int) + (k : Int) < (N : Int) := by omega
      have y4 : A + k < N := by omega
      have t0 := R.f.at _ (wordsA_at (fillL A T gen k) (A + k) (by rw [fillL_length]; omega))
      have tf := R.f.free (A + k)
      have hwA : IntKind.i64.wrap ((A : Int) + (k : Int)) = (A : Int) + (k : Int) := by rw [IntKind.wrap_i64]; omega
      go_upto_region 4 with (fail)
      go_still_tail 11, (by kernel_rfl)
      still_call ((use_any 0 gen _ (by omega) (by omega) g0 (by omega)).flip)
      repeat still_step
      refine wpStill_nil ?_
      go_wp2_with fail
      go_roundw
      case rel =>
        have hS := R.f.set (A + k) (.int .u64 (useI 0 gen))
        rw [wordsA_set, fillL_succ A T gen k hlt] at hS
        have hP := R.p.far ⟨w.heap.size, A + k, none⟩ (.int .u64 (useI 0 gen)) (by show o ≠ w.heap.size; omega) (by show gb ≠ w.heap.size; omega) (by show gr ≠ w.heap.size; omega)
        exact ⟨k + 1, by omega, by go_num, hP.below (Below.refl _ _).drew, hS.drew, (R.b.setCell (Nat.le_refl _) _).drew⟩
      case measure => simp [intOf]; omega
    · obtain rfl : k = A := by omega
      have hfl := fillL_length k T gen k
      have t0 := R.f.at _ (wordsA_at (fillL k T gen k) k (by omega))
      have tf := R.f.free k
      have hkN : (k : Int) < (N : Int) := by omega
      have hN0 : (0 : Int) < (N : Int) := by omega
      have hN0' : 0 < N := by omega
      have hkN' : k < N := by omega
      go_upto_region 6 with (fail)
      go_still_tail 10, (by kernel_rfl)
      still_call ((use_any 1 (nextV gen) _ (by omega) (by omega) hnr.1 hnr.2).flip)
      repeat still_step
      refine wpStill_nil ?_
      have hS1 := R.f.set k (.int .u64 (useI 1 (nextV gen)))
      rw [wordsA_set] at hS1
      have hP1 := R.p.far ⟨w.heap.size, k, none⟩ (.int .u64 (useI 1 (nextV gen))) (by show o ≠ w.heap.size; omega) (by show gb ≠ w.heap.size; omega) (by show gr ≠ w.heap.size; omega)
      have hB1 := R.b.setCell (p := ⟨w.heap.size, k, none⟩) (Nat.le_refl _) (.int .u64 (useI 1 (nextV gen)))
      go_upto_region 7 with (fail)
      clear R d1 d0 t0 tf
      generalize (wr.setCell ⟨w.heap.size, k, none⟩ (.int .u64 (useI 1 (nextV gen)))) = w1 at hS1 hP1 hB1 ⊢
      have hS1 := hS1.drew
      have hP1 := hP1.below (Below.refl _ _).drew
      have hB1 := hB1.drew
      generalize w1.drew = w2 at hS1 hP1 hB1 ⊢
      have d0 : w2.cell? ⟨o, 1, none⟩ = some (.int .i64 0) := hP1.head.at 1 rfl
      have t0 := hS1.at _ (wordsA_at ((fillL k T gen k).set k (useI 1 (nextV gen))) 0 (by rw [List.length_set]; omega))
      have tf := hS1.free 0
      go_still_tail 10, (by kernel_rfl)
      still_call ((pack_any 0 (nextV gen) _ (by omega) (by omega) hnr.1 hnr.2).flip)
      repeat still_step
      refine wpStill_nil ?_
      have hS2 := hS1.set 0 (.int .u64 (packI 0 (nextV gen)))
      rw [wordsA_set] at hS2
      have hP2 := hP1.far ⟨w.heap.size, 0, none⟩ (.int .u64 (packI 0 (nextV gen))) (by show o ≠ w.heap.size; omega) (by show gb ≠ w.heap.size; omega) (by show gr ≠ w.heap.size; omega)
      have hB2 := hB1.setCell (p := ⟨w.heap.size, 0, none⟩) (Nat.le_refl _) (.int .u64 (packI 0 (nextV gen)))
      go_upto_region 8 with (fail)
      clear hS1 hP1 hB1 d0 t0 tf
      generalize (w2.setCell ⟨w.heap.size, 0, none⟩ (.int .u64 (packI 0 (nextV gen)))) = w3 at hS2 hP2 hB2 ⊢
      have hS3 := hS2.drew
      have hP3 := hP2.below (Below.refl _ _).drew
      have hB3 := hB2.drew
      clear hS2 hP2 hB2
      generalize w3.drew = w4 at hS3 hP3 hB3 ⊢
      have c9 : w4.cell? ⟨o, 9, none⟩ = some (.slice (some ⟨gb, 0, none⟩) k k) := hP3.head.at 9 rfl
      have hfix : Fr [o, gb] w w4 := Fr.of_below hB3
      have hk0 : (0 : Int) < (k : Int) := by omega
      have hk0' : 0 < k := by omega
      go_cut [] (fun wx => PreAt wx o gb gr k T (bs.set 0 eb) rs ∧ Blk wx w.heap.size (wordsA (firstL k T gen)) 22 ∧ Fr [o, gb] w wx)
      case first =>
        go_region_with (refine (empty_any _).mono ?_; rintro e wx ⟨rfl, hbx⟩; have hP5 := (hP3.below (Below.refl _ _).drew).below hbx; have m9 : wx.cell? ⟨o, 9, none⟩ = some (.slice (some ⟨gb, 0, none⟩) k k) := hP5.head.at 9 rfl; (
            have hb0 : 0 < bs.length := by rw [hP5.lb]; omega
            have hB5 := hP5.blocks
            have e0 := hB5.at 0 (raw_at0 _ hb0 0 (by omega))
            have f0 := hB5.free 0
            have e1 := hB5.at 1 (raw_at0 _ hb0 1 (by omega))
            have f1 := hB5.free 1
            have e2 := hB5.at 2 (raw_at0 _ hb0 2 (by omega))
            have f2 := hB5.free 2
            have e3 := hB5.at 3 (raw_at0 _ hb0 3 (by omega))
            have f3 := hB5.free 3
            have e4 := hB5.at 4 (raw_at0 _ hb0 4 (by omega))
            have f4 := hB5.free 4
            have e5 := hB5.at 5 (raw_at0 _ hb0 5 (by omega))
            have f5 := hB5.free 5
            have e6 := hB5.at 6 (raw_at0 _ hb0 6 (by omega))
            have f6 := hB5.free 6
            have e7 := hB5.at 7 (raw_at0 _ hb0 7 (by omega))
            have f7 := hB5.free 7
            have e8 := hB5.at 8 (raw_at0 _ hb0 8 (by omega))
            have f8 := hB5.free 8
            have e9 := hB5.at 9 (raw_at0 _ hb0 9 (by omega))
            have f9 := hB5.free 9
            have e10 := hB5.at 10 (raw_at0 _ hb0 10 (by omega))
            have f10 := hB5.free 10
            have e11 := hB5.at 11 (raw_at0 _ hb0 11 (by omega))
            have f11 := hB5.free 11
            have e12 := hB5.at 12 (raw_at0 _ hb0 12 (by omega))
            have f12 := hB5.free 12
            have e13 := hB5.at 13 (raw_at0 _ hb0 13 (by omega))
            have f13 := hB5.free 13
            have e14 := hB5.at 14 (raw_at0 _ hb0 14 (by omega))
            have f14 := hB5.free 14
            have e15 := hB5.at 15 (raw_at0 _ hb0 15 (by omega))
            have f15 := hB5.free 15
            have e16 := hB5.at 16 (raw_at0 _ hb0 16 (by omega))
            have f16 := hB5.free 16))
        all_goals
          go_wp2_with fail
          go_meet
          exact leaf_done hP5 ((hS3.below (Below.refl _ _).drew).below hbx) (by omega) ((hfix.trans (Fr.of_below (Below.refl _ _).drew)).trans (Fr.of_below hbx))
      case rest =>
        obtain ⟨hP5, hS5, hF5⟩ := hcut
        have hfl1 := firstL_length k T gen
        have hU5 := wordsA_row hS5 (firstL_rng k T gen g0) (by omega)
        clear hP3 hS3 hB3 c9 hfix hfl
        go_wp2_with fail
        refine (of_n _ _ N _ _ hU5 (by omega) (by omega)).mono ?_
        rintro e w6 ⟨oc, g, rfl, hC, hb6, hO, hG⟩
        have c0 : w6.cell? ⟨o, 0, none⟩ = some (.pointer none) := (hP5.below hb6).head.at 0 rfl
        have f0 := (hP5.below hb6).head.free 0
        have hD := begun_done hP5 hF5 hb6 hC hO hG hos
        clear hU5 hC
        go_wp2_with fail
        go_end0
        exact ⟨rfl, _, _, hD⟩
end Go.Proofs.Ytpempcefgfmniaa.MemP

/-
  memory.New: contract.
-/
namespace Go.Proofs.Ytpempcefgfmniaa.MemP
open Go.RowKit RefP CellP
set_option linter.unusedVariables false
set_option linter.unusedSimpArgs false

structure NewR (w : World) (o gb gr A T k : Nat) (wr : World) : Prop where
  head : Blk wr o (memA (.pointer none) (fk A T k) gb A gr T) 48
  blocks : Blk wr gb (rawA 17 (List.replicate A zb)) 35
  records : Blk wr gr (rawA 5 (List.replicate T zo)) 37
  b : Below w.heap.size w wr
  ge : w.heap.size ≤ o ∧ w.heap.size ≤ gb ∧ w.heap.size ≤ gr
  ne : o ≠ gb ∧ o ≠ gr ∧ gb ≠ gr
theorem NewR.below {w : World} {o gb gr A T k : Nat} {wr wx : World} (h : NewR w o gb gr A T k wr) (hb : Below wr.heap.size wr wx) : NewR w o gb gr A T k wx :=
  ⟨h.head.below hb, h.blocks.below hb, h.records.below hb, below_push2 h.b hb (Nat.le_refl _), h.ge, h.ne⟩
theorem fk_self (A T k : Nat) : fk A T k k = fromI A T k := if_pos (Nat.le_refl _)
theorem memA_next (gb A gr T k : Nat) (h : k < 7) : (memA (.pointer none) (fk A T k) gb A gr T).setIfInBounds (k + 2) (.int .i64 (fromI A T (k + 1))) = memA (.pointer none) (fk A T (k + 1)) gb A gr T := by
  have : k = 0 ∨ k = 1 ∨ k = 2 ∨ k = 3 ∨ k = 4 ∨ k = 5 ∨ k = 6 := by omega
  rcases this with e | e | e | e | e | e | e <;> subst e <;> simp [memA, fk]
theorem NewR.next {w : World} {o gb gr A T k : Nat} {wr : World} (h : NewR w o gb gr A T k wr) (hk : k < 7) : NewR w o gb gr A T (k + 1) (wr.setCell ⟨o, k + 2, none⟩ (.int .i64 (fromI A T (k + 1)))) := by
  have hB := h.head.set (k + 2) (.int .i64 (fromI A T (k + 1)))
  rw [memA_next gb A gr T k hk] at hB
  exact ⟨hB, h.blocks.far _ _ (Ne.symm h.ne.1), h.records.far _ _ (Ne.symm h.ne.2.1), h.b.setCell h.ge.1 _, h.ge, h.ne⟩
theorem memA_zero (gb A gr T : Nat) : memA (.pointer none) (fk A T 0) gb A gr T = #[.pointer none, .int .i64 0, .int .i64 0, .int .i64 0, .int .i64 0, .int .i64 0, .int .i64 0, .int .i64 0, .int .i64 0, .slice (some ⟨gb, 0, none⟩) A A, .slice (some ⟨gr, 0, none⟩) T T] := by
  simp [memA, fk, fromI]
theorem memA_seven (gb A gr T : Nat) : memA (.pointer none) (fk A T 7) gb A gr T = memA (.pointer none) (fromI A T) gb A gr T := by
  simp [memA, fk]
/-- the memory that there is at first -/
def NewAt (w : World) (A T : Nat) (gen : Int) (e : Ending) (w' : World) : Prop :=
  ∃ o oc g gb gr, e = .returned (.pointer (some ⟨o, 0, none⟩)) ∧ MemAt w' o oc g gb gr A T (freshL A T gen) ((List.replicate A zb).set 0 eb) (List.replicate T zo) ∧ Below w.heap.size w w' ∧ w.heap.size ≤ o ∧ w.heap.size ≤ oc ∧ w.heap.size ≤ g ∧ w.heap.size ≤ gb ∧ w.heap.size ≤ gr
set_option maxRecDepth 100000 in
set_option maxHeartbeats 800000 in
theorem mnew_no (a t gen : Int) (w : World) (h : a < 1 ∨ 8192 < a ∨ t < 1 ∨ 16 < t ∨ 4294967295 ≤ gen) : Calls Try.prog 21 #[.int .i64 a, .int .i64 t, .int .u64 gen] w fun e w' => e = .returned (.pointer none) ∧ w = w' := by
  obtain ⟨b1, h1⟩ : ∃ b, decide (a < 1) = b := ⟨_, rfl⟩
  obtain ⟨b2, h2⟩ : ∃ b, decide (8192 < a) = b := ⟨_, rfl⟩
  obtain ⟨b3, h3⟩ : ∃ b, decide (t < 1) = b := ⟨_, rfl⟩
  obtain ⟨b4, h4⟩ : ∃ b, decide (16 < t) = b := ⟨_, rfl⟩
  obtain ⟨b5, h5⟩ : ∃ b, decide (4294967295 ≤ gen) = b := ⟨_, rfl⟩
  have hx : b1 = true ∨ b1 = false ∧ b2 = true ∨ b1 = false ∧ b2 = false ∧ b3 = true ∨ b1 = false ∧ b2 = false ∧ b3 = false ∧ b4 = true ∨ b1 = false ∧ b2 = false ∧ b3 = false ∧ b4 = false ∧ b5 = true := by
    subst h1 h2 h3 h4 h5
    simp; omega
  clear h
  rcases hx with hx | ⟨hx, hy⟩ | ⟨hx, hy, hz⟩ | ⟨hx, hy, hz, hu⟩ | ⟨hx, hy, hz, hu, hv⟩ <;> subst_vars
  all_goals
    go_enter Try.func21, Try.ntmps21
    go_wp2_with fail
    go_ret
    exact ⟨rfl, rfl⟩
theorem four (w : World) (s x y m : Array Value) (t1 t2 t3 t4 : TypeId) :
    Blk ((((w.alloc (.cells s t1)).alloc (.cells x t2)).alloc (.cells y t3)).alloc (.cells m t4)).drew w.heap.size s t1 ∧ Blk ((((w.alloc (.cells s t1)).alloc (.cells x t2)).alloc (.cells y t3)).alloc (.cells m t4)).drew (w.heap.size + 1) x t2 ∧
    Blk ((((w.alloc (.cells s t1)).alloc (.cells x t2)).alloc (.cells y t3)).alloc (.cells m t4)).drew (w.heap.size + 1 + 1) y t3 ∧ Blk ((((w.alloc (.cells s t1)).alloc (.cells x t2)).alloc (.cells y t3)).alloc (.cells m t4)).drew (w.heap.size + 1 + 1 + 1) m t4 ∧
    Below w.heap.size w ((((w.alloc (.cells s t1)).alloc (.cells x t2)).alloc (.cells y t3)).alloc (.cells m t4)).drew := by
  refine ⟨((((Blk.new w _ _).alloc _).alloc _).alloc _).drew, ?_, ?_, ?_, by (repeat (first | exact Below.refl _ _ | assumption | refine below_alloc2 ?_ (by first | exact Nat.le_refl _ | omega) _ | refine Below.drew ?_ | refine below_drewN ?_ _ | refine below_push2 ?_ ‹_› (by first | exact Nat.le_refl _ | omega) | refine Below.setCell ?_ (by first | (simp; done) | (simp; omega) | omega) _))⟩
  · have := (((Blk.new (w.alloc (.cells s t1)) x t2).alloc (.cells y t3)).alloc (.cells m t4)).drew
    simpa using this
  · have := ((Blk.new ((w.alloc (.cells s t1)).alloc (.cells x t2)) y t3).alloc (.cells m t4)).drew
    simpa using this
  · have := (Blk.new (((w.alloc (.cells s t1)).alloc (.cells x t2)).alloc (.cells y t3)) m t4).drew
    simpa using this
set_option maxRecDepth 100000 in
set_option maxHeartbeats 3200000 in
theorem mnew_yes (A T : Nat) (gen : Int) (w : World) (hA1 : 1 ≤ A) (hA2 : A ≤ 8192) (hT1 : 1 ≤ T) (hT2 : T ≤ 16) (g0 : 0 ≤ gen) (g1 : gen < 4294967295) :
    Calls Try.prog 21 #[.int .i64 A, .int .i64 T, .int .u64 gen] w (NewAt w A T gen) := by
  obtain ⟨i0, hi, hz0, hz1, hz2⟩ := info_parts' infoBlock
  have hmkB := fun W => run_make_rowN (P := Try.prog) 45 35 i0 _ Try.underlying45 hi hz0 .i64 .i64 A A (Nat.le_refl _) (by rw [hz2]; omega) (by omega) W
  obtain ⟨i1, hj, hy0, hy1, hy2⟩ := info_parts' infoOp
  have hmkO := fun W => run_make_rowN (P := Try.prog) 46 37 i1 _ Try.underlying46 hj hy0 .i64 .i64 T T (Nat.le_refl _) (by rw [hy2]; omega) (by omega) W
  have e0 : (Value.agg #[.int .i64 0, .int .i64 0, .string ⟨#[]⟩, .string ⟨#[]⟩, .bool false, .int .i64 0, .slice none 0 0, .slice none 0 0, .slice none 0 0, .int .i64 0, .int .i64 0, .string ⟨#[]⟩, .int .u64 0, .slice none 0 0, .slice none 0 0, .slice none 0 0, .slice none 0 0]).cells = zb.toArray := by simp [Value.cells, zb]
  have e1 : (Value.agg #[.int .i64 0, .string ⟨#[]⟩, .string ⟨#[]⟩, .int .u64 0, .int .i64 0]).cells = zo.toArray := by simp [Value.cells, zo]
  rw [e0, hz1, raw_made (k := 17) zb A rfl] at hmkB
  rw [e1, hy1, raw_made (k := 5) zo T rfl] at hmkO
  clear e0 e1 hz0 hz1 hz2 hi hj hy0 hy1 hy2
  have q1 : decide ((A : Int) < 1) = false := by simp; omega
  have q2 : decide (8192 < (A : Int)) = false := by simp; omega
  have q3 : decide ((T : Int) < 1) = false := by simp; omega
  have q4 : decide (16 < (T : Int)) = false := by simp; omega
  have q5 : decide (4294967295 ≤ gen) = false := by simp; omega
  have hw2 : IntKind.i64.wrap ((T : Int) * 2) = (T : Int) * 2 := by rw [IntKind.wrap_i64]; omega
  go_enter Try.func21, Try.ntmps21
  go_upto_region 4 with (fail)
  go_cut [8] (fun u8 wx => ∃ o gb gr, u8 = .pointer (some ⟨o, 0, none⟩) ∧ NewR w o gb gr A T 0 wx ∧ Blk wx w.heap.size #[.int .i64 A, .int .i64 A, .int .i64 T, .int .i64 T, .int .i64 T, .int .i64 (T * 2), .int .i64 1] 106)
  case first =>
    have o1 := fun M => four w #[.int .i64 A, .int .i64 A, .int .i64 T, .int .i64 T, .int .i64 T, .int .i64 (T * 2), .int .i64 1] (rawA 17 (List.replicate A zb)) (rawA 5 (List.replicate T zo)) M 106 35 37 48
    have o2 := fun M => four w #[.int .i64 A, .int .i64 A, .int .i64 T, .int .i64 T, .int .i64 T, .int .i64 (T * 2), .int .i64 1] (rawA 5 (List.replicate T zo)) (rawA 17 (List.replicate A zb)) M 106 37 35 48
    go_region
    all_goals
      go_wp2_with fail
      go_meet
    · obtain ⟨r1, r2, r3, r4, r5⟩ := o1 _
      exact ⟨_, w.heap.size + 1, w.heap.size + 1 + 1, rfl, ⟨by rw [memA_zero]; exact r4, r2, r3, r5, by omega, by omega⟩, r1⟩
    · obtain ⟨r1, r2, r3, r4, r5⟩ := o2 _
      exact ⟨_, w.heap.size + 1 + 1, w.heap.size + 1, rfl, ⟨by rw [memA_zero]; exact r4, r3, r2, r5, by omega, by omega⟩, r1⟩
  case rest =>
    obtain ⟨o, gb, gr, rfl, R0, S0⟩ := hcut
    have s0 := S0.at 0 rfl
    have s1 := S0.at 1 rfl
    have s2 := S0.at 2 rfl
    have s3 := S0.at 3 rfl
    have s4 := S0.at 4 rfl
    have s5 := S0.at 5 rfl
    have s6 := S0.at 6 rfl
    go_wp2_with fail
    go_loopw [44] (fun i wr => ∃ k : Nat, k ≤ 7 ∧ ∃ j : Int, j = k ∧ i = .int .i64 j ∧ NewR w o gb gr A T k wr) (fun i _ => 7 - (intOf i).toNat)
    case atStart => exact ⟨0, Nat.zero_le _, 0, rfl, rfl, R0⟩
    case round =>
      clear R0 S0 s0 s1 s2 s3 s4 s5 s6
      obtain ⟨k, hk, j, hj, rfl, R⟩ := hrel
      have hk7 : k = 0 ∨ k = 1 ∨ k = 2 ∨ k = 3 ∨ k = 4 ∨ k = 5 ∨ k = 6 ∨ k = 7 := by omega
      clear hk
      rcases hk7 with h | h | h | h | h | h | h | h <;> subst h
      · obtain rfl : j = 0 := by omega
        clear hj
        have hwk : IntKind.i64.wrap 1 = 1 := by rw [IntKind.wrap_i64]; rfl
        have hix : ∀ W, (Instr.index 106 (.agg #[.int .i64 A, .int .i64 A, .int .i64 T, .int .i64 T, .int .i64 T, .int .i64 (T * 2), .int .i64 1]) (.int .i64 0)).run Try.prog W = .ok (.int .i64 (A : Int)) W := fun W => by kernel_rfl
        have c0 : wr.cell? ⟨o, 0 + 1, none⟩ = some (.int .i64 (fromI A T 0)) := by rw [← fk_self A T 0]; exact R.head.at (0 + 1) rfl
        have c1 : wr.cell? ⟨o, 0 + 2, none⟩ = some (.int .i64 (fk A T 0 (0 + 1))) := R.head.at (0 + 2) rfl
        have f1 := R.head.free (0 + 2)
        simp only [Nat.reduceAdd] at c0 c1 f1
        have hw : IntKind.i64.wrap (fromI A T 0 + (A : Int)) = fromI A T (0 + 1) := by
          have e1 := from_succ A T 0 (by omega)
          have e2 := from_rng A T (0 + 1) hA2 hT2
          rw [IntKind.wrap_i64]
          simp only [sizeI, Nat.reduceAdd] at e1 e2 ⊢
          omega
        simp only [Nat.reduceAdd] at hw
        have hN := R.next (show 0 < 7 by omega)
        simp only [Nat.reduceAdd] at hN
        go_upto_region 8 with (fail)
        go_still_tail 14, (by kernel_rfl)
        go_wp2_with fail
        go_roundw
        case rel => exact ⟨0 + 1, by omega, 0 + 1, by omega, by go_num, hN.below (Below.refl _ _).drew⟩
        case measure => simp [intOf]
      · obtain rfl : j = 1 := by omega
        clear hj
        have hwk : IntKind.i64.wrap 2 = 2 := by rw [IntKind.wrap_i64]; rfl
        have hix : ∀ W, (Instr.index 106 (.agg #[.int .i64 A, .int .i64 A, .int .i64 T, .int .i64 T, .int .i64 T, .int .i64 (T * 2), .int .i64 1]) (.int .i64 1)).run Try.prog W = .ok (.int .i64 (A : Int)) W := fun W => by kernel_rfl
        have c0 : wr.cell? ⟨o, 1 + 1, none⟩ = some (.int .i64 (fromI A T 1)) := by rw [← fk_self A T 1]; exact R.head.at (1 + 1) rfl
        have c1 : wr.cell? ⟨o, 1 + 2, none⟩ = some (.int .i64 (fk A T 1 (1 + 1))) := R.head.at (1 + 2) rfl
        have f1 := R.head.free (1 + 2)
        simp only [Nat.reduceAdd] at c0 c1 f1
        have hw : IntKind.i64.wrap (fromI A T 1 + (A : Int)) = fromI A T (1 + 1) := by
          have e1 := from_succ A T 1 (by omega)
          have e2 := from_rng A T (1 + 1) hA2 hT2
          rw [IntKind.wrap_i64]
          simp only [sizeI, Nat.reduceAdd] at e1 e2 ⊢
          omega
        simp only [Nat.reduceAdd] at hw
        have hN := R.next (show 1 < 7 by omega)
        simp only [Nat.reduceAdd] at hN
        go_upto_region 8 with (fail)
        go_still_tail 14, (by kernel_rfl)
        go_wp2_with fail
        go_roundw
        case rel => exact ⟨1 + 1, by omega, 1 + 1, by omega, by go_num, hN.below (Below.refl _ _).drew⟩
        case measure => simp [intOf]
      · obtain rfl : j = 2 := by omega
        clear hj
        have hwk : IntKind.i64.wrap 3 = 3 := by rw [IntKind.wrap_i64]; rfl
        have hix : ∀ W, (Instr.index 106 (.agg #[.int .i64 A, .int .i64 A, .int .i64 T, .int .i64 T, .int .i64 T, .int .i64 (T * 2), .int .i64 1]) (.int .i64 2)).run Try.prog W = .ok (.int .i64 (T : Int)) W := fun W => by kernel_rfl
        have c0 : wr.cell? ⟨o, 2 + 1, none⟩ = some (.int .i64 (fromI A T 2)) := by rw [← fk_self A T 2]; exact R.head.at (2 + 1) rfl
        have c1 : wr.cell? ⟨o, 2 + 2, none⟩ = some (.int .i64 (fk A T 2 (2 + 1))) := R.head.at (2 + 2) rfl
        have f1 := R.head.free (2 + 2)
        simp only [Nat.reduceAdd] at c0 c1 f1
        have hw : IntKind.i64.wrap (fromI A T 2 + (T : Int)) = fromI A T (2 + 1) := by
          have e1 := from_succ A T 2 (by omega)
          have e2 := from_rng A T (2 + 1) hA2 hT2
          rw [IntKind.wrap_i64]
          simp only [sizeI, Nat.reduceAdd] at e1 e2 ⊢
          omega
        simp only [Nat.reduceAdd] at hw
        have hN := R.next (show 2 < 7 by omega)
        simp only [Nat.reduceAdd] at hN
        go_upto_region 8 with (fail)
        go_still_tail 14, (by kernel_rfl)
        go_wp2_with fail
        go_roundw
        case rel => exact ⟨2 + 1, by omega, 2 + 1, by omega, by go_num, hN.below (Below.refl _ _).drew⟩
        case measure => simp [intOf]
      · obtain rfl : j = 3 := by omega
        clear hj
        have hwk : IntKind.i64.wrap 4 = 4 := by rw [IntKind.wrap_i64]; rfl
        have hix : ∀ W, (Instr.index 106 (.agg #[.int .i64 A, .int .i64 A, .int .i64 T, .int .i64 T, .int .i64 T, .int .i64 (T * 2), .int .i64 1]) (.int .i64 3)).run Try.prog W = .ok (.int .i64 (T : Int)) W := fun W => by kernel_rfl
        have c0 : wr.cell? ⟨o, 3 + 1, none⟩ = some (.int .i64 (fromI A T 3)) := by rw [← fk_self A T 3]; exact R.head.at (3 + 1) rfl
        have c1 : wr.cell? ⟨o, 3 + 2, none⟩ = some (.int .i64 (fk A T 3 (3 + 1))) := R.head.at (3 + 2) rfl
        have f1 := R.head.free (3 + 2)
        simp only [Nat.reduceAdd] at c0 c1 f1
        have hw : IntKind.i64.wrap (fromI A T 3 + (T : Int)) = fromI A T (3 + 1) := by
          have e1 := from_succ A T 3 (by omega)
          have e2 := from_rng A T (3 + 1) hA2 hT2
          rw [IntKind.wrap_i64]
          simp only [sizeI, Nat.reduceAdd] at e1 e2 ⊢
          omega
        simp only [Nat.reduceAdd] at hw
        have hN := R.next (show 3 < 7 by omega)
        simp only [Nat.reduceAdd] at hN
        go_upto_region 8 with (fail)
        go_still_tail 14, (by kernel_rfl)
        go_wp2_with fail
        go_roundw
        case rel => exact ⟨3 + 1, by omega, 3 + 1, by omega, by go_num, hN.below (Below.refl _ _).drew⟩
        case measure => simp [intOf]
      · obtain rfl : j = 4 := by omega
        clear hj
        have hwk : IntKind.i64.wrap 5 = 5 := by rw [IntKind.wrap_i64]; rfl
        have hix : ∀ W, (Instr.index 106 (.agg #[.int .i64 A, .int .i64 A, .int .i64 T, .int .i64 T, .int .i64 T, .int .i64 (T * 2), .int .i64 1]) (.int .i64 4)).run Try.prog W = .ok (.int .i64 (T : Int)) W := fun W => by kernel_rfl
        have c0 : wr.cell? ⟨o, 4 + 1, none⟩ = some (.int .i64 (fromI A T 4)) := by rw [← fk_self A T 4]; exact R.head.at (4 + 1) rfl
        have c1 : wr.cell? ⟨o, 4 + 2, none⟩ = some (.int .i64 (fk A T 4 (4 + 1))) := R.head.at (4 + 2) rfl
        have f1 := R.head.free (4 + 2)
        simp only [Nat.reduceAdd] at c0 c1 f1
        have hw : IntKind.i64.wrap (fromI A T 4 + (T : Int)) = fromI A T (4 + 1) := by
          have e1 := from_succ A T 4 (by omega)
          have e2 := from_rng A T (4 + 1) hA2 hT2
          rw [IntKind.wrap_i64]
          simp only [sizeI, Nat.reduceAdd] at e1 e2 ⊢
          omega
        simp only [Nat.reduceAdd] at hw
        have hN := R.next (show 4 < 7 by omega)
        simp only [Nat.reduceAdd] at hN
        go_upto_region 8 with (fail)
        go_still_tail 14, (by kernel_rfl)
        go_wp2_with fail
        go_roundw
        case rel => exact ⟨4 + 1, by omega, 4 + 1, by omega, by go_num, hN.below (Below.refl _ _).drew⟩
        case measure => simp [intOf]
      · obtain rfl : j = 5 := by omega
        clear hj
        have hwk : IntKind.i64.wrap 6 = 6 := by rw [IntKind.wrap_i64]; rfl
        have hix : ∀ W, (Instr.index 106 (.agg #[.int .i64 A, .int .i64 A, .int .i64 T, .int .i64 T, .int .i64 T, .int .i64 (T * 2), .int .i64 1]) (.int .i64 5)).run Try.prog W = .ok (.int .i64 ((T : Int) * 2)) W := fun W => by kernel_rfl
        have c0 : wr.cell? ⟨o, 5 + 1, none⟩ = some (.int .i64 (fromI A T 5)) := by rw [← fk_self A T 5]; exact R.head.at (5 + 1) rfl
        have c1 : wr.cell? ⟨o, 5 + 2, none⟩ = some (.int .i64 (fk A T 5 (5 + 1))) := R.head.at (5 + 2) rfl
        have f1 := R.head.free (5 + 2)
        simp only [Nat.reduceAdd] at c0 c1 f1
        have hw : IntKind.i64.wrap (fromI A T 5 + ((T : Int) * 2)) = fromI A T (5 + 1) := by
          have e1 := from_succ A T 5 (by omega)
          have e2 := from_rng A T (5 + 1) hA2 hT2
          rw [IntKind.wrap_i64]
          simp only [sizeI, Nat.reduceAdd] at e1 e2 ⊢
          omega
        simp only [Nat.reduceAdd] at hw
        have hN := R.next (show 5 < 7 by omega)
        simp only [Nat.reduceAdd] at hN
        go_upto_region 8 with (fail)
        go_still_tail 14, (by kernel_rfl)
        go_wp2_with fail
        go_roundw
        case rel => exact ⟨5 + 1, by omega, 5 + 1, by omega, by go_num, hN.below (Below.refl _ _).drew⟩
        case measure => simp [intOf]
      · obtain rfl : j = 6 := by omega
        clear hj
        have hwk : IntKind.i64.wrap 7 = 7 := by rw [IntKind.wrap_i64]; rfl
        have hix : ∀ W, (Instr.index 106 (.agg #[.int .i64 A, .int .i64 A, .int .i64 T, .int .i64 T, .int .i64 T, .int .i64 (T * 2), .int .i64 1]) (.int .i64 6)).run Try.prog W = .ok (.int .i64 1) W := fun W => by kernel_rfl
        have c0 : wr.cell? ⟨o, 6 + 1, none⟩ = some (.int .i64 (fromI A T 6)) := by rw [← fk_self A T 6]; exact R.head.at (6 + 1) rfl
        have c1 : wr.cell? ⟨o, 6 + 2, none⟩ = some (.int .i64 (fk A T 6 (6 + 1))) := R.head.at (6 + 2) rfl
        have f1 := R.head.free (6 + 2)
        simp only [Nat.reduceAdd] at c0 c1 f1
        have hw : IntKind.i64.wrap (fromI A T 6 + 1) = fromI A T (6 + 1) := by
          have e1 := from_succ A T 6 (by omega)
          have e2 := from_rng A T (6 + 1) hA2 hT2
          rw [IntKind.wrap_i64]
          simp only [sizeI, Nat.reduceAdd] at e1 e2 ⊢
          omega
        simp only [Nat.reduceAdd] at hw
        have hN := R.next (show 6 < 7 by omega)
        simp only [Nat.reduceAdd] at hN
        go_upto_region 8 with (fail)
        go_still_tail 14, (by kernel_rfl)
        go_wp2_with fail
        go_roundw
        case rel => exact ⟨6 + 1, by omega, 6 + 1, by omega, by go_num, hN.below (Below.refl _ _).drew⟩
        case measure => simp [intOf]
      · obtain rfl : j = 7 := by omega
        clear hj
        have hP : PreAt wr o gb gr A T (List.replicate A zb) (List.replicate T zo) := ⟨by rw [← memA_seven]; exact R.head, R.blocks, R.records, by simp, by simp, ⟨hA1, hA2⟩, ⟨hT1, hT2⟩, R.ne⟩
        go_wp2_with fail
        refine (begin_any o gb gr A T _ _ gen wr hP g0 g1).mono ?_
        rintro e w6 ⟨rfl, oc, g, hM, hF, hO, hG⟩
        go_wp2_with fail
        go_ret
        have hs := R.b.size
        have hge := R.ge
        exact ⟨o, oc, g, gb, gr, rfl, hM, hF.below R.b (Nat.le_refl _) (by simp; omega), by omega, by omega, by omega, by omega, by omega⟩
end Go.Proofs.Ytpempcefgfmniaa.MemP
