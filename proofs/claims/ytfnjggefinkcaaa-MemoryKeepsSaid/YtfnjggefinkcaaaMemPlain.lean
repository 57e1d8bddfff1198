/-
  What threads share: where cells are, and how a memory lies. Plain laws.
-/
import Derived.Test.YtfnjggefinkcaaaRecs
import Derived.Test.YtfnjggefinkcaaaCellPlain
import Derived.Test.YtfnjggefinkcaaaCellWalk
import Derived.Test.YtfnjggefinkcaaaRefPlain
import Derived.Test.YtfnjggefinkcaaaDeep
namespace Go.Proofs.Ytfnjggefinkcaaa.MemP
open Go.RowKit RefP CellP
set_option linter.unusedVariables false
set_option linter.unusedSimpArgs false

/-- all is as it was, but for some blocks -/
structure Fr (S : List Nat) (w w' : World) : Prop where
  os : w'.os = w.os
  tape : w'.tape = w.tape
  output : w'.output = w.output
  size : w.heap.size ≤ w'.heap.size
  block : ∀ b, b < w.heap.size → b ∉ S → w'.heap[b]? = w.heap[b]?
theorem Fr.refl (S : List Nat) (w : World) : Fr S w w := ⟨rfl, rfl, rfl, Nat.le_refl _, fun _ _ _ => rfl⟩
theorem Fr.trans {S : List Nat} {a b c : World} (h : Fr S a b) (k : Fr S b c) : Fr S a c :=
  ⟨k.os.trans h.os, k.tape.trans h.tape, k.output.trans h.output, Nat.le_trans h.size k.size, fun i hi hn => (k.block i (Nat.lt_of_lt_of_le hi h.size) hn).trans (h.block i hi hn)⟩
theorem Fr.of_below {S : List Nat} {w w' : World} (h : Below w.heap.size w w') : Fr S w w' := ⟨h.os, h.tape, h.output, h.size, fun b hb _ => h.block b hb⟩
theorem Fr.of_grown {S : List Nat} {w w' : World} {row : Option Nat} (h : w.grownBy w' row) (hr : ∀ g, row = some g → g ∈ S) : Fr S w w' :=
  ⟨h.os, h.tape, h.output, h.size, fun b hb hn => h.block b hb (fun e => hn (hr b e.symm))⟩
theorem Fr.set {S : List Nat} {a w : World} (h : Fr S a w) (p : Addr) (v : Value) (hp : p.block ∈ S ∨ a.heap.size ≤ p.block) : Fr S a (w.setCell p v) :=
  ⟨h.os, h.tape, h.output, by simpa using h.size, fun b hb hn => (Below.heap_setCell w p v b (fun e => by
    rcases hp with q | q
    · exact hn (e ▸ q)
    · omega)).trans (h.block b hb hn)⟩
theorem Fr.more {S S' : List Nat} {w w' : World} (h : Fr S w w') (k : ∀ b ∈ S, b ∈ S') : Fr S' w w' := ⟨h.os, h.tape, h.output, h.size, fun b hb hn => h.block b hb (fun e => hn (k b e))⟩
theorem Fr.keeps {S : List Nat} {w w' : World} (h : Fr S w w') : Dp.Keeps S w w' := ⟨h.size, h.block⟩
theorem Fr.below {S : List Nat} {B : Nat} {a w w' : World} (h : Fr S w w') (hb : Below B a w) (hB : B ≤ a.heap.size) (hS : ∀ b ∈ S, B ≤ b) : Below B a w' :=
  ⟨h.os.trans hb.os, h.tape.trans hb.tape, h.output.trans hb.output, Nat.le_trans hb.size h.size, fun b hlt => (h.block b (Nat.lt_of_lt_of_le hlt (Nat.le_trans hB hb.size)) (fun e => by have := hS b e; omega)).trans (hb.block b hlt)⟩
theorem Fr.blk {S : List Nat} {w w' : World} (h : Fr S w w') {b : Nat} {cs : Array Value} {T : TypeId} (k : Blk w b cs T) (hn : b ∉ S) : Blk w' b cs T := ⟨(h.block b k.lt hn).trans k.h⟩
/-- where a region begins -/
def fromI (A T : Nat) (j : Nat) : Int :=
  match j with
  | 0 => 0
  | 1 => A
  | 2 => 2 * A
  | 3 => 2 * A + T
  | 4 => 2 * A + 2 * T
  | 5 => 2 * A + 3 * T
  | 6 => 2 * A + 5 * T
  | _ => 2 * A + 5 * T + 1
/-- how many cells it has -/
def sizeI (A T : Nat) (j : Nat) : Int :=
  match j with
  | 0 => A
  | 1 => A
  | 5 => 2 * T
  | 6 => 1
  | _ => T
def atI (A T r : Nat) (i : Int) : Int := if 0 ≤ i ∧ i < sizeI A T r then fromI A T r + i else -1
theorem atI_yes {A T r : Nat} {i : Int} (h0 : 0 ≤ i) (h1 : i < sizeI A T r) : atI A T r i = fromI A T r + i := if_pos ⟨h0, h1⟩
theorem atI_no {A T r : Nat} {i : Int} (h : ¬ (0 ≤ i ∧ i < sizeI A T r)) : atI A T r i = -1 := if_neg h
theorem from_succ (A T : Nat) (j : Nat) (h : j < 7) : fromI A T j + sizeI A T j = fromI A T (j + 1) := by
  have : j = 0 ∨ j = 1 ∨ j = 2 ∨ j = 3 ∨ j = 4 ∨ j = 5 ∨ j = 6 := by omega
  rcases this with h | h | h | h | h | h | h <;> subst h <;> simp [fromI, sizeI] <;> omega
theorem from_rng (A T j : Nat) (hA : A ≤ 8192) (hT : T ≤ 16) : 0 ≤ fromI A T j ∧ fromI A T j ≤ 17000 := by
  unfold fromI; split <;> omega
theorem size_rng (A T j : Nat) (hA : A ≤ 8192) (hT : T ≤ 16) : 0 ≤ sizeI A T j ∧ sizeI A T j ≤ 8192 := by
  unfold sizeI; split <;> omega
/-- the beginnings behind k rounds -/
def fk (A T k j : Nat) : Int := if j ≤ k then fromI A T j else 0
theorem fk_all (A T j : Nat) (h : j ≤ 7) : fk A T 7 j = fromI A T j := if_pos h

abbrev rawF (cs : List Value) (j : Nat) : Value := cs.getD j undef
abbrev rawA (k : Nat) (l : List (List Value)) : Array Value := recA k rawF [] l
/-- the cells of a memory's object -/
def memA (p : Value) (F : Nat → Int) (gb A gr T : Nat) : Array Value :=
  #[p, .int .i64 (F 0), .int .i64 (F 1), .int .i64 (F 2), .int .i64 (F 3), .int .i64 (F 4), .int .i64 (F 5), .int .i64 (F 6), .int .i64 (F 7), .slice (some ⟨gb, 0, none⟩) A A, .slice (some ⟨gr, 0, none⟩) T T]
/-- a memory: its object, its cells, its blocks and records (their raw cells) -/
structure MemAt (w : World) (o oc g gb gr A T : Nat) (L : List (Int × Int)) (bs rs : List (List Value)) : Prop where
  head : Blk w o (memA (.pointer (some ⟨oc, 0, none⟩)) (fromI A T) gb A gr T) 48
  cells : CellsAt w oc g L
  blocks : Blk w gb (rawA 17 bs) 35
  records : Blk w gr (rawA 5 rs) 37
  len : L.length = 2 * A + 5 * T + 1
  lb : bs.length = A
  lr : rs.length = T
  a1 : 1 ≤ A ∧ A ≤ 8192
  t1 : 1 ≤ T ∧ T ≤ 16
  ne : o ≠ g ∧ o ≠ gb ∧ o ≠ gr ∧ oc ≠ gb ∧ oc ≠ gr ∧ g ≠ gb ∧ g ≠ gr ∧ gb ≠ gr
theorem MemAt.below {w w' : World} {o oc g gb gr A T : Nat} {L : List (Int × Int)} {bs rs : List (List Value)} (h : MemAt w o oc g gb gr A T L bs rs) (hb : Below w.heap.size w w') : MemAt w' o oc g gb gr A T L bs rs :=
  ⟨h.head.below hb, h.cells.below hb, h.blocks.below hb, h.records.below hb, h.len, h.lb, h.lr, h.a1, h.t1, h.ne⟩
theorem MemAt.from {w : World} {o oc g gb gr A T : Nat} {L : List (Int × Int)} {bs rs : List (List Value)} (h : MemAt w o oc g gb gr A T L bs rs) (j : Nat) (hj : j ≤ 7) : w.cell? ⟨o, 1 + j, none⟩ = some (.int .i64 (fromI A T j)) := by
  have : j = 0 ∨ j = 1 ∨ j = 2 ∨ j = 3 ∨ j = 4 ∨ j = 5 ∨ j = 6 ∨ j = 7 := by omega
  rcases this with e | e | e | e | e | e | e | e <;> subst e <;> exact h.head.at _ rfl
/-- the cells at first -/
def freshW (A T : Nat) (gen : Int) (i : Nat) : Int := if i = 0 then packI 0 (nextV gen) else if i = A then useI 1 (nextV gen) else if A < i ∧ i < 2 * A then useI 0 gen else 0
def freshL (A T : Nat) (gen : Int) : List (Int × Int) := (List.range (2 * A + 5 * T + 1)).map fun i => (freshW A T gen i, 0)
end Go.Proofs.Ytfnjggefinkcaaa.MemP
