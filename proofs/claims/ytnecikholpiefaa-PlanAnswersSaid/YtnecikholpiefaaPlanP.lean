/-
  Plans: what fills them: plain things.
-/
import Derived.Test.YtnecikholpiefaaDeepSame2
import Derived.Test.YtnecikholpiefaaRefPlain
namespace Go.Proofs.Ytnecikholpiefaa.Dp
open Go.RowKit RefP
set_option linter.unusedVariables false
set_option linter.unusedSimpArgs false
structure AskV where
  a : AnsV
  c : List ChangeV
  words : List Int
  thread : Int
  fan : Int
structure AskH where
  pairs : Hd
  c : Hd
  words : Hd
abbrev askA (q : AskH) (x : AskV) : Array Value := #[.int .i64 x.a.code, .string x.a.key, .int .u64 x.a.val, .slice q.pairs.a x.a.pairs.length q.pairs.c, .slice q.c.a x.c.length q.c.c, .slice q.words.a x.words.length q.words.c, .int .i64 x.thread, .int .i64 x.fan]
abbrev draftA (q : AskH) (x : AskV) : Array Value := #[.int .i64 x.a.code, .string x.a.key, .int .u64 x.a.val, .slice q.pairs.a x.a.pairs.length q.pairs.c, .slice q.c.a x.c.length q.c.c]
structure AskOk (w : World) (S : List Nat) (q : AskH) (x : AskV) : Prop where
  a : AnsOk w S q.pairs x.a
  c : HRow changeT w S q.c x.c
  words : HRow u64C w S q.words x.words
  thread : I64 x.thread
  fan : I64 x.fan
theorem AskOk.keep {w w' : World} {S : List Nat} {q : AskH} {x : AskV} (h : AskOk w S q x) (k : Keeps S w w') : AskOk w' S q x := ⟨h.a.keep k, h.c.keep k, h.words.keep k, h.thread, h.fan⟩
/-- is it small? -/
def lightK (x : AskV) : Bool := x.c.all (fun c => lightN c.node) && (decide (x.c.length ≤ 60) && (decide (x.a.pairs.length ≤ 300) && decide (x.words.length ≤ 300)))
/-- how many are written -/
def fullN (l : List ChangeV) : Nat := (l.filter (fun c => !c.empty)).length
theorem fullN_le (l : List ChangeV) : fullN l ≤ l.length := List.length_filter_le _ _
theorem fullN_snoc (l : List ChangeV) (c : ChangeV) : fullN (l ++ [c]) = fullN l + if c.empty = true then 0 else 1 := by
  unfold fullN
  rw [List.filter_append]
  cases h : c.empty <;> simp [List.filter_cons, h]
def chunkN (fan n : Nat) : Nat := (n + fan - 1) / fan
def costK (x : AskV) (fan : Nat) : Nat := 1 + chunkN fan x.a.pairs.length + fullN x.c
/-- may it be filled? -/
def fanB (fan : Int) : Bool := decide (4 ≤ fan ∧ fan ≤ 64)
def fromsB (l : List ChangeV) : Bool := (List.range l.length).all fun i => decide (-1 ≤ (l.map (·.from_)).getD i 0 ∧ (l.map (·.from_)).getD i 0 < (i : Int))
def mayK (x : AskV) : Bool := fanB x.fan && (decide (x.words.length = costK x x.fan.toNat) && (x.words.all opensB && fromsB x.c))
abbrev changeA (q : NodeH) (x : ChangeV) : Array Value := #[.int .i64 x.cell, .int .i64 x.from_, .int .u64 x.word, .int .u64 x.ver, .bool x.empty, .bool x.lin, .int .i64 x.node.level, .string x.node.low, .string x.node.high, .bool x.node.last, .int .i64 x.node.next, .slice q.keys.a x.node.keys.length q.keys.c, .slice q.vals.a x.node.vals.length q.vals.c, .slice q.kids.a x.node.kids.length q.kids.c]
/-- a change of a row -/
theorem change_cell {w : World} {S : List Nat} {h : Hd} {xs : List ChangeV} (H : HRow changeT w S h xs) (k : Nat) (hk : k < xs.length) : ∃ b off q, h.a = some ⟨b, off, none⟩ ∧ b < w.heap.size ∧ w.rangeAt b (off + k * 14) (changeA q xs[k]).toList ∧ ChangeOk w S q xs[k] := by
  obtain ⟨b, off, e, hb, _, hc⟩ := H.row (by omega)
  obtain ⟨cs, hr, hv⟩ := hc k xs[k] (List.getElem?_eq_getElem hk)
  obtain ⟨q, rfl, hok⟩ := changeT_of hr
  exact ⟨b, off, q, e, hb, hv, hok⟩
theorem word_cell {w : World} {S : List Nat} {h : Hd} {xs : List Int} (H : HRow u64C w S h xs) (k : Nat) (hk : k < xs.length) : ∃ b off, h.a = some ⟨b, off, none⟩ ∧ b < w.heap.size ∧ w.cell? ⟨b, off + k, none⟩ = some (.int .u64 xs[k]) ∧ U64 xs[k] := by
  obtain ⟨b, off, e, hb, _, hc⟩ := H.row (by omega)
  obtain ⟨cs, ⟨rfl, hw⟩, hv⟩ := hc k xs[k] (List.getElem?_eq_getElem hk)
  refine ⟨b, off, e, hb, ?_, U64.of hw⟩
  have := hv 0 _ rfl
  rw [show u64C.k = 1 from rfl, Nat.mul_one, Nat.add_zero] at this
  exact this
theorem lt8' {r : Nat} (h : r < 8) : r = 0 ∨ r = 1 ∨ r = 2 ∨ r = 3 ∨ r = 4 ∨ r = 5 ∨ r = 6 ∨ r = 7 := by omega
theorem change_node {w : World} {b o : Nat} {q : NodeH} {x : ChangeV} (h : w.rangeAt b o (changeA q x).toList) : w.rangeAt b (o + 6) (nodeA q x.node).toList := fun j v hv => by
  have hj : j < 8 := (List.getElem?_eq_some_iff.1 hv).1
  rw [Nat.add_assoc]
  refine h (6 + j) v ?_
  rcases lt8' hj with e | e | e | e | e | e | e | e <;> subst e <;> exact hv
theorem blk_range {w : World} {b : Nat} {cs : Array Value} {T : TypeId} (B : Blk w b cs T) : w.rangeAt b 0 cs.toList := fun j v hv => by
  rw [Nat.zero_add]
  exact B.at j (by simpa using hv)
end Go.Proofs.Ytnecikholpiefaa.Dp
