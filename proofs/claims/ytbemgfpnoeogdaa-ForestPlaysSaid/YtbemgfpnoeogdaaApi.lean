/-
  The plain things of package api, and how they lie in cells: nodes, answers, plans, blocks, operations, accesses.
-/
import Derived.Test.YtbemgfpnoeogdaaDeep
namespace Go.Proofs.Ytbemgfpnoeogdaa.Dp
open Go.RowKit RefP
set_option linter.unusedVariables false
set_option linter.unusedSimpArgs false

structure PairV where
  key : ByteArray
  val : Int
deriving DecidableEq
structure NodeV where
  level : Int
  low : ByteArray
  high : ByteArray
  last : Bool
  next : Int
  keys : List ByteArray
  vals : List Int
  kids : List Int
deriving DecidableEq
structure AnsV where
  code : Int
  key : ByteArray
  val : Int
  pairs : List PairV
deriving DecidableEq
structure StepV where
  cell : Int
  ver : Int
  old : Int
  new : Int
  lin : Bool
deriving DecidableEq
structure PlanV where
  thread : Int
  ans : AnsV
  steps : List StepV
  extra : List Int
deriving DecidableEq
structure BlockV where
  kind : Int
  node : NodeV
  plan : PlanV
  pairs : List PairV
deriving DecidableEq
structure OpV where
  kind : Int
  key : ByteArray
  upto : ByteArray
  val : Int
  limit : Int
deriving DecidableEq
structure AccV where
  kind : Int
  at_ : Int
  ver : Int
  word : Int
  block : BlockV
  op : OpV
structure ReplyV where
  ok : Bool
  word : Int
  ver : Int
  block : BlockV
  op : OpV
structure ChangeV where
  cell : Int
  from_ : Int
  word : Int
  ver : Int
  empty : Bool
  lin : Bool
  node : NodeV

/-- the head of a slice but for its length -/
structure Hd where
  a : Option Addr
  c : Nat
def Hd.v (h : Hd) (n : Nat) : Value := .slice h.a n h.c
def Hd.nil : Hd := ⟨none, 0⟩
/-- a row under a head -/
structure HRow {α : Type} (E : Cod α) (w : World) (S : List Nat) (h : Hd) (xs : List α) : Prop where
  le : xs.length ≤ h.c
  cap : h.c ≤ maxLen
  row : RowRep E w S h.a xs
theorem HRow.keep {α : Type} {E : Cod α} {w w' : World} {S : List Nat} {h : Hd} {xs : List α} (H : HRow E w S h xs) (k : Keeps S w w') : HRow E w' S h xs := ⟨H.le, H.cap, H.row.keep k⟩
theorem HRow.more {α : Type} {E : Cod α} {w : World} {S S' : List Nat} {h : Hd} {xs : List α} (H : HRow E w S h xs) (k : ∀ b ∈ S', b ∈ S ∨ w.heap.size ≤ b) : HRow E w S' h xs := ⟨H.le, H.cap, H.row.more k⟩
theorem HRow.nil {α : Type} (E : Cod α) (w : World) (S : List Nat) : HRow E w S Hd.nil [] := ⟨Nat.le_refl _, Nat.zero_le _, RowRep.nil _ _ _ _⟩
theorem rowC_of {α : Type} {E : Cod α} {w : World} {S : List Nat} {cs : List Value} {xs : List α} (h : (rowC E).rep w S cs xs) : ∃ q : Hd, cs = [q.v xs.length] ∧ HRow E w S q xs := by
  obtain ⟨a, c, e, h1, h2, h3⟩ := h
  exact ⟨⟨a, c⟩, e, h1, h2, h3⟩
theorem rowC_mk {α : Type} {E : Cod α} {w : World} {S : List Nat} {q : Hd} {xs : List α} (h : HRow E w S q xs) : (rowC E).rep w S [q.v xs.length] xs := ⟨q.a, q.c, rfl, h.le, h.cap, h.row⟩

abbrev i64C : Cod Int := intC .i64
abbrev u64C : Cod Int := intC .u64
def I64 (n : Int) : Prop := -9223372036854775808 ≤ n ∧ n ≤ 9223372036854775807
def U64 (n : Int) : Prop := 0 ≤ n ∧ n ≤ 18446744073709551615
theorem I64.of {n : Int} (h : (Lit.int .i64 n).wf = true) : I64 n := Lift.i64_range h
theorem U64.of {n : Int} (h : (Lit.int .u64 n).wf = true) : U64 n := Lift.u64_range h

def pairT : Cod PairV := isoC (pairC strC (pairC u64C unitC)) (fun x => (x.key, x.val, ()))
def stepT : Cod StepV := isoC (pairC i64C (pairC u64C (pairC u64C (pairC u64C (pairC boolC unitC))))) (fun x => (x.cell, x.ver, x.old, x.new, x.lin, ()))
def nodeT : Cod NodeV := isoC (pairC i64C (pairC strC (pairC strC (pairC boolC (pairC i64C (pairC (rowC strC) (pairC (rowC u64C) (pairC (rowC i64C) unitC)))))))) (fun x => (x.level, x.low, x.high, x.last, x.next, x.keys, x.vals, x.kids, ()))
def ansT : Cod AnsV := isoC (pairC i64C (pairC strC (pairC u64C (pairC (rowC pairT) unitC)))) (fun x => (x.code, x.key, x.val, x.pairs, ()))
def planT : Cod PlanV := isoC (pairC i64C (pairC ansT (pairC (rowC stepT) (pairC (rowC u64C) unitC)))) (fun x => (x.thread, x.ans, x.steps, x.extra, ()))
def blockT : Cod BlockV := isoC (pairC i64C (pairC nodeT (pairC planT (pairC (rowC pairT) unitC)))) (fun x => (x.kind, x.node, x.plan, x.pairs, ()))
def opT : Cod OpV := isoC (pairC i64C (pairC strC (pairC strC (pairC u64C (pairC i64C unitC))))) (fun x => (x.kind, x.key, x.upto, x.val, x.limit, ()))
def accT : Cod AccV := isoC (pairC i64C (pairC i64C (pairC u64C (pairC u64C (pairC blockT (pairC opT unitC)))))) (fun x => (x.kind, x.at_, x.ver, x.word, x.block, x.op, ()))
def changeT : Cod ChangeV := isoC (pairC i64C (pairC i64C (pairC u64C (pairC u64C (pairC boolC (pairC boolC (pairC nodeT unitC))))))) (fun x => (x.cell, x.from_, x.word, x.ver, x.empty, x.lin, x.node, ()))

/-! written out -/
def pairL (x : PairV) : List Value := [.string x.key, .int .u64 x.val]
structure PairOk (x : PairV) : Prop where
  key : x.key.size ≤ maxLen
  val : U64 x.val
def stepL (x : StepV) : List Value := [.int .i64 x.cell, .int .u64 x.ver, .int .u64 x.old, .int .u64 x.new, .bool x.lin]
structure StepOk (x : StepV) : Prop where
  cell : I64 x.cell
  ver : U64 x.ver
  old : U64 x.old
  new : U64 x.new
structure NodeH where
  keys : Hd
  vals : Hd
  kids : Hd
def nodeL (h : NodeH) (x : NodeV) : List Value := [.int .i64 x.level, .string x.low, .string x.high, .bool x.last, .int .i64 x.next, h.keys.v x.keys.length, h.vals.v x.vals.length, h.kids.v x.kids.length]
structure NodeOk (w : World) (S : List Nat) (h : NodeH) (x : NodeV) : Prop where
  level : I64 x.level
  low : x.low.size ≤ maxLen
  high : x.high.size ≤ maxLen
  next : I64 x.next
  keys : HRow strC w S h.keys x.keys
  vals : HRow u64C w S h.vals x.vals
  kids : HRow i64C w S h.kids x.kids
def ansL (h : Hd) (x : AnsV) : List Value := [.int .i64 x.code, .string x.key, .int .u64 x.val, h.v x.pairs.length]
structure AnsOk (w : World) (S : List Nat) (h : Hd) (x : AnsV) : Prop where
  code : I64 x.code
  key : x.key.size ≤ maxLen
  val : U64 x.val
  pairs : HRow pairT w S h x.pairs
structure PlanH where
  pairs : Hd
  steps : Hd
  extra : Hd
def planL (h : PlanH) (x : PlanV) : List Value := .int .i64 x.thread :: (ansL h.pairs x.ans ++ [h.steps.v x.steps.length, h.extra.v x.extra.length])
structure PlanOk (w : World) (S : List Nat) (h : PlanH) (x : PlanV) : Prop where
  thread : I64 x.thread
  ans : AnsOk w S h.pairs x.ans
  steps : HRow stepT w S h.steps x.steps
  extra : HRow u64C w S h.extra x.extra
structure BlockH where
  node : NodeH
  plan : PlanH
  pairs : Hd
def blockL (h : BlockH) (x : BlockV) : List Value := .int .i64 x.kind :: (nodeL h.node x.node ++ (planL h.plan x.plan ++ [h.pairs.v x.pairs.length]))
structure BlockOk (w : World) (S : List Nat) (h : BlockH) (x : BlockV) : Prop where
  kind : I64 x.kind
  node : NodeOk w S h.node x.node
  plan : PlanOk w S h.plan x.plan
  pairs : HRow pairT w S h.pairs x.pairs
def opL (x : OpV) : List Value := [.int .i64 x.kind, .string x.key, .string x.upto, .int .u64 x.val, .int .i64 x.limit]
structure OpOk (x : OpV) : Prop where
  kind : I64 x.kind
  key : x.key.size ≤ maxLen
  upto : x.upto.size ≤ maxLen
  val : U64 x.val
  limit : I64 x.limit
def accL (h : BlockH) (x : AccV) : List Value := [.int .i64 x.kind, .int .i64 x.at_, .int .u64 x.ver, .int .u64 x.word] ++ (blockL h x.block ++ opL x.op)
structure AccOk (w : World) (S : List Nat) (h : BlockH) (x : AccV) : Prop where
  kind : I64 x.kind
  at_ : I64 x.at_
  ver : U64 x.ver
  word : U64 x.word
  block : BlockOk w S h x.block
  op : OpOk x.op
def changeL (h : NodeH) (x : ChangeV) : List Value := [.int .i64 x.cell, .int .i64 x.from_, .int .u64 x.word, .int .u64 x.ver, .bool x.empty, .bool x.lin] ++ nodeL h x.node
structure ChangeOk (w : World) (S : List Nat) (h : NodeH) (x : ChangeV) : Prop where
  cell : I64 x.cell
  from_ : I64 x.from_
  word : U64 x.word
  ver : U64 x.ver
  node : NodeOk w S h x.node
theorem wf_i64 {n : Int} (h : I64 n) : (Lit.int .i64 n).wf = true := by
  obtain ⟨h0, h1⟩ := h
  simp [Lit.wf, IntKind.min, IntKind.max, IntKind.bits, IntKind.signed]
  omega
theorem wf_u64 {n : Int} (h : U64 n) : (Lit.int .u64 n).wf = true := by
  obtain ⟨h0, h1⟩ := h
  simp [Lit.wf, IntKind.min, IntKind.max, IntKind.bits, IntKind.signed]
  omega
theorem pairT_of {w : World} {S : List Nat} {cs : List Value} {x : PairV} (h : pairT.rep w S cs x) : cs = pairL x ∧ PairOk x := by
  obtain ⟨_, _, rfl, ⟨rfl, h0⟩, _, _, rfl, ⟨rfl, h1⟩, rfl⟩ := h
  exact ⟨rfl, h0, U64.of h1⟩
theorem pairT_mk {w : World} {S : List Nat} {x : PairV} (h : PairOk x) : pairT.rep w S (pairL x) x :=
  ⟨[_], [_], rfl, ⟨rfl, h.key⟩, [_], [], rfl, ⟨rfl, wf_u64 h.val⟩, rfl⟩
theorem stepT_of {w : World} {S : List Nat} {cs : List Value} {x : StepV} (h : stepT.rep w S cs x) : cs = stepL x ∧ StepOk x := by
  obtain ⟨_, _, rfl, ⟨rfl, h0⟩, _, _, rfl, ⟨rfl, h1⟩, _, _, rfl, ⟨rfl, h2⟩, _, _, rfl, ⟨rfl, h3⟩, _, _, rfl, rfl, rfl⟩ := h
  exact ⟨rfl, I64.of h0, U64.of h1, U64.of h2, U64.of h3⟩
theorem stepT_mk {w : World} {S : List Nat} {x : StepV} (h : StepOk x) : stepT.rep w S (stepL x) x :=
  ⟨[_], _, rfl, ⟨rfl, wf_i64 h.cell⟩, [_], _, rfl, ⟨rfl, wf_u64 h.ver⟩, [_], _, rfl, ⟨rfl, wf_u64 h.old⟩, [_], _, rfl, ⟨rfl, wf_u64 h.new⟩, [_], [], rfl, rfl, rfl⟩
theorem nodeT_of {w : World} {S : List Nat} {cs : List Value} {x : NodeV} (h : nodeT.rep w S cs x) : ∃ q, cs = nodeL q x ∧ NodeOk w S q x := by
  obtain ⟨_, _, rfl, ⟨rfl, h0⟩, _, _, rfl, ⟨rfl, h1⟩, _, _, rfl, ⟨rfl, h2⟩, _, _, rfl, rfl, _, _, rfl, ⟨rfl, h4⟩, _, _, rfl, h5, _, _, rfl, h6, _, _, rfl, h7, rfl⟩ := h
  obtain ⟨q5, rfl, r5⟩ := rowC_of h5
  obtain ⟨q6, rfl, r6⟩ := rowC_of h6
  obtain ⟨q7, rfl, r7⟩ := rowC_of h7
  exact ⟨⟨q5, q6, q7⟩, rfl, I64.of h0, h1, h2, I64.of h4, r5, r6, r7⟩
theorem nodeT_mk {w : World} {S : List Nat} {q : NodeH} {x : NodeV} (h : NodeOk w S q x) : nodeT.rep w S (nodeL q x) x :=
  ⟨[_], _, rfl, ⟨rfl, wf_i64 h.level⟩, [_], _, rfl, ⟨rfl, h.low⟩, [_], _, rfl, ⟨rfl, h.high⟩, [_], _, rfl, rfl, [_], _, rfl, ⟨rfl, wf_i64 h.next⟩, [_], _, rfl, rowC_mk h.keys, [_], _, rfl, rowC_mk h.vals, [_], [], rfl, rowC_mk h.kids, rfl⟩
theorem ansT_of {w : World} {S : List Nat} {cs : List Value} {x : AnsV} (h : ansT.rep w S cs x) : ∃ q, cs = ansL q x ∧ AnsOk w S q x := by
  obtain ⟨_, _, rfl, ⟨rfl, h0⟩, _, _, rfl, ⟨rfl, h1⟩, _, _, rfl, ⟨rfl, h2⟩, _, _, rfl, h3, rfl⟩ := h
  obtain ⟨q3, rfl, r3⟩ := rowC_of h3
  exact ⟨q3, rfl, I64.of h0, h1, U64.of h2, r3⟩
theorem ansT_mk {w : World} {S : List Nat} {q : Hd} {x : AnsV} (h : AnsOk w S q x) : ansT.rep w S (ansL q x) x :=
  ⟨[_], _, rfl, ⟨rfl, wf_i64 h.code⟩, [_], _, rfl, ⟨rfl, h.key⟩, [_], _, rfl, ⟨rfl, wf_u64 h.val⟩, [_], [], rfl, rowC_mk h.pairs, rfl⟩
theorem planT_of {w : World} {S : List Nat} {cs : List Value} {x : PlanV} (h : planT.rep w S cs x) : ∃ q, cs = planL q x ∧ PlanOk w S q x := by
  obtain ⟨_, _, rfl, ⟨rfl, h0⟩, _, _, rfl, h1, _, _, rfl, h2, _, _, rfl, h3, rfl⟩ := h
  obtain ⟨q1, rfl, r1⟩ := ansT_of h1
  obtain ⟨q2, rfl, r2⟩ := rowC_of h2
  obtain ⟨q3, rfl, r3⟩ := rowC_of h3
  exact ⟨⟨q1, q2, q3⟩, rfl, I64.of h0, r1, r2, r3⟩
theorem planT_mk {w : World} {S : List Nat} {q : PlanH} {x : PlanV} (h : PlanOk w S q x) : planT.rep w S (planL q x) x :=
  ⟨[_], _, rfl, ⟨rfl, wf_i64 h.thread⟩, _, _, rfl, ansT_mk h.ans, [_], _, rfl, rowC_mk h.steps, [_], [], rfl, rowC_mk h.extra, rfl⟩
theorem blockT_of {w : World} {S : List Nat} {cs : List Value} {x : BlockV} (h : blockT.rep w S cs x) : ∃ q, cs = blockL q x ∧ BlockOk w S q x := by
  obtain ⟨_, _, rfl, ⟨rfl, h0⟩, _, _, rfl, h1, _, _, rfl, h2, _, _, rfl, h3, rfl⟩ := h
  obtain ⟨q1, rfl, r1⟩ := nodeT_of h1
  obtain ⟨q2, rfl, r2⟩ := planT_of h2
  obtain ⟨q3, rfl, r3⟩ := rowC_of h3
  exact ⟨⟨q1, q2, q3⟩, rfl, I64.of h0, r1, r2, r3⟩
theorem blockT_mk {w : World} {S : List Nat} {q : BlockH} {x : BlockV} (h : BlockOk w S q x) : blockT.rep w S (blockL q x) x :=
  ⟨[_], _, rfl, ⟨rfl, wf_i64 h.kind⟩, _, _, rfl, nodeT_mk h.node, _, _, rfl, planT_mk h.plan, [_], [], rfl, rowC_mk h.pairs, rfl⟩
theorem opT_of {w : World} {S : List Nat} {cs : List Value} {x : OpV} (h : opT.rep w S cs x) : cs = opL x ∧ OpOk x := by
  obtain ⟨_, _, rfl, ⟨rfl, h0⟩, _, _, rfl, ⟨rfl, h1⟩, _, _, rfl, ⟨rfl, h2⟩, _, _, rfl, ⟨rfl, h3⟩, _, _, rfl, ⟨rfl, h4⟩, rfl⟩ := h
  exact ⟨rfl, I64.of h0, h1, h2, U64.of h3, I64.of h4⟩
theorem opT_mk {w : World} {S : List Nat} {x : OpV} (h : OpOk x) : opT.rep w S (opL x) x :=
  ⟨[_], _, rfl, ⟨rfl, wf_i64 h.kind⟩, [_], _, rfl, ⟨rfl, h.key⟩, [_], _, rfl, ⟨rfl, h.upto⟩, [_], _, rfl, ⟨rfl, wf_u64 h.val⟩, [_], [], rfl, ⟨rfl, wf_i64 h.limit⟩, rfl⟩
theorem accT_of {w : World} {S : List Nat} {cs : List Value} {x : AccV} (h : accT.rep w S cs x) : ∃ q, cs = accL q x ∧ AccOk w S q x := by
  obtain ⟨_, _, rfl, ⟨rfl, h0⟩, _, _, rfl, ⟨rfl, h1⟩, _, _, rfl, ⟨rfl, h2⟩, _, _, rfl, ⟨rfl, h3⟩, _, _, rfl, h4, _, _, rfl, h5, rfl⟩ := h
  obtain ⟨q4, rfl, r4⟩ := blockT_of h4
  obtain ⟨rfl, r5⟩ := opT_of h5
  refine ⟨q4, ?_, I64.of h0, I64.of h1, U64.of h2, U64.of h3, r4, r5⟩
  simp [accL]
theorem changeT_of {w : World} {S : List Nat} {cs : List Value} {x : ChangeV} (h : changeT.rep w S cs x) : ∃ q, cs = changeL q x ∧ ChangeOk w S q x := by
  obtain ⟨_, _, rfl, ⟨rfl, h0⟩, _, _, rfl, ⟨rfl, h1⟩, _, _, rfl, ⟨rfl, h2⟩, _, _, rfl, ⟨rfl, h3⟩, _, _, rfl, rfl, _, _, rfl, rfl, _, _, rfl, h6, rfl⟩ := h
  obtain ⟨q6, rfl, r6⟩ := nodeT_of h6
  refine ⟨q6, ?_, I64.of h0, I64.of h1, U64.of h2, U64.of h3, r6⟩
  simp [changeL]
theorem NodeOk.keep {w w' : World} {S : List Nat} {q : NodeH} {x : NodeV} (h : NodeOk w S q x) (k : Keeps S w w') : NodeOk w' S q x := ⟨h.level, h.low, h.high, h.next, h.keys.keep k, h.vals.keep k, h.kids.keep k⟩
theorem AnsOk.keep {w w' : World} {S : List Nat} {q : Hd} {x : AnsV} (h : AnsOk w S q x) (k : Keeps S w w') : AnsOk w' S q x := ⟨h.code, h.key, h.val, h.pairs.keep k⟩
theorem PlanOk.keep {w w' : World} {S : List Nat} {q : PlanH} {x : PlanV} (h : PlanOk w S q x) (k : Keeps S w w') : PlanOk w' S q x := ⟨h.thread, h.ans.keep k, h.steps.keep k, h.extra.keep k⟩
theorem BlockOk.keep {w w' : World} {S : List Nat} {q : BlockH} {x : BlockV} (h : BlockOk w S q x) (k : Keeps S w w') : BlockOk w' S q x := ⟨h.kind, h.node.keep k, h.plan.keep k, h.pairs.keep k⟩
theorem AccOk.keep {w w' : World} {S : List Nat} {q : BlockH} {x : AccV} (h : AccOk w S q x) (k : Keeps S w w') : AccOk w' S q x := ⟨h.kind, h.at_, h.ver, h.word, h.block.keep k, h.op⟩
end Go.Proofs.Ytbemgfpnoeogdaa.Dp
