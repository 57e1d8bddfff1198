/-
  Choosing: the task as a plain thing; what stays where a world changes above a base.
-/
import Derived.Test.YtppclnnkleebkaaMemZero
import Derived.Test.YtppclnnkleebkaaGateFst
import Derived.Deep.RegionLaw
namespace Go.Proofs.Ytppclnnkleebkaa.MemP
open Go.RowKit RefP CellP GateP
set_option linter.unusedVariables false
set_option linter.unusedSimpArgs false
theorem OwnR.heap {α : Type} {k : Nat} {f : α → Nat → Value} {d : α} {w w' : World} {base : Nat} {e : TypeId} {a : Option Addr} {c : Nat} {l : List α} (h : OwnR k f d w base e a c l) (hk : ∀ g, (Value.slice a l.length c).ownBlock = some g → w'.heap[g]? = w.heap[g]?) : OwnR k f d w' base e a c l := by
  refine ⟨⟨h.own.1, ?_⟩⟩
  rcases h.own.2 with q | ⟨g, cap, cur, e', hg, hh, r⟩
  · exact .inl q
  · refine .inr ⟨g, cap, cur, e', hg, ?_, r⟩
    rw [hk g (by rw [e']; rfl)]; exact hh
theorem OwnR.fr {α : Type} {k : Nat} {f : α → Nat → Value} {d : α} {w w' : World} {S : List Nat} {base : Nat} {e : TypeId} {a : Option Addr} {c : Nat} {l : List α} (h : OwnR k f d w base e a c l) (F : Fr S w w') (hS : ∀ g ∈ S, g < base) : OwnR k f d w' base e a c l :=
  OwnR.heap h fun g hg => F.block g (OwnR.lt h g hg).2 (fun hm => by have := hS g hm; have := (OwnR.lt h g hg).1; omega)
/-- a memory that lies below a base -/
structure MemB (w : World) (base o oc g gb gr A T : Nat) (L : List (Int × Int)) (bs rs : List (List Value)) : Prop where
  m : MemAt w o oc g gb gr A T L bs rs
  lo : o < base ∧ oc < base ∧ g < base ∧ gb < base ∧ gr < base
theorem MemB.below {w w' : World} {base o oc g gb gr A T : Nat} {L : List (Int × Int)} {bs rs : List (List Value)} (h : MemB w base o oc g gb gr A T L bs rs) (hb : Below base w w') (hs : base ≤ w.heap.size) : MemB w' base o oc g gb gr A T L bs rs := by
  have F : ∀ b, b < base → w'.heap[b]? = w.heap[b]? := hb.block
  have n := h.lo
  refine ⟨⟨⟨(F _ n.1).trans h.m.head.h⟩, ⟨⟨(F _ n.2.1).trans h.m.cells.head.h⟩, ⟨(F _ n.2.2.1).trans h.m.cells.rows.h⟩, h.m.cells.ne, h.m.cells.rng, h.m.cells.len⟩, ⟨(F _ n.2.2.2.1).trans h.m.blocks.h⟩, ⟨(F _ n.2.2.2.2).trans h.m.records.h⟩, h.m.len, h.m.lb, h.m.lr, h.m.a1, h.m.t1, h.m.ne⟩, n⟩
theorem MemB.under {w w' : World} {base o oc g gb gr A T : Nat} {L : List (Int × Int)} {bs rs : List (List Value)} (h : MemB w base o oc g gb gr A T L bs rs) (hb : Below w.heap.size w w') : MemB w' base o oc g gb gr A T L bs rs := ⟨h.m.below hb, h.lo⟩
/-- where choosing is -/
structure CS where
  th : Nat
  at_ : Nat
  ver : Int
  done : Int
  ph : Int
  L : List (Int × Int)
structure CS.Ok (s : CS) : Prop where
  th : s.th ≤ 16
  at_ : s.at_ ≤ 3
  ver : 0 ≤ s.ver ∧ s.ver ≤ 18446744073709551615
  done : 0 ≤ s.done ∧ s.done ≤ 18446744073709551615
  ph : 0 ≤ s.ph ∧ s.ph ≤ 18446744073709551615
  L : ∀ x ∈ s.L, (0 ≤ x.1 ∧ x.1 ≤ 16) ∧ 0 ≤ x.2 ∧ x.2 ≤ 18446744073709551615
  len : s.L.length ≤ s.th
/-- an access's reply is told: word and version -/
def CS.tell (s : CS) (x v : Int) : CS :=
  match s.at_ with
  | 0 => if x = 0 then { s with ver := v, th := s.th + 1 } else { s with ver := v, at_ := 1 }
  | 1 => { s with done := x, at_ := 2 }
  | 2 => { s with ph := x, at_ := 3 }
  | _ => { s with L := if v = s.ver ∧ s.done = 0 then s.L ++ [((s.th : Int), s.ph)] else s.L, th := s.th + 1, at_ := 0 }
theorem CS.Ok.tell {s : CS} (h : s.Ok) (x v : Int) (hT : s.th < 16) (hx : 0 ≤ x ∧ x ≤ 18446744073709551615) (hv : 0 ≤ v ∧ v ≤ 18446744073709551615) : (s.tell x v).Ok := by
  have hl := h.len
  have ha := h.at_
  unfold CS.tell
  split
  · split
    · exact ⟨by show s.th + 1 ≤ 16; omega, h.at_, hv, h.done, h.ph, h.L, by show s.L.length ≤ s.th + 1; omega⟩
    · exact ⟨h.th, (by decide : 1 ≤ 3), hv, h.done, h.ph, h.L, h.len⟩
  · exact ⟨h.th, (by decide : 2 ≤ 3), h.ver, hx, h.ph, h.L, h.len⟩
  · exact ⟨h.th, (by decide : 3 ≤ 3), h.ver, h.done, hx, h.L, h.len⟩
  · refine ⟨(by omega : s.th + 1 ≤ 16), (by decide : 0 ≤ 3), h.ver, h.done, h.ph, ?_, ?_⟩
    · intro y hy
      try simp only at hy
      split at hy
      · rcases List.mem_append.1 hy with hy | hy
        · exact h.L y hy
        · rw [List.mem_singleton.1 hy]; exact ⟨⟨(by omega : (0:Int) ≤ (s.th : Int)), (by omega : (s.th : Int) ≤ 16)⟩, h.ph⟩
      · exact h.L y hy
    · show (if v = s.ver ∧ s.done = 0 then s.L ++ [((s.th : Int), s.ph)] else s.L).length ≤ s.th + 1
      split
      · simp; omega
      · omega
/-- the cell of its next access -/
def CS.cell (s : CS) (A T : Nat) : Int := match s.at_ with
  | 1 => atI A T 3 s.th
  | 2 => atI A T 4 s.th
  | _ => atI A T 2 s.th
abbrev candG (x : Int × Int) (j : Nat) : Value := if j = 0 then .int .i64 x.1 else .int .u64 x.2
abbrev taskA (o : Nat) (s : CS) (a : Option Addr) (c : Nat) : Array Value := #[.pointer (some ⟨o, 0, none⟩), .int .i64 s.th, .int .i64 s.at_, .int .u64 s.ver, .int .u64 s.done, .int .u64 s.ph, .slice a s.L.length c]
end Go.Proofs.Ytppclnnkleebkaa.MemP
