/-
  What retiring takes from elsewhere: a memory below a base, rows of accesses.
-/
import Derived.Test.YtchkiacmiljopaaMemDoW
import Derived.Test.YtchkiacmiljopaaRefOpen
import Derived.Test.YtchkiacmiljopaaHazList
import Derived.Deep.RegionHeld
import Derived.Deep.WholeRow
import Derived.Deep.RegionLaw
import Derived.StillTailTactics
namespace Go.Proofs.Ytchkiacmiljopaa.MemP
open Go.RowKit RefP CellP
set_option linter.unusedVariables false
set_option linter.unusedSimpArgs false
theorem OwnR.heap {α : Type} {k : Nat} {f : α → Nat → Value} {d : α} {w w' : World} {base : Nat} {e : TypeId} {a : Option Addr} {c : Nat} {l : List α} (h : OwnR k f d w base e a c l) (hk : ∀ g, (Value.slice a l.length c).ownBlock = some g → w'.heap[g]? = w.heap[g]?) : OwnR k f d w' base e a c l := by
  refine ⟨⟨h.own.1, ?_⟩⟩
  rcases h.own.2 with q | ⟨g, cap, cur, e', hg, hh, r⟩
  · exact .inl q
  · refine .inr ⟨g, cap, cur, e', hg, ?_, r⟩
    rw [hk g (by rw [e']; rfl)]; exact hh
theorem OwnR.fr {α : Type} {k : Nat} {f : α → Nat → Value} {d : α} {w w' : World} {S : List Nat} {base : Nat} {e : TypeId} {a : Option Addr} {c : Nat} {l : List α} (h : OwnR k f d w base e a c l) (F : Fr S w w') (hS : ∀ g ∈ S, g < base) : OwnR k f d w' base e a c l :=
  OwnR.heap h fun g hg => F.block g (OwnR.lt h g hg).2 (fun hm => by have := hS g hm; have := (OwnR.lt h g hg).1; omega)
/-- a memory that lies below a base -/
structure MemB (w : World) (base o oc g gb gr A T : Nat) (L : List (Int × Int)) (bs rs : List (List Value)) : Prop where
  m : MemAt w o oc g gb gr A T L bs rs
  lo : o < base ∧ oc < base ∧ g < base ∧ gb < base ∧ gr < base
theorem MemB.below {w w' : World} {base o oc g gb gr A T : Nat} {L : List (Int × Int)} {bs rs : List (List Value)} (h : MemB w base o oc g gb gr A T L bs rs) (hb : Below base w w') (hs : base ≤ w.heap.size) : MemB w' base o oc g gb gr A T L bs rs := by
  have F : ∀ b, b < base → w'.heap[b]? = w.heap[b]? := hb.block
  have n := h.lo
  refine ⟨⟨⟨(F _ n.1).trans h.m.head.h⟩, ⟨⟨(F _ n.2.1).trans h.m.cells.head.h⟩, ⟨(F _ n.2.2.1).trans h.m.cells.rows.h⟩, h.m.cells.ne, h.m.cells.rng, h.m.cells.len⟩, ⟨(F _ n.2.2.2.1).trans h.m.blocks.h⟩, ⟨(F _ n.2.2.2.2).trans h.m.records.h⟩, h.m.len, h.m.lb, h.m.lr, h.m.a1, h.m.t1, h.m.ne⟩, n⟩
theorem MemB.under {w w' : World} {base o oc g gb gr A T : Nat} {L : List (Int × Int)} {bs rs : List (List Value)} (h : MemB w base o oc g gb gr A T L bs rs) (hb : Below w.heap.size w w') : MemB w' base o oc g gb gr A T L bs rs := ⟨h.m.below hb, h.lo⟩
abbrev accY (k i ver word : Int) : Array Value := #[.int .i64 k, .int .i64 i, .int .u64 ver, .int .u64 word, .int .i64 0, .int .i64 0, .string ⟨#[]⟩, .string ⟨#[]⟩, .bool false, .int .i64 0, .slice none 0 0, .slice none 0 0, .slice none 0 0, .int .i64 0, .int .i64 0, .string ⟨#[]⟩, .int .u64 0, .slice none 0 0, .slice none 0 0, .slice none 0 0, .slice none 0 0, .int .i64 0, .string ⟨#[]⟩, .string ⟨#[]⟩, .int .u64 0, .int .i64 0]
theorem OwnsU.heap {w w' : World} {base : Nat} {a : Option Addr} {c : Nat} {l : List Int} (h : OwnsU w base a c l) (hk : ∀ g, (Value.slice a l.length c).ownBlock = some g → w'.heap[g]? = w.heap[g]?) : OwnsU w' base a c l := by
  refine ⟨⟨h.own.1, ?_⟩, h.rng⟩
  rcases h.own.2 with q | ⟨g, cap, cur, e', hg, hh, r⟩
  · exact .inl q
  · refine .inr ⟨g, cap, cur, e', hg, ?_, r⟩
    rw [hk g (by rw [e']; rfl)]; exact hh
theorem infoAcc : (Try.prog.info? 50).map (fun i => (i.zero, i.size, i.bytes)) = some (some (.agg (accY 0 0 0 0)), 26, 360) := by kernel_rfl
abbrev Acc4 := Int × Int × Int × Int
abbrev accL (x : Acc4) : Array Value := accY x.1 x.2.1 x.2.2.1 x.2.2.2
abbrev accF (x : Acc4) (j : Nat) : Value := (accL x)[j]?.getD (.int .i64 0)
theorem lt26 {j : Nat} (h : j < 26) : j = 0 ∨ j = 1 ∨ j = 2 ∨ j = 3 ∨ j = 4 ∨ j = 5 ∨ j = 6 ∨ j = 7 ∨ j = 8 ∨ j = 9 ∨ j = 10 ∨ j = 11 ∨ j = 12 ∨ j = 13 ∨ j = 14 ∨ j = 15 ∨ j = 16 ∨ j = 17 ∨ j = 18 ∨ j = 19 ∨ j = 20 ∨ j = 21 ∨ j = 22 ∨ j = 23 ∨ j = 24 ∨ j = 25 := by omega
theorem accF_at (x : Acc4) (j : Nat) (h : j < 26) : (accL x)[j]? = some (accF x j) := by
  rcases lt26 h with e | e | e | e | e | e | e | e | e | e | e | e | e | e | e | e | e | e | e | e | e | e | e | e | e | e <;> subst e <;> rfl
theorem accF_one (x : Acc4) (j : Nat) (h : j < 26) : (accF x j).oneCell' = true := by
  rcases lt26 h with e | e | e | e | e | e | e | e | e | e | e | e | e | e | e | e | e | e | e | e | e | e | e | e | e | e <;> subst e <;> rfl
abbrev OwnAcc (w : World) (base : Nat) (a : Option Addr) (c : Nat) (l : List Acc4) : Prop := OwnR 26 accF (0, 0, 0, 0) w base 50 a c l
theorem addAcc {w : World} (base : Nat) {a : Option Addr} {c : Nat} {l : List Acc4} (h : OwnAcc w base a c l) {b : Nat} (x : Acc4) (B : Blk w b (accL x) 50) (hn : l.length + 1 ≤ 60000) (hbase : base ≤ w.heap.size) :
    ∃ g cap w', AddedR Try.prog 26 accF (0, 0, 0, 0) w base 68 50 a c l (.slice (some ⟨b, 0, none⟩) 1 1) 1 (l ++ [x]) g cap w' := by
  obtain ⟨i0, hi, hz0, hz1, hz2⟩ := info_parts' infoAcc
  have hx : RecS 26 accF (0, 0, 0, 0) w (some ⟨b, 0, none⟩) [x] := rec_lit B x (fun j hj => accF_at x j hj)
  exact addRecs base _ _ i0 _ 360 Try.underlying68 hi hz0 hz1 hz2 (by simp [Value.cells]) (by omega) (fun x j hj => accF_one x j hj) h hx (by simp) (by simp [maxLen]; omega) (by simp; omega) hbase
theorem results_cell_tmp {P : Program} {fn : Func} {p q : Tmp} {ty : TypeId} (h : fn.results = #[.cell p ty, .tmp q]) (tmps : Array Value) (w : World) (g : Nat) (t : TypeId) (cs : Array Value) (fr : Nat × Nat) (d : TypeDesc)
    (v : Value) (hv : tmps.getD q undef = v) (hp : tmps.getD p undef = .pointer (some ⟨g, 0, none⟩)) (hg : w.heap[g]? = some (.cells cs t fr))
    (hu : P.underlying ty = some d) (hd : (match d with | .struct _ | .array _ _ => true | _ => false) = true) (hi : (P.info? ty).map (·.size) = some cs.size) :
    (results fn tmps).run P w = .ok (.tuple #[.agg cs, v]) w := by
  subst hv
  have hp' : tmps[p]?.getD undef = .pointer (some ⟨g, 0, none⟩) := by simpa using hp
  simp [results, h, hp', asAddr, run_loadVar_row w g t ty cs fr d hg hu hd hi]
end Go.Proofs.Ytchkiacmiljopaa.MemP
