/-
  Frames, blocks and results, for views and edits. No program in sight.
-/
import Derived.Test.YtbemgfpnoeogdaaDeep
import Derived.Test.YtbemgfpnoeogdaaOwns
import Derived.Test.YtbemgfpnoeogdaaRecs
import Derived.Deep.MidRow
import Derived.Deep.WholeRow
import Derived.Laws.CopyOwn
import Derived.Deep.RegionLaw
import Derived.StillTailTactics
namespace Go.Proofs.Ytbemgfpnoeogdaa.FoP
open Go.RowKit RefP
set_option linter.unusedVariables false
set_option linter.unusedSimpArgs false
/-- all is as it was, but for some blocks -/
structure Fr (S : List Nat) (w w' : World) : Prop where
  os : w'.os = w.os
  tape : w'.tape = w.tape
  output : w'.output = w.output
  size : w.heap.size ≤ w'.heap.size
  block : ∀ b, b < w.heap.size → b ∉ S → w'.heap[b]? = w.heap[b]?
theorem Fr.refl (S : List Nat) (w : World) : Fr S w w := ⟨rfl, rfl, rfl, Nat.le_refl _, fun _ _ _ => rfl⟩
theorem Fr.trans {S : List Nat} {a b c : World} (h : Fr S a b) (k : Fr S b c) : Fr S a c :=
  ⟨k.os.trans h.os, k.tape.trans h.tape, k.output.trans h.output, Nat.le_trans h.size k.size, fun i hi hn => (k.block i (Nat.lt_of_lt_of_le hi h.size) hn).trans (h.block i hi hn)⟩
theorem Fr.of_below {S : List Nat} {w w' : World} (h : Below w.heap.size w w') : Fr S w w' := ⟨h.os, h.tape, h.output, h.size, fun b hb _ => h.block b hb⟩
theorem Fr.of_grown {S : List Nat} {w w' : World} {row : Option Nat} (h : w.grownBy w' row) (hr : ∀ g, row = some g → g ∈ S) : Fr S w w' :=
  ⟨h.os, h.tape, h.output, h.size, fun b hb hn => h.block b hb (fun e => hn (hr b e.symm))⟩
theorem Fr.set {S : List Nat} {a w : World} (h : Fr S a w) (p : Addr) (v : Value) (hp : p.block ∈ S ∨ a.heap.size ≤ p.block) : Fr S a (w.setCell p v) :=
  ⟨h.os, h.tape, h.output, by simpa using h.size, fun b hb hn => (Below.heap_setCell w p v b (fun e => by
    rcases hp with q | q
    · exact hn (e ▸ q)
    · omega)).trans (h.block b hb hn)⟩
theorem Fr.more {S S' : List Nat} {w w' : World} (h : Fr S w w') (k : ∀ b ∈ S, b ∈ S') : Fr S' w w' := ⟨h.os, h.tape, h.output, h.size, fun b hb hn => h.block b hb (fun e => hn (k b e))⟩
theorem Fr.keeps {S : List Nat} {w w' : World} (h : Fr S w w') : Dp.Keeps S w w' := ⟨h.size, h.block⟩
theorem Fr.below {S : List Nat} {B : Nat} {a w w' : World} (h : Fr S w w') (hb : Below B a w) (hB : B ≤ a.heap.size) (hS : ∀ b ∈ S, B ≤ b) : Below B a w' :=
  ⟨h.os.trans hb.os, h.tape.trans hb.tape, h.output.trans hb.output, Nat.le_trans hb.size h.size, fun b hlt => (h.block b (Nat.lt_of_lt_of_le hlt (Nat.le_trans hB hb.size)) (fun e => by have := hS b e; omega)).trans (hb.block b hlt)⟩
theorem Fr.blk {S : List Nat} {w w' : World} (h : Fr S w w') {b : Nat} {cs : Array Value} {T : TypeId} (k : Blk w b cs T) (hn : b ∉ S) : Blk w' b cs T := ⟨(h.block b k.lt hn).trans k.h⟩
theorem Blk.row {w : World} {b : Nat} {cs : Array Value} {T : TypeId} (k : Blk w b cs T) (cs' : Array Value) : Blk (w.setRow b cs') b cs' T := by
  have hlt := k.lt
  have h' : w.heap[b] = .cells cs T (0, 0) := by simpa [Array.getElem?_eq_getElem hlt] using k.h
  refine ⟨?_⟩
  show (w.heap.modify b _)[b]? = _
  rw [Array.getElem?_eq_getElem (by simpa using hlt), Array.getElem_modify_self, h']
theorem Fr.row {S : List Nat} {w : World} (b : Nat) (cs' : Array Value) (hb : b ∈ S) : Fr S w (w.setRow b cs') := by
  have h := below_setRow (Below.refl b w) (Nat.le_refl _) cs'
  refine ⟨h.os, h.tape, h.output, h.size, fun k hk hn => ?_⟩
  have hne : k ≠ b := fun e => hn (e ▸ hb)
  show (w.heap.modify b _)[k]? = _
  rw [Array.getElem?_modify, if_neg (fun e => hne e.symm)]
theorem setCell_self {w : World} {b i : Nat} {cs : Array Value} {T : TypeId} (h : Blk w b cs T) {v : Value} (hv : cs[i]? = some v) : w.setCell ⟨b, i, none⟩ v = w := by
  have e : cs.setIfInBounds i v = cs := by
    apply Array.ext_getElem?
    intro k
    rw [Array.getElem?_setIfInBounds]
    split
    · rename_i hk
      subst hk
      split
      · exact hv.symm
      · rename_i hn
        rw [Array.getElem?_eq_none (by omega)] at hv; cases hv
    · rfl
  have e2 : ∀ f : Obj → Obj, f (.cells cs T (0, 0)) = .cells cs T (0, 0) → w.heap.modify b f = w.heap := by
    intro f hf
    apply Array.ext_getElem?
    intro k
    rw [Array.getElem?_modify]
    split
    · rename_i hk
      subst hk
      rw [h.h]; simp [hf]
    · rfl
  unfold World.setCell
  rw [e2 _ (by simp [e])]
theorem results_cell_tmp {P : Program} {fn : Func} {p q : Tmp} {ty : TypeId} (h : fn.results = #[.cell p ty, .tmp q]) (tmps : Array Value) (w : World) (g : Nat) (t : TypeId) (cs : Array Value) (fr : Nat × Nat) (d : TypeDesc)
    (v : Value) (hv : tmps.getD q undef = v) (hp : tmps.getD p undef = .pointer (some ⟨g, 0, none⟩)) (hg : w.heap[g]? = some (.cells cs t fr))
    (hu : P.underlying ty = some d) (hd : (match d with | .struct _ | .array _ _ => true | _ => false) = true) (hi : (P.info? ty).map (·.size) = some cs.size) :
    (results fn tmps).run P w = .ok (.tuple #[.agg cs, v]) w := by
  subst hv
  have hp' : tmps[p]?.getD undef = .pointer (some ⟨g, 0, none⟩) := by simpa using hp
  simp [results, h, hp', asAddr, run_loadVar_row w g t ty cs fr d hg hu hd hi]
theorem OwnR.heap {α : Type} {k : Nat} {f : α → Nat → Value} {d : α} {w w' : World} {base : Nat} {e : TypeId} {a : Option Addr} {c : Nat} {l : List α} (h : OwnR k f d w base e a c l) (hk : ∀ g, (Value.slice a l.length c).ownBlock = some g → w'.heap[g]? = w.heap[g]?) : OwnR k f d w' base e a c l := by
  refine ⟨⟨h.own.1, ?_⟩⟩
  rcases h.own.2 with q | ⟨g, cap, cur, e', hg, hh, r⟩
  · exact .inl q
  · refine .inr ⟨g, cap, cur, e', hg, ?_, r⟩
    rw [hk g (by rw [e']; rfl)]; exact hh
end Go.Proofs.Ytbemgfpnoeogdaa.FoP
