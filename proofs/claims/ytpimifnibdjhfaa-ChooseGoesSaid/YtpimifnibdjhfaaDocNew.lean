/-
  bowerref26.New: contract: the two numbers, and some rows.
-/
import Derived.Test.YtpimifnibdjhfaaMemPlain
import Derived.Test.YtpimifnibdjhfaaMemNew
import Derived.Test.YtpimifnibdjhfaaChooseP
import Derived.Test.YtpimifnibdjhfaaRefWalk
import Derived.Deep.RegionLaw
import Derived.Deep.MidRow
import Derived.StillTailTactics
namespace Go.Proofs.Ytpimifnibdjhfaa.MemP
open Go.RowKit RefP CellP
set_option linter.unusedVariables false
set_option linter.unusedSimpArgs false
theorem infoCellD : (Try.prog.info? 85).map (fun i => (i.zero, i.size, i.bytes)) = some (some (.agg #[.int .u64 0, .int .u64 0]), 2, 16) := by kernel_rfl
abbrev cellG (x : Int) (j : Nat) : Value := if j = 0 then .int .u64 x else .int .u64 0
abbrev blkG (_ : Unit) (j : Nat) : Value := zb.getD j (.int .i64 0)
abbrev opG (_ : Unit) (j : Nat) : Value := zo.getD j (.int .i64 0)
theorem addCell {w : World} (base : Nat) {a : Option Addr} {c : Nat} {l : List Int} (h : OwnR 2 cellG 0 w base 85 a c l) {b : Nat} (x : Int) (B : Blk w b #[.int .u64 x, .int .u64 0] 85) (hn : l.length + 1 ≤ 60000) (hbase : base ≤ w.heap.size) :
    ∃ g cap w', AddedR Try.prog 2 cellG 0 w base 32 85 a c l (.slice (some ⟨b, 0, none⟩) 1 1) 1 (l ++ [x]) g cap w' := by
  obtain ⟨i0, hi, hz0, hz1, hz2⟩ := info_parts' infoCellD
  have two : ∀ j, j < 2 → j = 0 ∨ j = 1 := by omega
  have hx : RecS 2 cellG 0 w (some ⟨b, 0, none⟩) [x] := rec_lit B x (fun j hj => by rcases two j hj with e | e <;> subst e <;> rfl)
  exact addRecs base _ _ i0 _ 16 Try.underlying32 hi hz0 hz1 hz2 (by simp [Value.cells]) (by omega) (fun _ j hj => by rcases two j hj with e | e <;> subst e <;> rfl) h hx (by simp) (by simp [maxLen]; omega) (by simp; omega) hbase
theorem addBlk {w : World} (base : Nat) {a : Option Addr} {c : Nat} {l : List Unit} (h : OwnR 17 blkG () w base 54 a c l) {b : Nat} (B : Blk w b zb.toArray 54) (hn : l.length + 1 ≤ 60000) (hbase : base ≤ w.heap.size) :
    ∃ g cap w', AddedR Try.prog 17 blkG () w base 33 54 a c l (.slice (some ⟨b, 0, none⟩) 1 1) 1 (l ++ [()]) g cap w' := by
  obtain ⟨i0, hi, hz0, hz1, hz2⟩ := info_parts' infoBlock
  have hx : RecS 17 blkG () w (some ⟨b, 0, none⟩) [()] := rec_lit B () (fun j hj => by rcases lt17 hj with e | e | e | e | e | e | e | e | e | e | e | e | e | e | e | e | e <;> subst e <;> rfl)
  exact addRecs base _ _ i0 _ 272 Try.underlying33 hi hz0 hz1 hz2 (by simp [Value.cells]) (by omega) (fun _ j hj => by rcases lt17 hj with e | e | e | e | e | e | e | e | e | e | e | e | e | e | e | e | e <;> subst e <;> rfl) h hx (by simp) (by simp [maxLen]; omega) (by simp; omega) hbase
theorem addOp {w : World} (base : Nat) {a : Option Addr} {c : Nat} {l : List Unit} (h : OwnR 5 opG () w base 56 a c l) {b : Nat} (B : Blk w b zo.toArray 56) (hn : l.length + 1 ≤ 60000) (hbase : base ≤ w.heap.size) :
    ∃ g cap w', AddedR Try.prog 5 opG () w base 34 56 a c l (.slice (some ⟨b, 0, none⟩) 1 1) 1 (l ++ [()]) g cap w' := by
  obtain ⟨i0, hi, hz0, hz1, hz2⟩ := info_parts' infoOp
  have five : ∀ j, j < 5 → j = 0 ∨ j = 1 ∨ j = 2 ∨ j = 3 ∨ j = 4 := by omega
  have hx : RecS 5 opG () w (some ⟨b, 0, none⟩) [()] := rec_lit B () (fun j hj => by rcases five j hj with e | e | e | e | e <;> subst e <;> rfl)
  exact addRecs base _ _ i0 _ 56 Try.underlying34 hi hz0 hz1 hz2 (by simp [Value.cells]) (by omega) (fun _ j hj => by rcases five j hj with e | e | e | e | e <;> subst e <;> rfl) h hx (by simp) (by simp [maxLen]; omega) (by simp; omega) hbase
/-- own blocks are other ones -/
def Ne2 (v u : Value) : Prop := ∀ q q', v.ownBlock = some q → u.ownBlock = some q' → q ≠ q'
theorem Ne2.kept {v u : Value} (h : Ne2 v u) : u.ownBlock = none ∨ u.ownBlock ≠ v.ownBlock := by
  cases hu : u.ownBlock with
  | none => exact .inl rfl
  | some q => exact .inr (fun e => h q q e.symm hu rfl)
theorem Ne2.symm {v u : Value} (h : Ne2 v u) : Ne2 u v := fun q q' a b e => h q' q b a e.symm
theorem Ne2.grow {v u : Value} {g n c m : Nat} (h : Ne2 v u) (hat : v.ownBlock = some g ∨ g = m) (hu : ∀ q, u.ownBlock = some q → q < m) : Ne2 (.slice (some ⟨g, 0, none⟩) n c) u := by
  intro q q' hq hq' e
  simp only [Value.ownBlock, Option.some.injEq] at hq
  subst hq
  rcases hat with k | k
  · exact h _ _ k hq' e
  · have := hu q' hq'; omega
abbrev dmemA (A T : Int) (a1 : Option Addr) (n1 c1 : Nat) (a2 : Option Addr) (n2 c2 : Nat) (a3 : Option Addr) (n3 c3 : Nat) : Array Value := #[.int .i64 A, .int .i64 T, .slice a1 n1 c1, .slice a2 n2 c2, .slice a3 n3 c3]
/-- while it is made -/
structure DN (w0 : World) (A T : Nat) (a1 : Option Addr) (c1 : Nat) (l1 : List Int) (a2 : Option Addr) (c2 : Nat) (l2 : List Unit) (a3 : Option Addr) (c3 : Nat) (l3 : List Unit) (wr : World) : Prop where
  b : Below w0.heap.size w0 wr
  z : Blk wr w0.heap.size (dmemA 0 0 none 0 0 none 0 0 none 0 0) 36
  m : Blk wr (w0.heap.size + 1) (dmemA A T a1 l1.length c1 a2 l2.length c2 a3 l3.length c3) 36
  o1 : OwnR 2 cellG 0 wr (w0.heap.size + 2) 85 a1 c1 l1
  o2 : OwnR 17 blkG () wr (w0.heap.size + 2) 54 a2 c2 l2
  o3 : OwnR 5 opG () wr (w0.heap.size + 2) 56 a3 c3 l3
  n12 : Ne2 (.slice a1 l1.length c1) (.slice a2 l2.length c2)
  n13 : Ne2 (.slice a1 l1.length c1) (.slice a3 l3.length c3)
  n23 : Ne2 (.slice a2 l2.length c2) (.slice a3 l3.length c3)
theorem DN.below {w0 : World} {A T : Nat} {a1 : Option Addr} {c1 : Nat} {l1 : List Int} {a2 : Option Addr} {c2 : Nat} {l2 : List Unit} {a3 : Option Addr} {c3 : Nat} {l3 : List Unit} {wr wx : World} (h : DN w0 A T a1 c1 l1 a2 c2 l2 a3 c3 l3 wr) (hb : Below wr.heap.size wr wx) : DN w0 A T a1 c1 l1 a2 c2 l2 a3 c3 l3 wx :=
  ⟨below_push2 h.b hb (Nat.le_refl _), h.z.below hb, h.m.below hb, OwnR.below h.o1 hb, OwnR.below h.o2 hb, OwnR.below h.o3 hb, h.n12, h.n13, h.n23⟩
theorem DN.add1 {w0 : World} {A T : Nat} {a1 : Option Addr} {c1 : Nat} {l1 : List Int} {a2 : Option Addr} {c2 : Nat} {l2 : List Unit} {a3 : Option Addr} {c3 : Nat} {l3 : List Unit} {wr : World} (h : DN w0 A T a1 c1 l1 a2 c2 l2 a3 c3 l3 wr) {x : Int} {v : Value} {g' cap : Nat} {w' : World}
    (K : AddedR Try.prog 2 cellG 0 wr (w0.heap.size + 2) 32 85 a1 c1 l1 v 1 (l1 ++ [x]) g' cap w') : DN w0 A T (some ⟨g', 0, none⟩) cap (l1 ++ [x]) a2 c2 l2 a3 c3 l3 (w'.setCell ⟨w0.heap.size + 1, 2, none⟩ (.slice (some ⟨g', 0, none⟩) (l1.length + 1) cap)) := by
  have hgr := K.grown
  have hlt := fun q e => (OwnR.lt h.o1 q e).1
  have hF : Fr [w0.heap.size + 1] w' (w'.setCell ⟨w0.heap.size + 1, 2, none⟩ (.slice (some ⟨g', 0, none⟩) (l1.length + 1) cap)) := (Fr.refl _ _).set _ _ (.inl (by simp))
  have hge := K.ge
  have hs := h.z.lt
  have hs2 := h.m.lt
  have B' := h.m.grown hgr (fun e => by have := hlt _ e.symm; omega)
  have Z' := h.z.grown hgr (fun e => by have := hlt _ e.symm; omega)
  have hown : OwnR 2 cellG 0 (w'.setCell ⟨w0.heap.size + 1, 2, none⟩ (.slice (some ⟨g', 0, none⟩) (l1.length + 1) cap)) (w0.heap.size + 2) 85 (some ⟨g', 0, none⟩) cap (l1 ++ [x]) := OwnR.heap K.own fun q hq => hF.block q (OwnR.lt K.own q hq).2 (by have := (OwnR.lt K.own q hq).1; simp; omega)
  have hb' : Below w0.heap.size w0 w' := K.keeps hlt w0 _ (by omega) h.b (by omega)
  have hat := K.at'
  have k2 := OwnR.kept h.o2 hgr h.n12.kept
  have k3 := OwnR.kept h.o3 hgr h.n13.kept
  have m2 := OwnR.heap k2 fun q hq => hF.block q (OwnR.lt k2 q hq).2 (by have := (OwnR.lt k2 q hq).1; simp; omega)
  have m3 := OwnR.heap k3 fun q hq => hF.block q (OwnR.lt k3 q hq).2 (by have := (OwnR.lt k3 q hq).1; simp; omega)
  refine ⟨hb'.setCell (by show w0.heap.size ≤ w0.heap.size + 1; omega) _, hF.blk Z' (by simp), ?_, hown, m2, m3, h.n12.grow hat (fun q e => (OwnR.lt h.o2 q e).2), h.n13.grow hat (fun q e => (OwnR.lt h.o3 q e).2), h.n23⟩
  have := B'.set 2 (.slice (some ⟨g', 0, none⟩) (l1.length + 1) cap)
  simpa [dmemA] using this
theorem DN.add2 {w0 : World} {A T : Nat} {a1 : Option Addr} {c1 : Nat} {l1 : List Int} {a2 : Option Addr} {c2 : Nat} {l2 : List Unit} {a3 : Option Addr} {c3 : Nat} {l3 : List Unit} {wr : World} (h : DN w0 A T a1 c1 l1 a2 c2 l2 a3 c3 l3 wr) {x : Unit} {v : Value} {g' cap : Nat} {w' : World}
    (K : AddedR Try.prog 17 blkG () wr (w0.heap.size + 2) 33 54 a2 c2 l2 v 1 (l2 ++ [x]) g' cap w') : DN w0 A T a1 c1 l1 (some ⟨g', 0, none⟩) cap (l2 ++ [x]) a3 c3 l3 (w'.setCell ⟨w0.heap.size + 1, 3, none⟩ (.slice (some ⟨g', 0, none⟩) (l2.length + 1) cap)) := by
  have hgr := K.grown
  have hlt := fun q e => (OwnR.lt h.o2 q e).1
  have hF : Fr [w0.heap.size + 1] w' (w'.setCell ⟨w0.heap.size + 1, 3, none⟩ (.slice (some ⟨g', 0, none⟩) (l2.length + 1) cap)) := (Fr.refl _ _).set _ _ (.inl (by simp))
  have hge := K.ge
  have hs := h.z.lt
  have hs2 := h.m.lt
  have B' := h.m.grown hgr (fun e => by have := hlt _ e.symm; omega)
  have Z' := h.z.grown hgr (fun e => by have := hlt _ e.symm; omega)
  have hown : OwnR 17 blkG () (w'.setCell ⟨w0.heap.size + 1, 3, none⟩ (.slice (some ⟨g', 0, none⟩) (l2.length + 1) cap)) (w0.heap.size + 2) 54 (some ⟨g', 0, none⟩) cap (l2 ++ [x]) := OwnR.heap K.own fun q hq => hF.block q (OwnR.lt K.own q hq).2 (by have := (OwnR.lt K.own q hq).1; simp; omega)
  have hb' : Below w0.heap.size w0 w' := K.keeps hlt w0 _ (by omega) h.b (by omega)
  have hat := K.at'
  have k1 := OwnR.kept h.o1 hgr h.n12.symm.kept
  have k3 := OwnR.kept h.o3 hgr h.n23.kept
  have m1 := OwnR.heap k1 fun q hq => hF.block q (OwnR.lt k1 q hq).2 (by have := (OwnR.lt k1 q hq).1; simp; omega)
  have m3 := OwnR.heap k3 fun q hq => hF.block q (OwnR.lt k3 q hq).2 (by have := (OwnR.lt k3 q hq).1; simp; omega)
  refine ⟨hb'.setCell (by show w0.heap.size ≤ w0.heap.size + 1; omega) _, hF.blk Z' (by simp), ?_, m1, hown, m3, (h.n12.symm.grow hat (fun q e => (OwnR.lt h.o1 q e).2)).symm, h.n13, h.n23.grow hat (fun q e => (OwnR.lt h.o3 q e).2)⟩
  have := B'.set 3 (.slice (some ⟨g', 0, none⟩) (l2.length + 1) cap)
  simpa [dmemA] using this
theorem DN.add3 {w0 : World} {A T : Nat} {a1 : Option Addr} {c1 : Nat} {l1 : List Int} {a2 : Option Addr} {c2 : Nat} {l2 : List Unit} {a3 : Option Addr} {c3 : Nat} {l3 : List Unit} {wr : World} (h : DN w0 A T a1 c1 l1 a2 c2 l2 a3 c3 l3 wr) {x : Unit} {v : Value} {g' cap : Nat} {w' : World}
    (K : AddedR Try.prog 5 opG () wr (w0.heap.size + 2) 34 56 a3 c3 l3 v 1 (l3 ++ [x]) g' cap w') : DN w0 A T a1 c1 l1 a2 c2 l2 (some ⟨g', 0, none⟩) cap (l3 ++ [x]) (w'.setCell ⟨w0.heap.size + 1, 4, none⟩ (.slice (some ⟨g', 0, none⟩) (l3.length + 1) cap)) := by
  have hgr := K.grown
  have hlt := fun q e => (OwnR.lt h.o3 q e).1
  have hF : Fr [w0.heap.size + 1] w' (w'.setCell ⟨w0.heap.size + 1, 4, none⟩ (.slice (some ⟨g', 0, none⟩) (l3.length + 1) cap)) := (Fr.refl _ _).set _ _ (.inl (by simp))
  have hge := K.ge
  have hs := h.z.lt
  have hs2 := h.m.lt
  have B' := h.m.grown hgr (fun e => by have := hlt _ e.symm; omega)
  have Z' := h.z.grown hgr (fun e => by have := hlt _ e.symm; omega)
  have hown : OwnR 5 opG () (w'.setCell ⟨w0.heap.size + 1, 4, none⟩ (.slice (some ⟨g', 0, none⟩) (l3.length + 1) cap)) (w0.heap.size + 2) 56 (some ⟨g', 0, none⟩) cap (l3 ++ [x]) := OwnR.heap K.own fun q hq => hF.block q (OwnR.lt K.own q hq).2 (by have := (OwnR.lt K.own q hq).1; simp; omega)
  have hb' : Below w0.heap.size w0 w' := K.keeps hlt w0 _ (by omega) h.b (by omega)
  have hat := K.at'
  have k1 := OwnR.kept h.o1 hgr h.n13.symm.kept
  have k2 := OwnR.kept h.o2 hgr h.n23.symm.kept
  have m1 := OwnR.heap k1 fun q hq => hF.block q (OwnR.lt k1 q hq).2 (by have := (OwnR.lt k1 q hq).1; simp; omega)
  have m2 := OwnR.heap k2 fun q hq => hF.block q (OwnR.lt k2 q hq).2 (by have := (OwnR.lt k2 q hq).1; simp; omega)
  refine ⟨hb'.setCell (by show w0.heap.size ≤ w0.heap.size + 1; omega) _, hF.blk Z' (by simp), ?_, m1, m2, hown, h.n12, (h.n13.symm.grow hat (fun q e => (OwnR.lt h.o1 q e).2)).symm, (h.n23.symm.grow hat (fun q e => (OwnR.lt h.o2 q e).2)).symm⟩
  have := B'.set 4 (.slice (some ⟨g', 0, none⟩) (l3.length + 1) cap)
  simpa [dmemA] using this
end Go.Proofs.Ytpimifnibdjhfaa.MemP
