/-
  ForestPlays: the state behind a call of the view, and behind the store of the document's view.
-/
import Derived.Test.YtbemgfpnoeogdaaFPlayA
namespace Go.Proofs.Ytbemgfpnoeogdaa.FoP
open Go.RowKit RefP Go.Maps Dp
set_option linter.unusedVariables false
set_option linter.unusedSimpArgs false
/-- behind a call of the view -/
structure PA (w0 w' : World) (o m B : Nat) (L : List Kn) (a : Option Addr) (S : List Sp) (k0 n0 : Int) (kh sh : Hd) : Prop where
  b : Below w0.heap.size w0 w'
  blk : Blk w' B (rvA kh sh L.length S.length k0 n0) 58
  kn : HRow (rawC 11) w' (avo o m B a) kh (knL L)
  sp : HRow spC w' (avo o m B a) sh S
theorem PS.after {w0 wr w' : World} {o m B : Nat} {L : List Kn} {a : Option Addr} {c : Nat} {S : List Sp} {k0 n0 : Int} {kh sh : Hd} (P : PS w0 wr o m B L a c S k0 n0 kh sh) {T : List Nat} (F : Fr T wr w') (hT : ∀ b ∈ T, b ∈ o :: m :: ob a) : PA w0 w' o m B L a S k0 n0 kh sh := by
  have hge : ∀ b ∈ T, w0.heap.size ≤ b := fun b hb => by
    have := hT b hb
    simp only [List.mem_cons] at this
    rcases this with e | e | e
    · rw [e]; exact P.V.lo.1
    · rw [e]; exact P.V.lo.2.1
    · exact (OwnR.lt P.V.spares b (own_ob e)).1
  have hB : B ∉ T := fun h => by
    have := hT B h
    simp only [List.mem_cons] at this
    rcases this with e | e | e
    · exact P.ge.2.1 e
    · exact P.ge.2.2.1 e
    · exact P.ge.2.2.2 e
  have K : Keeps (avo o m B a) wr w' := F.keeps.more (fun b hb => by
    have := hT b hb
    simp only [List.mem_cons] at this ⊢
    rcases this with e | e | e
    · exact .inl e
    · exact .inr (.inl e)
    · exact .inr (.inr (.inr e)))
  exact ⟨F.below P.b (Nat.le_refl _) hge, F.blk P.blk hB, P.kn.keep K, P.sp.keep K⟩
theorem PA.under {w0 wr w' : World} {o m B : Nat} {L : List Kn} {a : Option Addr} {S : List Sp} {k0 n0 : Int} {kh sh : Hd} (P : PA w0 wr o m B L a S k0 n0 kh sh) (hb : Below wr.heap.size wr w') : PA w0 w' o m B L a S k0 n0 kh sh :=
  ⟨below_push2 P.b hb (Nat.le_refl _), P.blk.below hb, P.kn.keep (Keeps.of_below hb), P.sp.keep (Keeps.of_below hb)⟩
/-- behind the store -/
theorem PS.store {w0 w' : World} {o m B : Nat} {L : List Kn} {a : Option Addr} {c : Nat} {S : List Sp} {k0 n0 : Int} {kh sh : Hd} {old : Array Value} (b : Below w0.heap.size w0 w') (V : VwAt w' w0.heap.size o m L a c S k0 n0) (blk : Blk w' B old 58) (kn : HRow (rawC 11) w' (avo o m B a) kh (knL L)) (sp : HRow spC w' (avo o m B a) sh S)
    (node : ∀ p ∈ L, ∃ q y, p.2 = knA q y ∧ y.1 = p.1 ∧ KnOk w0 [] q y ∧ cellB p.1 = true) (ll : L.length ≤ 100) (sl : S.length ≤ 100) (ge : w0.heap.size ≤ B ∧ B ≠ o ∧ B ≠ m ∧ B ∉ ob a) :
    PS w0 (w'.setRow B (rvA kh sh L.length S.length k0 n0)) o m B L a c S k0 n0 kh sh := by
  have F : Fr [B] w' (w'.setRow B (rvA kh sh L.length S.length k0 n0)) := Fr.row (S := [B]) B _ (by simp)
  have K : Keeps (avo o m B a) w' (w'.setRow B (rvA kh sh L.length S.length k0 n0)) := F.keeps.more (by simp)
  refine ⟨below_setRow b ge.1 _, V.fr F (by simp; exact fun e => ge.2.1 e.symm) (by simp; exact fun e => ge.2.2.1 e.symm) (fun g hg => ?_), Blk.row blk _, kn.keep K, sp.keep K, node, ll, sl, ge⟩
  simp
  exact fun e => ge.2.2.2 (by rw [← e]; exact ob_own hg)
theorem PA.rv {w0 wr w' : World} {o m B : Nat} {L : List Kn} {a : Option Addr} {S : List Sp} {k0 n0 : Int} {kh sh : Hd} (A : PA w0 w' o m B L a S k0 n0 kh sh) (R : RV wr kh sh L S) : RV w' kh sh L S := ⟨A.kn.more (by simp), A.sp.more (by simp), R.hd, R.ok, R.ll, R.sl⟩
theorem found_has {L : List Kn} {n r : Int} (h : FoundAt L n r) : (knAt L n).isSome = decide (0 ≤ r) := by
  rcases h with ⟨rfl, h⟩ | ⟨i, hi, rfl, _, h⟩
  · rw [h]; rfl
  · rw [h]; simp
/-- behind 'w.Need = ..' -/
theorem PS.need {w0 w' : World} {o m B : Nat} {L : List Kn} {a : Option Addr} {c : Nat} {S : List Sp} {k0 n0 : Int} {kh sh : Hd} (A : PA w0 w' o m B L a S k0 n0 kh sh) (k n : Int) (V : VwAt w' w0.heap.size o m L a c S k n)
    (node : ∀ p ∈ L, ∃ q y, p.2 = knA q y ∧ y.1 = p.1 ∧ KnOk w0 [] q y ∧ cellB p.1 = true) (ll : L.length ≤ 100) (sl : S.length ≤ 100) (ge : w0.heap.size ≤ B ∧ B ≠ o ∧ B ≠ m ∧ B ∉ ob a) :
    PS w0 ((w'.setCell ⟨B, 2, none⟩ (.int .i64 k)).setCell ⟨B, 3, none⟩ (.int .i64 n)) o m B L a c S k n kh sh := by
  have F : Fr [B] w' ((w'.setCell ⟨B, 2, none⟩ (.int .i64 k)).setCell ⟨B, 3, none⟩ (.int .i64 n)) := ((Fr.refl [B] w').set ⟨B, 2, none⟩ (.int .i64 k) (.inl (by simp))).set ⟨B, 3, none⟩ (.int .i64 n) (.inl (by simp))
  have K : Keeps (avo o m B a) w' ((w'.setCell ⟨B, 2, none⟩ (.int .i64 k)).setCell ⟨B, 3, none⟩ (.int .i64 n)) := F.keeps.more (by simp)
  have Bl := (A.blk.set 2 (.int .i64 k)).set 3 (.int .i64 n)
  refine ⟨(A.b.setCell ge.1 _).setCell ge.1 _, V.fr F (by simp; exact fun e => ge.2.1 e.symm) (by simp; exact fun e => ge.2.2.1 e.symm) (fun g hg => ?_), by simpa using Bl, A.kn.keep K, A.sp.keep K, node, ll, sl, ge⟩
  simp
  exact fun e => ge.2.2.2 (by rw [← e]; exact ob_own hg)
/-- the view's spares lie elsewhere now: what avoids them -/
theorem avo_more {w : World} {o m B : Nat} {a a' : Option Addr} (h : ∀ g ∈ ob a', g ∈ ob a ∨ w.heap.size ≤ g) : ∀ b ∈ avo o m B a', b ∈ avo o m B a ∨ w.heap.size ≤ b := fun b hb => by
  simp only [List.mem_cons] at hb ⊢
  rcases hb with e | e | e | e
  · exact .inl (.inl e)
  · exact .inl (.inr (.inl e))
  · exact .inl (.inr (.inr (.inl e)))
  · rcases h b e with k | k
    · exact .inl (.inr (.inr (.inr k)))
    · exact .inr k
theorem PS.old {w0 wr : World} {o m B : Nat} {L : List Kn} {a : Option Addr} {c : Nat} {S : List Sp} {k0 n0 : Int} {kh sh : Hd} (P : PS w0 wr o m B L a c S k0 n0 kh sh) : ∀ b ∈ avo o m B a, b < wr.heap.size := fun b hb => by
  obtain ⟨h1, h2, h3⟩ := P.V.lts
  simp only [List.mem_cons] at hb
  rcases hb with e | e | e | e
  · omega
  · omega
  · rw [e]; exact P.blk.lt
  · exact h3 b (own_ob e)
/-- a row that a callee made, read as one that avoids what is elder -/
theorem own_avo {α : Type} {C : Cod α} {w w' : World} {e : TypeId} {a' : Option Addr} {c' : Nat} {xs : List α} {T : List Nat} (h : OwnV C w' [] w' w.heap.size e a' c' xs) (hk : 0 < C.k) (hrep : ∀ cs x, C.rep w' [] cs x → C.rep w' T cs x) (hT : ∀ b ∈ T, b < w.heap.size) : HRow C w' T ⟨a', c'⟩ xs :=
  OwnV.hrow (h.rep hrep) hk (fun g hg hm => by have := (h.lt g hg).1; have := hT g hm; omega)
end Go.Proofs.Ytbemgfpnoeogdaa.FoP
