/-
  The document's Fill: what lies in memory.
-/
import Derived.Test.YtnecikholpiefaaPlanK
import Derived.Test.YtnecikholpiefaaQuietRow
namespace Go.Proofs.Ytnecikholpiefaa.Dp
open Go.RowKit RefP FoP
set_option linter.unusedVariables false
set_option linter.unusedSimpArgs false
theorem blockT_k : blockT.k = 17 := rfl
theorem infoBlockG : (Try.prog.info? 48).map (fun i => (i.zero, i.size, i.bytes)) = some (some (.agg (#[.int .i64 0, .int .i64 0, .string ⟨#[]⟩, .string ⟨#[]⟩, .bool false, .int .i64 0, .slice none 0 0, .slice none 0 0, .slice none 0 0, .int .i64 0, .int .i64 0, .string ⟨#[]⟩, .int .u64 0, .slice none 0 0, .slice none 0 0, .slice none 0 0, .slice none 0 0])), 17, 272) := by kernel_rfl
theorem tinBlock : TIn Try.prog 38 48 blockT.k 272 := tin_mk Try.underlying38 infoBlockG (by simp [Value.cells, blockT_k])
theorem tinPair : TIn Try.prog 23 78 pairT.k 24 := tin_mk Try.underlying23 infoPairG (by simp [Value.cells]; rfl)
abbrev blkN (q : NodeH) (x : NodeV) : Array Value := #[.int .i64 1, .int .i64 x.level, .string x.low, .string x.high, .bool x.last, .int .i64 x.next, .slice q.keys.a x.keys.length q.keys.c, .slice q.vals.a x.vals.length q.vals.c, .slice q.kids.a x.kids.length q.kids.c, .int .i64 0, .int .i64 0, .string ⟨#[]⟩, .int .u64 0, .slice none 0 0, .slice none 0 0, .slice none 0 0, .slice none 0 0]
abbrev blkP (a : Option Addr) (n c : Nat) : Array Value := #[.int .i64 3, .int .i64 0, .string ⟨#[]⟩, .string ⟨#[]⟩, .bool false, .int .i64 0, .slice none 0 0, .slice none 0 0, .slice none 0 0, .int .i64 0, .int .i64 0, .string ⟨#[]⟩, .int .u64 0, .slice none 0 0, .slice none 0 0, .slice none 0 0, .slice a n c]
theorem blkN_rep {w : World} {S : List Nat} {q : NodeH} {x : NodeV} (h : NodeOk w S q x) : blockT.rep w S (blkN q x).toList (nodeB x) := blockT_mk (nodeB_ok h)
theorem blkP_rep {w : World} {S : List Nat} {q : Hd} {l : List PairV} (h : HRow pairT w S q l) : blockT.rep w S (blkP q.a l.length q.c).toList (fPairs l) :=
  blockT_mk (q := ⟨⟨Hd.nil, Hd.nil, Hd.nil⟩, ⟨Hd.nil, Hd.nil, Hd.nil⟩, q⟩) (x := fPairs l) ⟨show I64 3 from ⟨by decide, by decide⟩, node0_ok w S, plan0_ok w S, h⟩
theorem nodeOk_more {w : World} {S S' : List Nat} {h : NodeH} {x : NodeV} (H : NodeOk w S h x) (k : ∀ b ∈ S', b ∈ S ∨ w.heap.size ≤ b) : NodeOk w S' h x := ⟨H.level, H.low, H.high, H.next, H.keys.more k, H.vals.more k, H.kids.more k⟩
def rfS (X : List Nat) (a1 a2 a3 : Option Addr) : List Nat := X ++ (ob a1 ++ (ob a2 ++ ob a3))
/-- the rows of the document's Fill -/
structure RF (w0 wr : World) (X : List Nat) (L1 : List BlockV) (L2 : List StepV) (W : List Int) (a1 : Option Addr) (c1 : Nat) (a2 : Option Addr) (c2 : Nat) (a3 : Option Addr) (c3 : Nat) : Prop where
  b : Below w0.heap.size w0 wr
  out : OwnV blockT wr (rfS X a1 a2 a3) wr w0.heap.size 48 a1 c1 L1
  st : OwnV Dp.stepT wr [] wr w0.heap.size 64 a2 c2 L2
  wo : OwnV u64C wr [] wr w0.heap.size 22 a3 c3 W
  n12 : ∀ g ∈ ob a1, g ∉ ob a2
  n13 : ∀ g ∈ ob a1, g ∉ ob a3
  n23 : ∀ g ∈ ob a2, g ∉ ob a3
  x : ∀ b ∈ X, b < w0.heap.size
theorem RF.under {w0 wr : World} {X : List Nat} {L1 : List BlockV} {L2 : List StepV} {W : List Int} {a1 : Option Addr} {c1 : Nat} {a2 : Option Addr} {c2 : Nat} {a3 : Option Addr} {c3 : Nat} {wx : World} (P : RF w0 wr X L1 L2 W a1 c1 a2 c2 a3 c3) (h : Below wr.heap.size wr wx) : RF w0 wx X L1 L2 W a1 c1 a2 c2 a3 c3 :=
  ⟨below_push2 P.b h (Nat.le_refl _), (P.out.keep (Keeps.of_below h)).below h, (P.st.below h).rep (fun _ _ h => h), (P.wo.below h).rep (fun _ _ h => h), P.n12, P.n13, P.n23, P.x⟩
theorem RF.old {w0 wr : World} {X : List Nat} {L1 : List BlockV} {L2 : List StepV} {W : List Int} {a1 : Option Addr} {c1 : Nat} {a2 : Option Addr} {c2 : Nat} {a3 : Option Addr} {c3 : Nat} (P : RF w0 wr X L1 L2 W a1 c1 a2 c2 a3 c3) : ∀ b ∈ rfS X a1 a2 a3, b < wr.heap.size := by
  intro b hb
  have := P.b.size
  simp only [rfS, List.mem_append] at hb
  rcases hb with h | h | h | h
  · have := P.x b h; omega
  · exact (P.out.lt b h).2
  · exact (P.st.lt b h).2
  · exact (P.wo.lt b h).2
theorem more_own {α : Type} {C : Cod α} {wr w' : World} {S S2 T : List Nat} {base : Nat} {e : TypeId} {a : Option Addr} {c : Nat} {xs : List α} {g : Nat} (h : OwnV C wr S w' base e a c xs) (hg : g ∈ S ∨ g = wr.heap.size) (F : Fr T wr w') (hT : ∀ b ∈ T, b ∈ S) (h2 : ∀ b ∈ S2, b = g ∨ b ∈ S) : OwnV C w' S2 w' base e a c xs :=
  ((h.more (S' := g :: S) (fun b hb => by
    rcases List.mem_cons.1 hb with e | e
    · subst e
      rcases hg with k | k
      · exact .inl k
      · exact .inr (by omega)
    · exact .inl e)).keep (F.keeps.more (fun b hb => List.mem_cons_of_mem _ (hT b hb)))).more (fun b hb => .inl (by
    rcases h2 b hb with k | k
    · simp [k]
    · simp [k]))
theorem RF.addOut {w0 wr : World} {X : List Nat} {L1 : List BlockV} {L2 : List StepV} {W : List Int} {a1 : Option Addr} {c1 : Nat} {a2 : Option Addr} {c2 : Nat} {a3 : Option Addr} {c3 : Nat} {t : TypeId} {n : Nat} {v : Value} {x : BlockV} {g cap : Nat} {w' : World} (P : RF w0 wr X L1 L2 W a1 c1 a2 c2 a3 c3) (A : AddedV Try.prog blockT wr (rfS X a1 a2 a3) wr w0.heap.size t 48 a1 c1 n v 1 (L1 ++ [x]) g cap w') : RF w0 w' X (L1 ++ [x]) L2 W (some ⟨g, 0, none⟩) cap a2 c2 a3 c3 := by
  have hat : g ∈ rfS X a1 a2 a3 ∨ g = wr.heap.size := A.at'.imp (fun k => by simp [rfS, k]) id
  refine ⟨A.fr.below P.b (Nat.le_refl _) (fun b hb => (P.out.lt b hb).1), more_own A.own hat A.fr (fun b hb => by simp [rfS, hb]) (fun b hb => ?_), (P.st.fr A.fr (fun q hq e => P.n12 q e hq)).rep (fun _ _ h => h), (P.wo.fr A.fr (fun q hq e => P.n13 q e hq)).rep (fun _ _ h => h), fun q hq e => ?_, fun q hq e => ?_, P.n23, P.x⟩
  · simp only [rfS, List.mem_append, ob, List.mem_cons, List.not_mem_nil, or_false] at hb ⊢
    rcases hb with h | h | h | h
    · exact .inr (.inl h)
    · exact .inl h
    · exact .inr (.inr (.inr (.inl h)))
    · exact .inr (.inr (.inr (.inr h)))
  · simp [ob] at hq
    subst hq
    rcases A.at' with k | k
    · exact P.n12 _ k e
    · have := (P.st.lt _ e).2; omega
  · simp [ob] at hq
    subst hq
    rcases A.at' with k | k
    · exact P.n13 _ k e
    · have := (P.wo.lt _ e).2; omega
theorem RF.addSt {w0 wr : World} {X : List Nat} {L1 : List BlockV} {L2 : List StepV} {W : List Int} {a1 : Option Addr} {c1 : Nat} {a2 : Option Addr} {c2 : Nat} {a3 : Option Addr} {c3 : Nat} {t : TypeId} {n : Nat} {v : Value} {x : StepV} {g cap : Nat} {w' : World} (P : RF w0 wr X L1 L2 W a1 c1 a2 c2 a3 c3) (A : AddedV Try.prog Dp.stepT wr [] wr w0.heap.size t 64 a2 c2 n v 1 (L2 ++ [x]) g cap w') : RF w0 w' X L1 (L2 ++ [x]) W a1 c1 (some ⟨g, 0, none⟩) cap a3 c3 := by
  have hat : g ∈ rfS X a1 a2 a3 ∨ g = wr.heap.size := A.at'.imp (fun k => by simp [rfS, k]) id
  have hout : OwnV blockT wr (rfS X a1 a2 a3) w' w0.heap.size 48 a1 c1 L1 := P.out.fr A.fr (fun q hq e => P.n12 q hq e)
  refine ⟨A.fr.below P.b (Nat.le_refl _) (fun b hb => (P.st.lt b hb).1), more_own hout hat A.fr (fun b hb => by simp [rfS, hb]) (fun b hb => ?_), A.own.rep (fun _ _ h => h), (P.wo.fr A.fr (fun q hq e => P.n23 q e hq)).rep (fun _ _ h => h), fun q hq e => ?_, P.n13, fun q hq e => ?_, P.x⟩
  · simp only [rfS, List.mem_append, ob, List.mem_cons, List.not_mem_nil, or_false] at hb ⊢
    rcases hb with h | h | h | h
    · exact .inr (.inl h)
    · exact .inr (.inr (.inl h))
    · exact .inl h
    · exact .inr (.inr (.inr (.inr h)))
  · simp [ob] at e
    subst e
    rcases A.at' with k | k
    · exact P.n12 _ hq k
    · have := (P.out.lt _ hq).2; omega
  · simp [ob] at hq
    subst hq
    rcases A.at' with k | k
    · exact P.n23 _ k e
    · have := (P.wo.lt _ e).2; omega
theorem RF.addW {w0 wr : World} {X : List Nat} {L1 : List BlockV} {L2 : List StepV} {W : List Int} {a1 : Option Addr} {c1 : Nat} {a2 : Option Addr} {c2 : Nat} {a3 : Option Addr} {c3 : Nat} {t : TypeId} {n : Nat} {v : Value} {x : Int} {g cap : Nat} {w' : World} (P : RF w0 wr X L1 L2 W a1 c1 a2 c2 a3 c3) (A : AddedV Try.prog u64C wr [] wr w0.heap.size t 22 a3 c3 n v 1 (W ++ [x]) g cap w') : RF w0 w' X L1 L2 (W ++ [x]) a1 c1 a2 c2 (some ⟨g, 0, none⟩) cap := by
  have hat : g ∈ rfS X a1 a2 a3 ∨ g = wr.heap.size := A.at'.imp (fun k => by simp [rfS, k]) id
  have hout : OwnV blockT wr (rfS X a1 a2 a3) w' w0.heap.size 48 a1 c1 L1 := P.out.fr A.fr (fun q hq e => P.n13 q hq e)
  refine ⟨A.fr.below P.b (Nat.le_refl _) (fun b hb => (P.wo.lt b hb).1), more_own hout hat A.fr (fun b hb => by simp [rfS, hb]) (fun b hb => ?_), (P.st.fr A.fr (fun q hq e => P.n23 q hq e)).rep (fun _ _ h => h), A.own.rep (fun _ _ h => h), P.n12, fun q hq e => ?_, fun q hq e => ?_, P.x⟩
  · simp only [rfS, List.mem_append, ob, List.mem_cons, List.not_mem_nil, or_false] at hb ⊢
    rcases hb with h | h | h | h
    · exact .inr (.inl h)
    · exact .inr (.inr (.inl h))
    · exact .inr (.inr (.inr (.inl h)))
    · exact .inl h
  · simp [ob] at e
    subst e
    rcases A.at' with k | k
    · exact P.n13 _ hq k
    · have := (P.out.lt _ hq).2; omega
  · simp [ob] at e
    subst e
    rcases A.at' with k | k
    · exact P.n23 _ hq k
    · have := (P.st.lt _ hq).2; omega
theorem pair_at {w : World} {S : List Nat} {h : Hd} {xs : List PairV} (H : HRow pairT w S h xs) (k : Nat) (hk : k < xs.length) : ∃ b off, h.a = some ⟨b, off, none⟩ ∧ b < w.heap.size ∧ w.cell? ⟨b, off + k * 2, none⟩ = some (.string xs[k].key) ∧ w.cell? ⟨b, off + k * 2 + 1, none⟩ = some (.int .u64 xs[k].val) ∧ PairOk xs[k] := by
  obtain ⟨b, off, e, hb, _, hc⟩ := H.row (by omega)
  obtain ⟨cs, hr, hv⟩ := hc k xs[k] (List.getElem?_eq_getElem hk)
  obtain ⟨rfl, hok⟩ := pairT_of hr
  exact ⟨b, off, e, hb, hv 0 _ rfl, hv 1 _ rfl, hok⟩
/-- a part that grows -/
structure CH (w1 wr : World) (BB : Nat) (l : List PairV) (a4 : Option Addr) (c4 : Nat) : Prop where
  b : Below w1.heap.size w1 wr
  ge : w1.heap.size ≤ BB
  blk : Blk wr BB (blkP a4 l.length c4) 48
  own : OwnV pairT wr [] wr (BB + 1) 78 a4 c4 l
theorem CH.grow {w1 wr : World} {BB : Nat} {l : List PairV} {a4 : Option Addr} {c4 : Nat} {t : TypeId} {n : Nat} {v : Value} {x : PairV} {g cap : Nat} {wx w' : World} (P : CH w1 wr BB l a4 c4) (hx : Below wr.heap.size wr wx) (A : AddedV Try.prog pairT wx [] wx (BB + 1) t 78 a4 c4 n v 1 (l ++ [x]) g cap w') :
    CH w1 (w'.setCell ⟨BB, 16, none⟩ (.slice (some ⟨g, 0, none⟩) (l.length + 1) cap)) BB (l ++ [x]) (some ⟨g, 0, none⟩) cap ∧ Blk w' BB (blkP a4 l.length c4) 48 := by
  have hlt : ∀ q ∈ ob a4, BB + 1 ≤ q := fun q hq => (P.own.lt q hq).1
  have B1 : Blk w' BB (blkP a4 l.length c4) 48 := A.fr.blk (P.blk.below hx) (fun e => by have := hlt _ e; omega)
  have hb1 : Below w1.heap.size w1 wx := below_push2 P.b hx (Nat.le_refl _)
  have hb2 : Below w1.heap.size w1 w' := A.fr.below hb1 (Nat.le_refl _) (fun b hb => by have := hlt b hb; have := P.ge; omega)
  refine ⟨⟨hb2.setCell (p := ⟨BB, 16, none⟩) P.ge _, P.ge, ?_, ?_⟩, B1⟩
  · have := B1.set 16 (.slice (some ⟨g, 0, none⟩) (l.length + 1) cap)
    rw [show (l ++ [x]).length = l.length + 1 by simp]
    simpa [blkP] using this
  · refine (A.own.rep (fun _ _ h => flat_pair.any h)).heap fun q hq => ?_
    have hge : BB + 1 ≤ q := (A.own.lt q hq).1
    exact Below.heap_setCell w' ⟨BB, 16, none⟩ _ q (by show q ≠ BB; omega)
theorem chunk_grow {ps : List PairV} {k q : Nat} (hk : k ≤ q) (hq : q < ps.length) : (ps.drop k).take (q + 1 - k) = (ps.drop k).take (q - k) ++ [ps[q]] := by
  have e : q + 1 - k = (q - k) + 1 := by omega
  rw [e, List.take_succ_eq_append_getElem (by simp; omega)]
  congr 2
  simp only [List.getElem_drop]
  congr 1
  omega
theorem chunk_done {ps : List PairV} {k q f : Nat} (hk : k ≤ q) (hq : q ≤ ps.length) (hf : q ≤ k + f) (h : ¬ (q < ps.length ∧ q < k + f)) : (ps.drop k).take (q - k) = (ps.drop k).take f := by
  by_cases e : q = k + f
  · subst e
    rw [Nat.add_sub_cancel_left]
  · have : q = ps.length := by omega
    subst this
    rw [List.take_of_length_le (by simp), List.take_of_length_le (by simp; omega)]
def chsL (f : Nat) (ps : List PairV) (j : Nat) : List BlockV := (List.range j).map fun i => fPairs (chunkV f ps i)
theorem chsL_succ (f : Nat) (ps : List PairV) (j : Nat) : chsL f ps (j + 1) = chsL f ps j ++ [fPairs (chunkV f ps j)] := by simp [chsL, List.range_succ]
theorem chsL_len (f : Nat) (ps : List PairV) (j : Nat) : (chsL f ps j).length = j := by simp [chsL]
theorem RF.nil (w0 : World) (X : List Nat) (hX : ∀ b ∈ X, b < w0.heap.size) : RF w0 w0 X [] [] [] none 0 none 0 none 0 :=
  ⟨Below.refl _ _, OwnV.nil _ _ _ _ _, OwnV.nil _ _ _ _ _, OwnV.nil _ _ _ _ _, by simp [ob], by simp [ob], by simp [ob], hX⟩
end Go.Proofs.Ytnecikholpiefaa.Dp
