/-
  plan.extra: what it makes: plain things and what lies in memory.
-/
import Derived.Test.YtnecikholpiefaaPlanH
import Derived.Test.YtnecikholpiefaaCopyK
import Derived.Test.YtnecikholpiefaaDeepFlat
namespace Go.Proofs.Ytnecikholpiefaa.Dp
open Go.RowKit RefP FoP
set_option linter.unusedVariables false
set_option linter.unusedSimpArgs false
theorem Hand.rebase {w wr : World} {S : List Nat} {hb : Nat} {ws : List Int} {m : Nat} (P : Hand w wr S hb ws m) : Hand wr wr S hb ws m := by
  obtain ⟨qh, B, H⟩ := P.hand
  exact ⟨Fr.refl _ _, Nat.lt_of_lt_of_le P.lt P.fr.size, P.ins, qh, B, H.keep P.keeps⟩
theorem Hand.rebase2 {w wr : World} {S : List Nat} {hb : Nat} {ws : List Int} {m : Nat} (P : Hand w wr S hb ws m) (X : List Nat) (hX : ∀ b ∈ X, w.heap.size ≤ b) : Hand wr wr (S ++ X) hb ws m := by
  obtain ⟨qh, B, H⟩ := P.hand
  exact ⟨Fr.refl _ _, Nat.lt_of_lt_of_le P.lt P.fr.size, List.mem_append_left _ P.ins, qh, B, (H.more (fun b hb => by
    rcases List.mem_append.1 hb with e | e
    · exact .inl e
    · exact .inr (hX b e))).keep (P.keeps.more (fun b hb => List.mem_append_left _ hb))⟩
theorem infoPairG : (Try.prog.info? 78).map (fun i => (i.zero, i.size, i.bytes)) = some (some (.agg #[.string ⟨#[]⟩, .int .u64 0]), 2, 24) := by kernel_rfl
theorem infoU64G : (Try.prog.info? 22).map (fun i => (i.zero, i.size, i.bytes)) = some (some (.int .u64 0), 1, 8) := by kernel_rfl
theorem tinU64 : TIn Try.prog 27 22 u64C.k 8 := tin_mk Try.underlying27 infoU64G (by simp [Value.cells]; rfl)
abbrev zPair : Array Value := #[.string ⟨#[]⟩, .int .u64 0]
theorem mk_pairs (n : Nat) (hn : n ≤ 60000) (w : World) : (Instr.makeSlice 23 (.int .i64 (n : Int)) (.int .i64 (n : Int))).run Try.prog w = .ok (.slice (some ⟨w.heap.size, 0, none⟩) n n) (w.alloc (.cells (madeCells zPair (n * 2)) 78)) := by
  obtain ⟨i0, hi, hz0, hz1, hz2⟩ := info_parts' infoPairG
  have hb' : (i0.bytes : Int) * (n : Int) ≤ 281474976710656 := by rw [hz2]; omega
  have hr := run_make (P := Try.prog) w 23 78 i0 _ Try.underlying23 hi hz0 .i64 .i64 n n (by omega) (by omega) hb' (by omega)
  simp only [Int.toNat_natCast, hz1] at hr
  rw [hr]
  simp [Value.cells]
abbrev filledP (n : Int) (a : Option Addr) (k c : Nat) : Array Value := #[.int .u64 n, .int .i64 3, .int .i64 0, .string ⟨#[]⟩, .string ⟨#[]⟩, .bool false, .int .i64 0, .slice none 0 0, .slice none 0 0, .slice none 0 0, .int .i64 0, .int .i64 0, .string ⟨#[]⟩, .int .u64 0, .slice none 0 0, .slice none 0 0, .slice none 0 0, .slice a k c]
theorem node0_ok (w : World) (S : List Nat) : NodeOk w S ⟨Hd.nil, Hd.nil, Hd.nil⟩ fNodeZ := ⟨show I64 0 from ⟨by decide, by decide⟩, Nat.zero_le _, Nat.zero_le _, show I64 0 from ⟨by decide, by decide⟩, HRow.nil _ _ _, HRow.nil _ _ _, HRow.nil _ _ _⟩
theorem plan0_ok (w : World) (S : List Nat) : PlanOk w S ⟨Hd.nil, Hd.nil, Hd.nil⟩ fPlanZ := ⟨show I64 0 from ⟨by decide, by decide⟩, ⟨show I64 0 from ⟨by decide, by decide⟩, Nat.zero_le _, show U64 0 from ⟨by decide, by decide⟩, HRow.nil _ _ _⟩, HRow.nil _ _ _, HRow.nil _ _ _⟩
theorem filledP_rep {w : World} {S : List Nat} {n : Int} {q : Hd} {l : List PairV} (hn : U64 n) (h : HRow pairT w S q l) : filledT.rep w S (filledP n q.a l.length q.c).toList (n, fPairs l) :=
  filledT_mk (q := ⟨⟨Hd.nil, Hd.nil, Hd.nil⟩, ⟨Hd.nil, Hd.nil, Hd.nil⟩, q⟩) (x := fPairs l) hn ⟨show I64 3 from ⟨by decide, by decide⟩, node0_ok w S, plan0_ok w S, h⟩
/-- the blocks that change -/
def exS (X : List Nat) (hb : Nat) (a1 a2 : Option Addr) : List Nat := X ++ hb :: (ob a1 ++ ob a2)
structure EX (w wr : World) (X S : List Nat) (hb : Nat) (ws : List Int) (m : Nat) (L1 : List (Int × BlockV)) (W : List Int) (a1 : Option Addr) (c1 : Nat) (a2 : Option Addr) (c2 : Nat) : Prop where
  h : Hand w wr S hb ws m
  out : OwnV filledT wr (exS X hb a1 a2) wr w.heap.size 50 a1 c1 L1
  wo : OwnV u64C wr [] wr w.heap.size 22 a2 c2 W
  ne : ∀ g ∈ ob a1, g ∉ ob a2
  x : ∀ b ∈ X, b < w.heap.size
theorem EX.old {w wr : World} {X S : List Nat} {hb : Nat} {ws : List Int} {m : Nat} {L1 : List (Int × BlockV)} {W : List Int} {a1 : Option Addr} {c1 : Nat} {a2 : Option Addr} {c2 : Nat} (P : EX w wr X S hb ws m L1 W a1 c1 a2 c2) : ∀ b ∈ exS X hb a1 a2, b < wr.heap.size := by
  intro b hb'
  have := P.h.fr.size
  simp only [exS, List.mem_append, List.mem_cons] at hb'
  rcases hb' with h | h | h | h
  · have := P.x b h; omega
  · have := P.h.lt; omega
  · exact (P.out.lt b h).2
  · exact (P.wo.lt b h).2
theorem EX.under {w wr : World} {X S : List Nat} {hb : Nat} {ws : List Int} {m : Nat} {L1 : List (Int × BlockV)} {W : List Int} {a1 : Option Addr} {c1 : Nat} {a2 : Option Addr} {c2 : Nat} {wx : World} (P : EX w wr X S hb ws m L1 W a1 c1 a2 c2) (h : Below wr.heap.size wr wx) : EX w wx X S hb ws m L1 W a1 c1 a2 c2 :=
  ⟨P.h.under h, (P.out.keep (Keeps.of_below h)).below h, (P.wo.keep (Keeps.of_below h)).below h, P.ne, P.x⟩
theorem EX.handed {w wr : World} {X S : List Nat} {hb : Nat} {ws : List Int} {m : Nat} {L1 : List (Int × BlockV)} {W : List Int} {a1 : Option Addr} {c1 : Nat} {a2 : Option Addr} {c2 : Nat} {wx : World} {m' : Nat} (P : EX w wr X S hb ws m L1 W a1 c1 a2 c2) (H : Hand w wx S hb ws m') (F : Fr [hb] wr wx) : EX w wx X S hb ws m' L1 W a1 c1 a2 c2 :=
  ⟨H, (P.out.keep (F.keeps.more (by simp [exS]))).fr F (fun g hg e => by have := (P.out.lt g hg).1; have := P.h.lt; simp at e; omega), (P.wo.fr F (fun g hg e => by have := (P.wo.lt g hg).1; have := P.h.lt; simp at e; omega)).rep (fun _ _ h => h), P.ne, P.x⟩
theorem EX.addOut {w wr : World} {X S : List Nat} {hb : Nat} {ws : List Int} {m : Nat} {L1 : List (Int × BlockV)} {W : List Int} {a1 : Option Addr} {c1 : Nat} {a2 : Option Addr} {c2 : Nat} {t : TypeId} {n : Nat} {v : Value} {x : Int × BlockV} {g cap : Nat} {w' : World} (P : EX w wr X S hb ws m L1 W a1 c1 a2 c2) (A : AddedV Try.prog filledT wr (exS X hb a1 a2) wr w.heap.size t 50 a1 c1 n v 1 (L1 ++ [x]) g cap w') : EX w w' X S hb ws m (L1 ++ [x]) W (some ⟨g, 0, none⟩) cap a2 c2 := by
  have h1 : ∀ b ∈ g :: exS X hb a1 a2, b ∈ exS X hb a1 a2 ∨ wr.heap.size ≤ b := fun b hb' => by
    rcases List.mem_cons.1 hb' with e | e
    · subst e
      rcases A.at' with k | k
      · exact .inl (by simp [exS, k])
      · exact .inr (by omega)
    · exact .inl e
  refine ⟨P.h.on A.fr (fun b hb => (P.out.lt b hb).1), ((A.own.more h1).keep (A.fr.keeps.more (fun b hb => by simp [exS, hb]))).more (fun b hb' => .inl ?_), (P.wo.fr A.fr (fun q hq e => P.ne q e hq)).rep (fun _ _ h => h), fun q hq e => ?_, P.x⟩
  · simp only [exS, List.mem_append, List.mem_cons, ob, List.not_mem_nil, or_false] at hb' ⊢
    rcases hb' with h | h | h | h
    · exact .inr (.inl h)
    · exact .inr (.inr (.inl h))
    · exact .inl h
    · exact .inr (.inr (.inr (.inr h)))
  · simp [ob] at hq
    subst hq
    rcases A.at' with k | k
    · exact P.ne _ k e
    · have := (P.wo.lt _ e).2; omega
theorem EX.addW {w wr : World} {X S : List Nat} {hb : Nat} {ws : List Int} {m : Nat} {L1 : List (Int × BlockV)} {W : List Int} {a1 : Option Addr} {c1 : Nat} {a2 : Option Addr} {c2 : Nat} {t : TypeId} {n : Nat} {v : Value} {x : Int} {g cap : Nat} {w' : World} (P : EX w wr X S hb ws m L1 W a1 c1 a2 c2) (A : AddedV Try.prog u64C wr [] wr w.heap.size t 22 a2 c2 n v 1 (W ++ [x]) g cap w') : EX w w' X S hb ws m L1 (W ++ [x]) a1 c1 (some ⟨g, 0, none⟩) cap := by
  have h1 : ∀ b ∈ g :: exS X hb a1 a2, b ∈ exS X hb a1 a2 ∨ wr.heap.size ≤ b := fun b hb' => by
    rcases List.mem_cons.1 hb' with e | e
    · subst e
      rcases A.at' with k | k
      · exact .inl (by simp [exS, k])
      · exact .inr (by omega)
    · exact .inl e
  refine ⟨P.h.on A.fr (fun b hb => (P.wo.lt b hb).1), (((P.out.more h1).keep (A.fr.keeps.more (fun b hb => by simp [exS, hb]))).more (fun b hb' => .inl ?_)).fr A.fr (fun q hq e => P.ne q hq e), A.own.rep (fun _ _ h => h), fun q hq e => ?_, P.x⟩
  · simp only [exS, List.mem_append, List.mem_cons, ob, List.not_mem_nil, or_false] at hb' ⊢
    rcases hb' with h | h | h | h
    · exact .inr (.inl h)
    · exact .inr (.inr (.inl h))
    · exact .inr (.inr (.inr (.inl h)))
    · exact .inl h
  · simp [ob] at e
    subst e
    rcases A.at' with k | k
    · exact P.ne _ hq k
    · have := (P.out.lt _ hq).2; omega
/-- the parts so far -/
def exL (ws : List Int) (m f : Nat) (ps : List PairV) (j : Nat) : List (Int × BlockV) := (ws.drop m).zip ((List.range j).map fun i => fPairs (chunkV f ps i))
theorem exL_len (ws : List Int) (m f : Nat) (ps : List PairV) (j : Nat) (h : m + j ≤ ws.length) : (exL ws m f ps j).length = j := by
  unfold exL
  rw [zip_len _ _ (by simp; omega)]
  simp
theorem exL_succ (ws : List Int) (m f : Nat) (ps : List PairV) (j : Nat) (h : m + j < ws.length) : exL ws m f ps (j + 1) = exL ws m f ps j ++ [(ws.getD (m + j) 0, fPairs (chunkV f ps j))] := by
  unfold exL
  rw [List.range_succ, List.map_append, List.map_singleton, zip_snoc _ _ _ 0 (by simp; omega)]
  simp [List.getD_eq_getElem?_getD, List.getElem?_drop]
theorem exW_succ (ws : List Int) (m j : Nat) (h : m + j < ws.length) : (ws.drop m).take (j + 1) = (ws.drop m).take j ++ [ws.getD (m + j) 0] := by
  rw [List.take_succ_eq_append_getElem (by simp; omega)]
  simp [List.getD_eq_getElem?_getD, h]
def ExtraAt (w : World) (X S : List Nat) (hb : Nat) (ws : List Int) (m f : Nat) (ps : List PairV) (e : Ending) (w' : World) : Prop :=
  ∃ a1 c1 a2 c2, e = .returned (.tuple #[.slice a1 (exL ws m f ps (chunkN f ps.length)).length c1, .slice a2 ((ws.drop m).take (chunkN f ps.length)).length c2]) ∧ EX w w' X S hb ws (m + chunkN f ps.length) (exL ws m f ps (chunkN f ps.length)) ((ws.drop m).take (chunkN f ps.length)) a1 c1 a2 c2
end Go.Proofs.Ytnecikholpiefaa.Dp
