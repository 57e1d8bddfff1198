/-
  plan.steps: what it makes: contract.
-/
import Derived.Test.YtnecikholpiefaaPlanE
import Derived.Test.YtnecikholpiefaaPlanF
import Derived.Test.YtnecikholpiefaaOwnV
namespace Go.Proofs.Ytnecikholpiefaa.Dp
open Go.RowKit RefP FoP
set_option linter.unusedVariables false
set_option linter.unusedSimpArgs false
def filledT : Cod (Int × BlockV) := pairC u64C blockT
theorem filledT_k : filledT.k = 18 := rfl
theorem stepT_k : Dp.stepT.k = 5 := rfl
theorem filledT_mk {w : World} {S : List Nat} {q : BlockH} {n : Int} {x : BlockV} (hn : U64 n) (h : BlockOk w S q x) : filledT.rep w S (.int .u64 n :: blockL q x) (n, x) :=
  ⟨[_], _, rfl, ⟨rfl, wf_u64 hn⟩, blockT_mk h⟩
theorem filledT_of {w : World} {S : List Nat} {cs : List Value} {x : Int × BlockV} (h : filledT.rep w S cs x) : ∃ q, cs = .int .u64 x.1 :: blockL q x.2 ∧ U64 x.1 ∧ BlockOk w S q x.2 := by
  obtain ⟨c, d, rfl, ⟨rfl, h0⟩, h1⟩ := h
  obtain ⟨q, rfl, r⟩ := blockT_of h1
  exact ⟨q, rfl, U64.of h0, r⟩
theorem infoFilled : (Try.prog.info? 50).map (fun i => (i.zero, i.size, i.bytes)) = some (some (.agg (#[.int .u64 0, .int .i64 0, .int .i64 0, .string ⟨#[]⟩, .string ⟨#[]⟩, .bool false, .int .i64 0, .slice none 0 0, .slice none 0 0, .slice none 0 0, .int .i64 0, .int .i64 0, .string ⟨#[]⟩, .int .u64 0, .slice none 0 0, .slice none 0 0, .slice none 0 0, .slice none 0 0])), 18, 280) := by kernel_rfl
theorem tinFilled : TIn Try.prog 32 50 filledT.k 280 := tin_mk Try.underlying32 infoFilled (by simp [Value.cells, filledT_k])
theorem infoStepG : (Try.prog.info? 64).map (fun i => (i.zero, i.size, i.bytes)) = some (some (.agg #[.int .i64 0, .int .u64 0, .int .u64 0, .int .u64 0, .bool false]), 5, 40) := by kernel_rfl
theorem tinStep : TIn Try.prog 44 64 stepT.k 40 := tin_mk Try.underlying44 infoStepG (by simp [Value.cells, stepT_k])
theorem zip_snoc {α β : Type} (ws : List α) (out : List β) (b : β) (d : α) (h : out.length < ws.length) : ws.zip (out ++ [b]) = ws.zip out ++ [(ws.getD out.length d, b)] := by
  induction out generalizing ws with
  | nil =>
    cases ws with
    | nil => simp at h
    | cons x ws => simp
  | cons y out ih =>
    cases ws with
    | nil => simp at h
    | cons x ws =>
      simp only [List.length_cons] at h
      simp only [List.cons_append, List.zip_cons_cons, List.length_cons, List.getD_cons_succ]
      rw [ih ws (by omega)]
theorem zip_len {α β : Type} (ws : List α) (out : List β) (h : out.length ≤ ws.length) : (ws.zip out).length = out.length := by
  rw [List.length_zip]; omega
/-- the node's block -/
def nodeB (x : NodeV) : BlockV := ⟨1, x, fPlanZ, []⟩
theorem nodeB_ok {w : World} {S : List Nat} {q : NodeH} {x : NodeV} (h : NodeOk w S q x) : BlockOk w S ⟨q, ⟨Hd.nil, Hd.nil, Hd.nil⟩, Hd.nil⟩ (nodeB x) :=
  ⟨(show I64 1 from ⟨by decide, by decide⟩), h, ⟨(show I64 0 from ⟨by decide, by decide⟩), ⟨(show I64 0 from ⟨by decide, by decide⟩), Nat.zero_le _, (show U64 0 from ⟨by decide, by decide⟩), HRow.nil _ _ _⟩, HRow.nil _ _ _, HRow.nil _ _ _⟩, HRow.nil _ _ _⟩
abbrev filledA (n : Int) (q : NodeH) (x : NodeV) : Array Value := #[.int .u64 n, .int .i64 1, .int .i64 x.level, .string x.low, .string x.high, .bool x.last, .int .i64 x.next, .slice q.keys.a x.keys.length q.keys.c, .slice q.vals.a x.vals.length q.vals.c, .slice q.kids.a x.kids.length q.kids.c, .int .i64 0, .int .i64 0, .string ⟨#[]⟩, .int .u64 0, .slice none 0 0, .slice none 0 0, .slice none 0 0, .slice none 0 0]
theorem filledA_rep {w : World} {S : List Nat} {n : Int} {q : NodeH} {x : NodeV} (hn : U64 n) (h : NodeOk w S q x) : filledT.rep w S (filledA n q x).toList (n, nodeB x) := filledT_mk hn (nodeB_ok h)
theorem froms_at {l : List ChangeV} (h : fromsB l = true) (i : Nat) (hi : i < l.length) : -1 ≤ l[i].from_ ∧ l[i].from_ < (i : Int) := by
  by_cases g : -1 ≤ l[i].from_ ∧ l[i].from_ < (i : Int)
  · exact g
  · rw [froms_no hi g] at h; cases h
theorem range_keep {S : List Nat} {w w' : World} {b o : Nat} {cs : List Value} (h : w.rangeAt b o cs) (k : Keeps S w w') (hb : b < w.heap.size) (hn : b ∉ S) : w'.rangeAt b o cs :=
  fun j v hv => (k.cell (p := ⟨b, o + j, none⟩) hb hn).trans (h j v hv)
/-- a change of a row, and where it lies -/
theorem change_out {w : World} {S : List Nat} {h : Hd} {xs : List ChangeV} (H : HRow changeT w S h xs) (k : Nat) (hk : k < xs.length) : ∃ b off q, h.a = some ⟨b, off, none⟩ ∧ b < w.heap.size ∧ b ∉ S ∧ w.rangeAt b (off + k * 14) (changeA q xs[k]).toList ∧ ChangeOk w S q xs[k] := by
  obtain ⟨b, off, e, hb, hs, hc⟩ := H.row (by omega)
  obtain ⟨cs, hr, hv⟩ := hc k xs[k] (List.getElem?_eq_getElem hk)
  obtain ⟨q, rfl, hok⟩ := changeT_of hr
  exact ⟨b, off, q, e, hb, hs, hv, hok⟩
/-- a frame behind which new blocks alone change -/
theorem fr_after {S T : List Nat} {a b c : World} (h : Fr S a b) (k : Fr T b c) (hT : ∀ x ∈ T, x ∈ S ∨ a.heap.size ≤ x) : Fr S a c :=
  ⟨k.os.trans h.os, k.tape.trans h.tape, k.output.trans h.output, Nat.le_trans h.size k.size, fun i hi hn => (k.block i (Nat.lt_of_lt_of_le hi h.size) (fun e => by
    rcases hT i e with q | q
    · exact hn q
    · omega)).trans (h.block i hi hn)⟩
/-- the next word, of words that lie in an elder world -/
theorem next_at (S : List Nat) (hb : Nat) (q : Hd) (l : List Int) (w0 w : World) (B : Blk w hb (handA q l) 68) (H : HRow u64C w0 S q l) (k : Keeps S w0 w) (h0 : 0 < l.length) :
    Calls Try.prog 22 #[.pointer (some ⟨hb, 0, none⟩)] w fun e w' => ∃ q' : Hd, e = .returned (.int .u64 (l.headD 0)) ∧ w' = w.setCell ⟨hb, 0, none⟩ (.slice q'.a l.tail.length q'.c) ∧ HRow u64C w0 S q' l.tail := by
  have hmx : (maxLen : Nat) = 9223372036854775807 := by unfold maxLen; rfl
  have hle := H.le
  have hcap := H.cap
  obtain ⟨b, off, ha, hbl, hc, hu⟩ := word_cell (H.keep k) 0 h0
  rw [Nat.add_zero] at hc
  obtain ⟨qa, qc⟩ := q
  simp only at ha hle hcap
  subst ha
  have hh : l.headD 0 = l[0] := by
    cases l with
    | nil => simp at h0
    | cons x l => rfl
  have htl : l.tail.length = l.length - 1 := List.length_tail
  by_cases hc1 : qc ≤ 1
  · have e1 : l.length = 1 := by omega
    have e2 : qc = 1 := by omega
    subst e2
    have htl0 : l.tail.length = 0 := by omega
    have B' : Blk w hb #[.slice (some ⟨b, off, none⟩) 1 1] 68 := by
      have e : handA ⟨some ⟨b, off, none⟩, 1⟩ l = #[.slice (some ⟨b, off, none⟩) l.length 1] := rfl
      rw [e, e1] at B
      exact B
    refine (next_11 hb b off _ w B' hc).mono ?_
    rintro e w' ⟨rfl, rfl⟩
    refine ⟨⟨some ⟨b, off, none⟩, 0⟩, by rw [hh], ?_, words_one H (by show 1 ≤ 1; omega) _ _ (Nat.zero_le _)⟩
    rw [htl0]
  · refine (next_n hb b off l.length qc _ w B hc h0 hle (by omega) (by omega)).mono ?_
    rintro e w' ⟨rfl, rfl⟩
    refine ⟨⟨some ⟨b, off + 1, none⟩, qc - 1⟩, by rw [hh], ?_, words_tail H h0 (by omega)⟩
    rw [htl]
/-- the words at hand -/
structure Hand (w wr : World) (S : List Nat) (hb : Nat) (ws : List Int) (m : Nat) : Prop where
  fr : Fr [hb] w wr
  lt : hb < w.heap.size
  ins : hb ∈ S
  hand : ∃ qh, Blk wr hb (handA qh (ws.drop m)) 68 ∧ HRow u64C w S qh (ws.drop m)
theorem Hand.on {w wr wx : World} {S T : List Nat} {hb : Nat} {ws : List Int} {m : Nat} (P : Hand w wr S hb ws m) (F : Fr T wr wx) (hT : ∀ b ∈ T, w.heap.size ≤ b) : Hand w wx S hb ws m := by
  obtain ⟨qh, B, H⟩ := P.hand
  exact ⟨fr_after P.fr F (fun x hx => .inr (hT x hx)), P.lt, P.ins, qh, F.blk B (fun e => by have := hT _ e; have := P.lt; omega), H⟩
theorem Hand.under {w wr wx : World} {S : List Nat} {hb : Nat} {ws : List Int} {m : Nat} (P : Hand w wr S hb ws m) (h : Below wr.heap.size wr wx) : Hand w wx S hb ws m := P.on (Fr.of_below (S := []) h) (by simp)
theorem Hand.keeps {w wr : World} {S : List Nat} {hb : Nat} {ws : List Int} {m : Nat} (P : Hand w wr S hb ws m) : Keeps S w wr := P.fr.keeps.more (by have := P.ins; simpa using this)
theorem Hand.next {w wr : World} {S : List Nat} {hb : Nat} {ws : List Int} {m : Nat} (P : Hand w wr S hb ws m) (hm : m < ws.length) :
    Calls Try.prog 22 #[.pointer (some ⟨hb, 0, none⟩)] wr fun e w' => e = .returned (.int .u64 (ws.getD m 0)) ∧ Hand w w' S hb ws (m + 1) ∧ Fr [hb] wr w' := by
  obtain ⟨qh, B, H⟩ := P.hand
  refine (next_at S hb qh (ws.drop m) w wr B H P.keeps (by simp; omega)).mono ?_
  rintro e w' ⟨q', rfl, rfl, H'⟩
  have ht : (ws.drop m).tail = ws.drop (m + 1) := by simp
  have hh : (ws.drop m).headD 0 = ws.getD m 0 := by
    rw [List.getD_eq_getElem?_getD, List.headD_eq_head?_getD, List.head?_drop]
  rw [ht] at H' ⊢
  have F : Fr [hb] wr (wr.setCell ⟨hb, 0, none⟩ (.slice q'.a (ws.drop (m + 1)).length q'.c)) := (Fr.refl _ _).set _ _ (.inl (by simp))
  exact ⟨by rw [hh], ⟨fr_after P.fr F (fun x hx => .inl hx), P.lt, P.ins, q', by simpa [handA] using B.set 0 _, H'⟩, F⟩
/-- so far -/
structure PS (w wr : World) (S : List Nat) (hb : Nat) (ws : List Int) (m : Nat) (L1 : List (Int × BlockV)) (L2 : List StepV) (a1 : Option Addr) (c1 : Nat) (a2 : Option Addr) (c2 : Nat) : Prop where
  h : Hand w wr S hb ws m
  out : OwnV filledT w S wr w.heap.size 50 a1 c1 L1
  st : OwnV Dp.stepT w S wr w.heap.size 64 a2 c2 L2
  ne : ∀ g ∈ ob a1, g ∉ ob a2
theorem PS.under {w wr : World} {S : List Nat} {hb : Nat} {ws : List Int} {m : Nat} {L1 : List (Int × BlockV)} {L2 : List StepV} {a1 : Option Addr} {c1 : Nat} {a2 : Option Addr} {c2 : Nat} {wx : World} (P : PS w wr S hb ws m L1 L2 a1 c1 a2 c2) (h : Below wr.heap.size wr wx) : PS w wx S hb ws m L1 L2 a1 c1 a2 c2 := ⟨P.h.under h, P.out.below h, P.st.below h, P.ne⟩
theorem PS.on {w wr : World} {S : List Nat} {hb : Nat} {ws : List Int} {m : Nat} {L1 : List (Int × BlockV)} {L2 : List StepV} {a1 : Option Addr} {c1 : Nat} {a2 : Option Addr} {c2 : Nat} {T : List Nat} {wx : World} (P : PS w wr S hb ws m L1 L2 a1 c1 a2 c2) (F : Fr T wr wx) (hT : ∀ b ∈ T, w.heap.size ≤ b ∧ b ∉ ob a1 ∧ b ∉ ob a2) : PS w wx S hb ws m L1 L2 a1 c1 a2 c2 :=
  ⟨P.h.on F (fun b hb => (hT b hb).1), P.out.fr F (fun g hg e => (hT g e).2.1 hg), P.st.fr F (fun g hg e => (hT g e).2.2 hg), P.ne⟩
theorem PS.handed {w wr : World} {S : List Nat} {hb : Nat} {ws : List Int} {m : Nat} {L1 : List (Int × BlockV)} {L2 : List StepV} {a1 : Option Addr} {c1 : Nat} {a2 : Option Addr} {c2 : Nat} {wx : World} {m' : Nat} (P : PS w wr S hb ws m L1 L2 a1 c1 a2 c2) (H : Hand w wx S hb ws m') (F : Fr [hb] wr wx) : PS w wx S hb ws m' L1 L2 a1 c1 a2 c2 :=
  ⟨H, P.out.fr F (fun g hg e => by have := (P.out.lt g hg).1; have := P.h.lt; simp at e; omega), P.st.fr F (fun g hg e => by have := (P.st.lt g hg).1; have := P.h.lt; simp at e; omega), P.ne⟩
theorem PS.addOut {w wr : World} {S : List Nat} {hb : Nat} {ws : List Int} {m : Nat} {L1 : List (Int × BlockV)} {L2 : List StepV} {a1 : Option Addr} {c1 : Nat} {a2 : Option Addr} {c2 : Nat} {t : TypeId} {n : Nat} {v : Value} {x : Int × BlockV} {g cap : Nat} {w' : World} (P : PS w wr S hb ws m L1 L2 a1 c1 a2 c2) (A : AddedV Try.prog filledT w S wr w.heap.size t 50 a1 c1 n v 1 (L1 ++ [x]) g cap w') : PS w w' S hb ws m (L1 ++ [x]) L2 (some ⟨g, 0, none⟩) cap a2 c2 :=
  ⟨P.h.on A.fr (fun b hb => (P.out.lt b hb).1), A.own, P.st.fr A.fr (fun q hq e => P.ne q e hq), fun q hq e => by
    simp [ob] at hq
    subst hq
    rcases A.at' with k | k
    · exact P.ne _ k e
    · have := (P.st.lt _ e).2; omega⟩
theorem PS.addSt {w wr : World} {S : List Nat} {hb : Nat} {ws : List Int} {m : Nat} {L1 : List (Int × BlockV)} {L2 : List StepV} {a1 : Option Addr} {c1 : Nat} {a2 : Option Addr} {c2 : Nat} {t : TypeId} {n : Nat} {v : Value} {x : StepV} {g cap : Nat} {w' : World} (P : PS w wr S hb ws m L1 L2 a1 c1 a2 c2) (A : AddedV Try.prog Dp.stepT w S wr w.heap.size t 64 a2 c2 n v 1 (L2 ++ [x]) g cap w') : PS w w' S hb ws m L1 (L2 ++ [x]) a1 c1 (some ⟨g, 0, none⟩) cap :=
  ⟨P.h.on A.fr (fun b hb => (P.st.lt b hb).1), P.out.fr A.fr (fun q hq e => P.ne q hq e), A.own, fun q hq e => by
    simp [ob] at e
    subst e
    rcases A.at' with k | k
    · exact P.ne _ hq k
    · have := (P.out.lt _ hq).2; omega⟩
abbrev nextV (hb : Nat) : Value := .func (.func 22) #[.pointer (some ⟨hb, 0, none⟩)] #[]
end Go.Proofs.Ytnecikholpiefaa.Dp
