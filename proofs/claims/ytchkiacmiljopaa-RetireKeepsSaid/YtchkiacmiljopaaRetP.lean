/-
  retire: a task: plain laws, and how it lies in memory.
-/
import Derived.Test.YtchkiacmiljopaaHazKeep
import Derived.Test.YtchkiacmiljopaaRetO
namespace Go.Proofs.Ytchkiacmiljopaa.MemP
open Go.RowKit RefP CellP HazP
set_option linter.unusedVariables false
set_option linter.unusedSimpArgs false
/-- what a task and its list have -/
structure RS where
  W : List Int
  st : Nat
  at_ : Nat
  nm : List Int
  fr : List Int
  l : List Int
def addP (r : Int) : List Int → List Int → List Int × List Int
  | [], l => ([], l)
  | x :: W, l => if r ≤ (l.length : Int) then (x :: W, l) else addP r W (l ++ [x])
def addS (r : Int) (s : RS) : RS :=
  if (addP r s.W s.l).1 = [] then { s with W := [], st := 0, l := (addP r s.W s.l).2 } else { s with W := (addP r s.W s.l).1, st := 1, at_ := 0, nm := [], l := (addP r s.W s.l).2 }
def siftS (s : RS) : RS := { s with st := 2, fr := siftL s.l s.nm false, l := siftL s.l s.nm true }
def sweptL (r : Int) : List Int → List Int → List Int
  | [], l => l
  | x :: _, l => if r ≤ (l.length : Int) then l else l ++ [x]
def sweptS (r : Int) (s : RS) : RS := { s with st := 0, W := s.W.tail, l := sweptL r s.W s.l }
def outB (T : Nat) (s : RS) : Bool := (s.st == 0 && s.W.isEmpty) || (s.st == 1 && decide (s.at_ < 2 * T)) || (s.st == 2 && !s.fr.isEmpty)
def istep (r : Int) (s : RS) : RS := if s.st = 0 then addS r s else if s.st = 1 then siftS s else sweptS r s
def nrm (T : Nat) (r : Int) : Nat → RS → RS
  | 0, s => s
  | n + 1, s => if outB T s = true then s else nrm T r n (istep r s)
theorem nrm_out {T : Nat} {r : Int} {n : Nat} {s : RS} (h : outB T s = true) : nrm T r n s = s := by
  cases n with
  | zero => rfl
  | succ n => simp [nrm, h]
theorem nrm_in {T : Nat} {r : Int} {n : Nat} {s : RS} (h : outB T s = false) : nrm T r (n + 1) s = nrm T r n (istep r s) := by simp [nrm, h]
def rankS (T : Nat) (s : RS) : Nat := if outB T s = true then 0 else if s.st = 0 then 1 else if s.st = 2 then 2 else 3
def accS (A T : Nat) (s : RS) : Acc4 :=
  if s.st = 1 then (1, hazI A T ((s.at_ : Int) / 2) ((s.at_ : Int) % 2), 0, 0) else if s.st = 2 then (2, atI A T 1 (openP (at0 s.fr 0)), 0, freedI (at0 s.fr 0)) else (0, 0, 0, 0)
def GoodW (A : Nat) (x : Int) : Prop := (0 ≤ x ∧ x ≤ 18446744073709551615) ∧ opensB x = true ∧ 0 ≤ openP x ∧ openP x < A
/-! blocks -/
def blkS (a : Option Addr) : List Nat := match a with | some p => [p.block] | none => []
theorem blkS_mem {a : Option Addr} {b : Nat} : b ∈ blkS a ↔ ∃ p, a = some p ∧ p.block = b := by
  cases a with
  | none => simp [blkS]
  | some q => simp [blkS, eq_comm]
theorem blkS_own {a : Option Addr} {n c q : Nat} (h : (Value.slice a n c).ownBlock = some q) : q ∈ blkS a := by
  cases a with
  | none => cases h
  | some p => simp only [Value.ownBlock, Option.some.injEq] at h; simp [blkS, h]
theorem own_blkS {a : Option Addr} {n c q : Nat} (h : q ∈ blkS a) : (Value.slice a n c).ownBlock = some q := by
  obtain ⟨p, rfl, rfl⟩ := blkS_mem.1 h; rfl
/-- from the blocks S to the blocks S': all else is as it was -/
structure Mv (S S' : List Nat) (w w' : World) : Prop where
  fr : Fr S w w'
  sub : ∀ b ∈ S', b ∈ S ∨ w.heap.size ≤ b
theorem Mv.refl (S : List Nat) (w : World) : Mv S S w w := ⟨Fr.refl _ _, fun b h => .inl h⟩
theorem Mv.step {S S1 S' X : List Nat} {w0 w w' : World} (M : Mv S S1 w0 w) (F : Fr X w w') (hX : ∀ b ∈ X, b ∈ S1 ∨ w0.heap.size ≤ b) (hS : ∀ b ∈ S', b ∈ S1 ∨ w0.heap.size ≤ b) : Mv S S' w0 w' := by
  refine ⟨⟨F.os.trans M.fr.os, F.tape.trans M.fr.tape, F.output.trans M.fr.output, Nat.le_trans M.fr.size F.size, fun b hb hn => ?_⟩, fun b hb => ?_⟩
  · refine (F.block b (Nat.lt_of_lt_of_le hb M.fr.size) (fun hx => ?_)).trans (M.fr.block b hb hn)
    rcases hX b hx with k | k
    · rcases M.sub b k with k | k
      · exact hn k
      · omega
    · omega
  · rcases hS b hb with k | k
    · exact M.sub b k
    · exact .inr k
theorem Mv.trans {S S1 S' : List Nat} {w0 w w' : World} (M : Mv S S1 w0 w) (N : Mv S1 S' w w') : Mv S S' w0 w' :=
  M.step N.fr (fun b h => .inl h) (fun b h => by
    rcases N.sub b h with k | k
    · exact .inl k
    · exact .inr (Nat.le_trans M.fr.size k))
theorem Mv.under {S S' : List Nat} {w0 w w' : World} (M : Mv S S' w0 w) (h : Below w.heap.size w w') : Mv S S' w0 w' := M.step (Fr.of_below (S := []) h) (by simp) (fun b h => .inl h)
theorem Mv.new {S : List Nat} {w w' : World} (h : Below w.heap.size w w') : Mv S S w w' := (Mv.refl S w).under h
theorem Mv.below {S S' : List Nat} {w w' : World} {base : Nat} (M : Mv S S' w w') (hS : ∀ b ∈ S, base ≤ b) (hb : base ≤ w.heap.size) : Below base w w' := M.fr.below (Below.refl base w) hb hS
/-! a task -/
structure RA where
  wa : Option Addr
  wc : Nat
  na : Option Addr
  nc : Nat
  fa : Option Addr
  fc : Nat
  la : Option Addr
  lc : Nat
def ownB (t lo : Nat) (d : RA) : List Nat := t :: lo :: (blkS d.na ++ blkS d.la)
def allB (t lo : Nat) (d : RA) : List Nat := ownB t lo d ++ (blkS d.wa ++ blkS d.fa)
abbrev rtZ (m l : Option Addr) (ws : Value) (st i : Int) (nm fr : Value) : Array Value := #[.pointer m, .pointer l, ws, .int .i64 st, .int .i64 i, nm, fr]
abbrev rtA (o lo : Nat) (d : RA) (s : RS) : Array Value := rtZ (some ⟨o, 0, none⟩) (some ⟨lo, 0, none⟩) (.slice d.wa s.W.length d.wc) s.st s.at_ (.slice d.na s.nm.length d.nc) (.slice d.fa s.fr.length d.fc)
structure RtAt (w : World) (base o t lo : Nat) (r : Int) (A : Nat) (d : RA) (s : RS) : Prop where
  head : Blk w t (rtA o lo d s) 77
  words : U64s w d.wa s.W
  free : U64s w d.fa s.fr
  named : OwnsU w base d.na d.nc s.nm
  list : ListAt w base lo r d.la d.lc s.l
  ge : base ≤ t
  tl : t ≠ lo
  wb : ∀ b ∈ blkS d.wa, base ≤ b ∧ b < w.heap.size ∧ b ∉ ownB t lo d
  fb : ∀ b ∈ blkS d.fa, base ≤ b ∧ b < w.heap.size ∧ b ∉ ownB t lo d
  nb : ∀ b ∈ blkS d.na, b ≠ t ∧ b ≠ lo ∧ b ∉ blkS d.la
  lb : ∀ b ∈ blkS d.la, b ≠ t
  good : (∀ x ∈ s.W, GoodW A x) ∧ (∀ x ∈ s.fr, GoodW A x) ∧ ∀ x ∈ s.l, GoodW A x
  st : s.st ≤ 2
  sm : s.W.length ≤ 60000 ∧ s.nm.length ≤ 2000 ∧ s.at_ ≤ 2000
  cp : s.W.length ≤ d.wc ∧ s.fr.length ≤ d.fc
theorem RtAt.under {w w' : World} {base o t lo : Nat} {r : Int} {A : Nat} {d : RA} {s : RS} (h : RtAt w base o t lo r A d s) (hb : Below w.heap.size w w') : RtAt w' base o t lo r A d s :=
  ⟨h.head.below hb, h.words.below hb, h.free.below hb, h.named.below hb, h.list.below hb, h.ge, h.tl, fun b k => ⟨(h.wb b k).1, Nat.lt_of_lt_of_le (h.wb b k).2.1 hb.size, (h.wb b k).2.2⟩, fun b k => ⟨(h.fb b k).1, Nat.lt_of_lt_of_le (h.fb b k).2.1 hb.size, (h.fb b k).2.2⟩, h.nb, h.lb, h.good, h.st, h.sm, h.cp⟩
theorem RtAt.own_ge {w : World} {base o t lo : Nat} {r : Int} {A : Nat} {d : RA} {s : RS} (h : RtAt w base o t lo r A d s) : ∀ b ∈ ownB t lo d, base ≤ b ∧ b < w.heap.size := by
  intro b hb
  simp only [ownB, List.mem_cons, List.mem_append] at hb
  rcases hb with rfl | rfl | hb | hb
  · exact ⟨h.ge, h.head.lt⟩
  · exact ⟨h.list.ge, h.list.head.lt⟩
  · exact h.named.lt b (own_blkS hb)
  · exact h.list.own.lt b (own_blkS hb)
theorem RtAt.all_ge {w : World} {base o t lo : Nat} {r : Int} {A : Nat} {d : RA} {s : RS} (h : RtAt w base o t lo r A d s) : ∀ b ∈ allB t lo d, base ≤ b ∧ b < w.heap.size := by
  intro b hb
  simp only [allB, List.mem_append] at hb
  rcases hb with hb | hb | hb
  · exact h.own_ge b hb
  · exact ⟨(h.wb b hb).1, (h.wb b hb).2.1⟩
  · exact ⟨(h.fb b hb).1, (h.fb b hb).2.1⟩
theorem U64s.heap {w w' : World} {a : Option Addr} {l : List Int} (h : U64s w a l) (hs : w.heap.size ≤ w'.heap.size) (hk : ∀ b ∈ blkS a, b < w.heap.size → w'.heap[b]? = w.heap[b]?) : U64s w' a l := by
  refine ⟨⟨fun h0 => ?_⟩, h.rng, h.len⟩
  obtain ⟨b, off, rfl, hb, hc⟩ := h.row.get h0
  refine ⟨b, off, rfl, Nat.lt_of_lt_of_le hb hs, fun i hi => ?_⟩
  rw [← hc i hi]
  exact World.cell?_of_block (hk b (by simp [blkS]) hb)
/-- a change elsewhere -/
theorem RtAt.off {w w' : World} {base o t lo : Nat} {r : Int} {A : Nat} {d : RA} {s : RS} (h : RtAt w base o t lo r A d s) {S : List Nat} (F : Fr S w w') (hn : ∀ b ∈ S, b < base ∨ (b ∉ ownB t lo d ∧ b ∉ blkS d.wa ∧ b ∉ blkS d.fa)) : RtAt w' base o t lo r A d s := by
  have hk : ∀ b, base ≤ b → (b ∈ ownB t lo d ∨ b ∈ blkS d.wa ∨ b ∈ blkS d.fa) → b ∉ S := fun b hb hx hS => by
    rcases hn b hS with k | k
    · omega
    · rcases hx with q | q | q
      · exact k.1 q
      · exact k.2.1 q
      · exact k.2.2 q
  have hown : ∀ b ∈ ownB t lo d, w'.heap[b]? = w.heap[b]? := fun b hb => F.block b (h.own_ge b hb).2 (hk b (h.own_ge b hb).1 (.inl hb))
  refine ⟨F.blk h.head (hk t h.ge (.inl (by simp [ownB]))), U64s.heap h.words F.size fun b hb hl => F.block b hl (hk b (h.wb b hb).1 (.inr (.inl hb))), U64s.heap h.free F.size fun b hb hl => F.block b hl (hk b (h.fb b hb).1 (.inr (.inr hb))),
    OwnsU.heap h.named fun q hq => hown q (by simp [ownB, blkS_own hq]), ⟨F.blk h.list.head (hk lo h.list.ge (.inl (by simp [ownB]))), OwnsU.heap h.list.own fun q hq => hown q (by simp [ownB, blkS_own hq]), h.list.ge, h.list.ne, h.list.room, h.list.len⟩, h.ge, h.tl, fun b k => ⟨(h.wb b k).1, Nat.lt_of_lt_of_le (h.wb b k).2.1 F.size, (h.wb b k).2.2⟩, fun b k => ⟨(h.fb b k).1, Nat.lt_of_lt_of_le (h.fb b k).2.1 F.size, (h.fb b k).2.2⟩, h.nb, h.lb, h.good, h.st, h.sm, h.cp⟩
/-- the list was changed -/
theorem RtAt.listed {w w' : World} {base o t lo : Nat} {r : Int} {A : Nat} {d : RA} {s : RS} (h : RtAt w base o t lo r A d s) {la' : Option Addr} {lc' : Nat} {l' : List Int} (L : ListAt w' base lo r la' lc' l') (B : But w w' lo d.la) (M : Moved w d.la la') (hg : ∀ x ∈ l', GoodW A x) :
    RtAt w' base o t lo r A { d with la := la', lc := lc' } { s with l := l' } ∧ Mv (allB t lo d) (allB t lo { d with la := la', lc := lc' }) w w' := by
  have hM : ∀ b ∈ blkS la', b ∈ blkS d.la ∨ w.heap.size ≤ b := fun b hb => by
    obtain ⟨p, rfl, rfl⟩ := blkS_mem.1 hb
    rcases M p rfl with ⟨q, hq, e⟩ | k
    · exact .inl (blkS_mem.2 ⟨q, hq, e⟩)
    · exact .inr k
  have hB : ∀ k, k < w.heap.size → k ≠ lo → k ∉ blkS d.la → w'.heap[k]? = w.heap[k]? := fun k h1 h2 h3 => B.block k h1 h2 (fun p hp e => h3 (blkS_mem.2 ⟨p, hp, e⟩))
  have hlt := h.head.lt
  have hN : ∀ q, (Value.slice d.na s.nm.length d.nc).ownBlock = some q → q < w.heap.size := fun q hq => (h.named.lt q hq).2
  have hsub : ∀ b ∈ ownB t lo { d with la := la', lc := lc' }, b ∈ ownB t lo d ∨ w.heap.size ≤ b := fun b hb => by
    simp only [ownB, List.mem_cons, List.mem_append] at hb ⊢
    rcases hb with e | e | e | e
    · exact .inl (.inl e)
    · exact .inl (.inr (.inl e))
    · exact .inl (.inr (.inr (.inl e)))
    · rcases hM b e with k | k
      · exact .inl (.inr (.inr (.inr k)))
      · exact .inr k
  have hno : ∀ b, b < w.heap.size → b ∉ ownB t lo d → b ∉ ownB t lo { d with la := la', lc := lc' } := fun b h1 h2 h3 => by
    rcases hsub b h3 with k | k
    · exact h2 k
    · omega
  refine ⟨⟨⟨(hB t hlt h.tl (fun e => h.lb t e rfl)).trans h.head.h⟩, U64s.heap h.words B.size fun b hb hl => ?_, U64s.heap h.free B.size fun b hb hl => ?_, OwnsU.heap h.named fun q hq => ?_, L, h.ge, h.tl, fun b k => ⟨(h.wb b k).1, Nat.lt_of_lt_of_le (h.wb b k).2.1 B.size, hno b (h.wb b k).2.1 (h.wb b k).2.2⟩, fun b k => ⟨(h.fb b k).1, Nat.lt_of_lt_of_le (h.fb b k).2.1 B.size, hno b (h.fb b k).2.1 (h.fb b k).2.2⟩, fun b k => ⟨(h.nb b k).1, (h.nb b k).2.1, fun e => ?_⟩, fun b k e => ?_, ⟨h.good.1, h.good.2.1, hg⟩, h.st, h.sm, h.cp⟩, ⟨⟨B.os, B.tape, B.output, B.size, fun b hb hn => hB b hb (fun e => hn (by simp [allB, ownB, e])) (fun e => hn (by simp [allB, ownB, e]))⟩, fun b hb => ?_⟩⟩
  · have := (h.wb b hb).2.2
    simp only [ownB, List.mem_cons, List.mem_append, not_or] at this
    exact hB b hl this.2.1 this.2.2.2
  · have := (h.fb b hb).2.2
    simp only [ownB, List.mem_cons, List.mem_append, not_or] at this
    exact hB b hl this.2.1 this.2.2.2
  · have := h.nb q (blkS_own hq)
    exact hB q (hN q hq) this.2.1 this.2.2
  · have hl := hN b (own_blkS k)
    rcases hM b e with q | q
    · exact (h.nb b k).2.2 q
    · omega
  · subst e
    rcases hM b k with q | q
    · exact h.lb b q rfl
    · omega
  · simp only [allB, List.mem_append] at hb ⊢
    rcases hb with hb | hb | hb
    · rcases hsub b hb with q | q
      · exact .inl (.inl q)
      · exact .inr q
    · exact .inl (.inr (.inl hb))
    · exact .inl (.inr (.inr hb))
/-- its own cells were changed: words and what is freed may be cut, what is named may be gone -/
theorem RtAt.put {w w' : World} {base o t lo : Nat} {r : Int} {A : Nat} {d : RA} {s : RS} (h : RtAt w base o t lo r A d s) {d' : RA} {s' : RS} (F : Fr [t] w w') (hB : Blk w' t (rtA o lo d' s') 77) (hl : d'.la = d.la ∧ d'.lc = d.lc ∧ s'.l = s.l)
    (hW : U64s w d'.wa s'.W ∧ ∀ b ∈ blkS d'.wa, b ∈ blkS d.wa) (hF : U64s w d'.fa s'.fr ∧ ∀ b ∈ blkS d'.fa, b ∈ blkS d.fa) (hN : (d'.na = d.na ∧ d'.nc = d.nc ∧ s'.nm = s.nm) ∨ (d'.na = none ∧ d'.nc = 0 ∧ s'.nm = []))
    (hg : (∀ x ∈ s'.W, GoodW A x) ∧ ∀ x ∈ s'.fr, GoodW A x) (hst : s'.st ≤ 2) (hsm : s'.W.length ≤ 60000 ∧ s'.at_ ≤ 2000) (hcp : s'.W.length ≤ d'.wc ∧ s'.fr.length ≤ d'.fc) :
    RtAt w' base o t lo r A d' s' ∧ Mv (allB t lo d) (allB t lo d') w w' := by
  have hna : ∀ b ∈ blkS d'.na, b ∈ blkS d.na := fun b hb => by
    rcases hN with k | k
    · rw [k.1] at hb; exact hb
    · rw [k.1] at hb; simp [blkS] at hb
  have hsub : ∀ b ∈ ownB t lo d', b ∈ ownB t lo d := fun b hb => by
    simp only [ownB, List.mem_cons, List.mem_append, hl.1] at hb ⊢
    rcases hb with e | e | e | e
    · exact .inl e
    · exact .inr (.inl e)
    · exact .inr (.inr (.inl (hna b e)))
    · exact .inr (.inr (.inr e))
  have ht : ∀ b, b ≠ t → b ∉ [t] := fun b e => by simpa using e
  have hLst : ListAt w' base lo r d'.la d'.lc s'.l := by
    rw [hl.1, hl.2.1, hl.2.2]
    exact ⟨F.blk h.list.head (ht _ h.tl.symm), OwnsU.heap h.list.own fun q hq => F.block q (h.list.own.lt q hq).2 (ht _ (h.lb q (blkS_own hq))), h.list.ge, h.list.ne, h.list.room, h.list.len⟩
  have hNm : OwnsU w' base d'.na d'.nc s'.nm ∧ s'.nm.length ≤ 2000 := by
    rcases hN with k | k
    · rw [k.1, k.2.1, k.2.2]
      exact ⟨OwnsU.heap h.named fun q hq => F.block q (h.named.lt q hq).2 (ht _ (h.nb q (blkS_own hq)).1), h.sm.2.1⟩
    · rw [k.1, k.2.1, k.2.2]
      exact ⟨OwnsU.nil _ _, by simp⟩
  have hno : ∀ b ∉ ownB t lo d, b ≠ t := fun b hb e => hb (by simp [ownB, e])
  refine ⟨⟨hB, U64s.heap hW.1 F.size fun b hb hl => F.block b hl (ht _ (hno _ (h.wb b (hW.2 b hb)).2.2)), U64s.heap hF.1 F.size fun b hb hl => F.block b hl (ht _ (hno _ (h.fb b (hF.2 b hb)).2.2)), hNm.1, hLst, h.ge, h.tl,
    fun b k => ⟨(h.wb b (hW.2 b k)).1, Nat.lt_of_lt_of_le (h.wb b (hW.2 b k)).2.1 F.size, fun e => (h.wb b (hW.2 b k)).2.2 (hsub b e)⟩, fun b k => ⟨(h.fb b (hF.2 b k)).1, Nat.lt_of_lt_of_le (h.fb b (hF.2 b k)).2.1 F.size, fun e => (h.fb b (hF.2 b k)).2.2 (hsub b e)⟩,
    fun b k => by rw [hl.1]; exact h.nb b (hna b k), fun b k => h.lb b (by rw [hl.1] at k; exact k), ⟨hg.1, hg.2, by rw [hl.2.2]; exact h.good.2.2⟩, hst, ⟨hsm.1, hNm.2, hsm.2⟩, hcp⟩, (Mv.refl _ w).step (S' := allB t lo d') F (fun b hb => .inl (by simp at hb; simp [allB, ownB, hb])) (fun b hb => .inl (by
    simp only [allB, List.mem_append] at hb ⊢
    rcases hb with hb | hb | hb
    · exact .inl (hsub b hb)
    · exact .inr (.inl (hW.2 b hb))
    · exact .inr (.inr (hF.2 b hb))))⟩
/-! slices that are cut -/
def rest1 (a : Option Addr) (c : Nat) : Option Addr := if c = 1 then a else a.map (·.add 1)
theorem rest1_blk (a : Option Addr) (c : Nat) : ∀ b ∈ blkS (rest1 a c), b ∈ blkS a := by
  intro b hb
  unfold rest1 at hb
  split at hb
  · exact hb
  · cases a with
    | none => exact hb
    | some p => simpa [blkS, Addr.add] using hb
theorem U64s.rest {w : World} {a : Option Addr} {c : Nat} {l : List Int} (h : U64s w a l) (hc : l.length ≤ c) : U64s w (rest1 a c) l.tail := by
  refine ⟨⟨fun h0 => ?_⟩, fun x hx => h.rng x (List.mem_of_mem_tail hx), by have := h.len; simp; omega⟩
  simp only [List.length_tail] at h0
  obtain ⟨b, off, rfl, hb, hcell⟩ := h.row.get (by omega)
  refine ⟨b, off + 1, ?_, hb, fun i hi => ?_⟩
  · unfold rest1
    rw [if_neg (by omega)]
    simp [add_plain']
  · simp only [List.length_tail] at hi
    have := hcell (i + 1) (by omega)
    rw [show off + 1 + i = off + (i + 1) by omega, this]
    simp [u64F, at0, List.getElem?_tail]
theorem run_rest (a : Option Addr) (n c : Nat) (hn : 1 ≤ n) (w : World) : (Instr.slice 29 (.slice a n c) (some (.int .i64 1)) none none).run Try.prog w = .ok (.slice (rest1 a c) (n - 1) (c - 1)) w := by
  obtain ⟨i0, hi, hz0, hz1, hz2⟩ := info_parts' infoWord
  have hel : Try.prog.elem 29 = 35 := by kernel_rfl
  rw [run_slice_l w 29 a n c (by rw [hel]; exact Try.underlying29) .i64 1 (by omega) (by omega), hel]
  simp [sizeOf, typeInfo, hi, hz1, Result.andThen, sliced, rest1]
end Go.Proofs.Ytchkiacmiljopaa.MemP
