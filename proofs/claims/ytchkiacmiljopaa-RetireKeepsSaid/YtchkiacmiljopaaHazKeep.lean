/-
  Chapter 27: Add, Keep, Words.
-/
import Derived.Test.YtchkiacmiljopaaHazList
namespace Go.Proofs.Ytchkiacmiljopaa.HazP
open Go.RowKit RefP
set_option linter.unusedVariables false
set_option linter.unusedSimpArgs false

/-- all stays but block o and the block of a -/
structure But (w w' : World) (o : Nat) (a : Option Addr) : Prop where
  os : w'.os = w.os
  tape : w'.tape = w.tape
  output : w'.output = w.output
  size : w.heap.size ≤ w'.heap.size
  block : ∀ k, k < w.heap.size → k ≠ o → (∀ p, a = some p → p.block ≠ k) → w'.heap[k]? = w.heap[k]?
theorem But.of_below {w w' : World} (h : Below w.heap.size w w') (o : Nat) (a : Option Addr) : But w w' o a := ⟨h.os, h.tape, h.output, h.size, fun k hk _ _ => h.block k hk⟩
theorem But.trans {w w1 w2 : World} {o : Nat} {a : Option Addr} (h : But w w1 o a) (k : But w1 w2 o a) : But w w2 o a :=
  ⟨k.os.trans h.os, k.tape.trans h.tape, k.output.trans h.output, Nat.le_trans h.size k.size, fun i hi h1 h2 => (k.block i (Nat.lt_of_lt_of_le hi h.size) h1 h2).trans (h.block i hi h1 h2)⟩
theorem But.of_grown {w w' : World} {a : Option Addr} {n c : Nat} (h : w.grownBy w' (Value.slice a n c).ownBlock) (o : Nat) : But w w' o a :=
  ⟨h.os, h.tape, h.output, h.size, fun k hk _ h2 => h.block k hk (by
    cases a with
    | none => simp [Value.ownBlock]
    | some p => simp only [Value.ownBlock, ne_eq, Option.some.injEq]; exact fun e => h2 p rfl e.symm)⟩
theorem But.set (w : World) (o i : Nat) (v : Value) (a : Option Addr) : But w (w.setCell ⟨o, i, none⟩ v) o a :=
  ⟨rfl, rfl, rfl, by simp, fun k hk h1 _ => Below.heap_setCell w ⟨o, i, none⟩ v k h1⟩
theorem But.below {B : Nat} {w0 w w' : World} {o : Nat} {a : Option Addr} (k : But w w' o a) (h : Below B w0 w) (hB : B ≤ w0.heap.size) (ho : B ≤ o) (ha : ∀ p, a = some p → B ≤ p.block) : Below B w0 w' :=
  h.trans ⟨k.os, k.tape, k.output, k.size, fun i hi => k.block i (Nat.lt_of_lt_of_le hi (Nat.le_trans hB h.size)) (by omega) (fun p e => by have := ha p e; omega)⟩
theorem But.words {w w' : World} {o : Nat} {a x : Option Addr} {l : List Int} (k : But w w' o a) (h : U64s w x l) (h1 : ∀ p, x = some p → p.block ≠ o ∧ ∀ q, a = some q → q.block ≠ p.block) : U64s w' x l := by
  refine ⟨⟨fun h0 => ?_⟩, h.rng, h.len⟩
  obtain ⟨b, off, rfl, hb, hc⟩ := h.row.get h0
  obtain ⟨e1, e2⟩ := h1 _ rfl
  refine ⟨b, off, rfl, Nat.lt_of_lt_of_le hb k.size, fun i hi => ?_⟩
  rw [← hc i hi]
  exact World.cell?_of_block (k.block b hb e1 (fun q e => e2 q e))

/-- the row of a list behind a change is the old one's, or new -/
def Moved (w : World) (a a' : Option Addr) : Prop := ∀ p, a' = some p → (∃ q, a = some q ∧ q.block = p.block) ∨ w.heap.size ≤ p.block

set_option maxRecDepth 100000 in
set_option maxHeartbeats 800000 in
theorem add_yes (w : World) (base o : Nat) (r : Int) (a : Option Addr) (c : Nat) (l : List Int) (x : Int) (h : ListAt w base o r a c l) (hlt : (l.length : Int) < r) (hx : 0 ≤ x ∧ x ≤ 18446744073709551615) (hbase : base ≤ w.heap.size) :
    Calls Try.prog 28 #[.pointer (some ⟨o, 0, none⟩), .int .u64 x] w fun e w' => (∃ a' c', e = .returned (.bool true) ∧ ListAt w' base o r a' c' (l ++ [x]) ∧ Moved w a a') ∧ But w w' o a := by
  have hf := full_any w base o r a c l h
  rw [show decide (r ≤ (l.length : Int)) = false by simp; omega] at hf
  have hroom := h.room
  go_enter Try.func28, Try.ntmps28
  go_wp2_with fail
  refine hf.mono ?_
  rintro e w1 ⟨rfl, hb1⟩
  have H := h.below hb1
  have hs1 := hb1.size
  obtain ⟨g, cap, w2, A⟩ := addOne base H.own x hx (by omega) (by omega)
  have hrun := Lib.hid A.run
  have hgo : g ≠ o := by
    rcases A.at' with e | e
    · cases ha : a with
      | none => rw [ha] at e; cases e
      | some p =>
        rw [ha] at e
        simp only [Value.ownBlock, Option.some.injEq] at e
        rw [← e]; exact h.ne p ha
    · have := H.head.lt
      simp at e; omega
  have hmv : Moved w a (some ⟨g, 0, none⟩) := by
    intro p hp
    simp only [Option.some.injEq] at hp
    subst hp
    rcases A.at' with e | e
    · cases ha : a with
      | none => rw [ha] at e; cases e
      | some q =>
        rw [ha] at e
        simp only [Value.ownBlock, Option.some.injEq] at e
        exact .inl ⟨q, rfl, e⟩
    · right
      simp at e
      show w.heap.size ≤ g
      omega
  have HO : Blk w2 o #[.int .i64 r, .slice a l.length c] 97 := (H.head.alloc _).grown A.grown (by
    cases ha : a with
    | none => simp [Value.ownBlock]
    | some q => simp only [Value.ownBlock, ne_eq, Option.some.injEq]; exact fun e => h.ne q ha e.symm)
  have L2 : ListAt (w2.setCell ⟨o, 1, none⟩ (.slice (some ⟨g, 0, none⟩) (l.length + 1) cap)) base o r (some ⟨g, 0, none⟩) cap (l ++ [x]) := by
    refine ⟨?_, A.own.far _ _ (by simpa [Value.ownBlock] using hgo), h.ge, by simpa using hgo, h.room, by simp; omega⟩
    have := HO.set 1 (.slice (some ⟨g, 0, none⟩) (l.length + 1) cap)
    simpa using this
  have B2 : But w (w2.setCell ⟨o, 1, none⟩ (.slice (some ⟨g, 0, none⟩) (l.length + 1) cap)) o a :=
    (((But.of_below hb1 o a).trans (But.of_below ((Below.refl _ w1).alloc (Nat.le_refl _) _) o a)).trans (But.of_grown A.grown o)).trans (But.set _ _ _ _ _)
  have c1 := H.head.at 1 rfl
  have f1 := HO.free 1
  have e1 := HO.at 1 rfl
  clear A HO H h
  go_wp2_with (at_builtin; refine wpList_append_run hrun.out rfl (by rfl) (by rfl) (by rfl) ?_)
  go_ret
  exact ⟨⟨_, cap, rfl, L2, hmv⟩, B2⟩
theorem add_no (w : World) (base o : Nat) (r : Int) (a : Option Addr) (c : Nat) (l : List Int) (x : Int) (h : ListAt w base o r a c l) (hlt : r ≤ (l.length : Int)) :
    Calls Try.prog 28 #[.pointer (some ⟨o, 0, none⟩), .int .u64 x] w fun e w' => e = .returned (.bool false) ∧ Below w.heap.size w w' := by
  have hf := full_any w base o r a c l h
  rw [show decide (r ≤ (l.length : Int)) = true by simpa using hlt] at hf
  go_enter Try.func28, Try.ntmps28
  go_wp2_with fail
  refine hf.mono ?_
  rintro e w1 ⟨rfl, hb1⟩
  go_wp2_with fail
  go_ret
  exact ⟨rfl, hb1⟩
theorem add_nil (w : World) (x : Int) : Calls Try.prog 28 #[.pointer none, .int .u64 x] w fun e w' => e = .returned (.bool false) ∧ Below w.heap.size w w' := by
  go_enter Try.func28, Try.ntmps28
  go_wp2_with fail
  refine (full_nil w).mono ?_
  rintro e w1 ⟨rfl, hb1⟩
  go_wp2_with fail
  go_ret
  exact ⟨rfl, hb1⟩
theorem add_zero (w : World) (o : Nat) (x : Int) (B : Blk w o #[.int .i64 0, .slice none 0 0] 97) : Calls Try.prog 28 #[.pointer (some ⟨o, 0, none⟩), .int .u64 x] w fun e w' => e = .returned (.bool false) ∧ Below w.heap.size w w' := by
  go_enter Try.func28, Try.ntmps28
  go_wp2_with fail
  refine (full_zero w o 0 B).mono ?_
  rintro e w1 ⟨rfl, hb1⟩
  go_wp2_with fail
  go_ret
  exact ⟨rfl, hb1⟩

theorem keep_nil (w : World) (b : Option Addr) (n d : Nat) : Calls Try.prog 47 #[.pointer none, .slice b n d] w fun e w' => e = .returned (.bool false) ∧ w = w' := by
  go_enter Try.func47, Try.ntmps47
  go_wp2_with fail
  go_ret
  exact ⟨rfl, rfl⟩
theorem keep_zero (w : World) (o : Nat) (b : Option Addr) (n d : Nat) (B : Blk w o #[.int .i64 0, .slice none 0 0] 97) : Calls Try.prog 47 #[.pointer (some ⟨o, 0, none⟩), .slice b n d] w fun e w' => e = .returned (.bool false) ∧ w = w' := by
  have c0 := B.at 0 rfl
  go_enter Try.func47, Try.ntmps47
  go_wp2_with fail
  go_ret
  exact ⟨rfl, rfl⟩
theorem keep_no (w : World) (base o : Nat) (r : Int) (a : Option Addr) (c : Nat) (l : List Int) (b : Option Addr) (n d : Nat) (h : ListAt w base o r a c l) (hn : r < (n : Int)) :
    Calls Try.prog 47 #[.pointer (some ⟨o, 0, none⟩), .slice b n d] w fun e w' => e = .returned (.bool false) ∧ w = w' := by
  have c0 := h.head.at 0 rfl
  have hroom := h.room
  have q0 : (r == 0) = false := by simp; omega
  have q1 : decide (r < (n : Int)) = true := by simpa using hn
  go_enter Try.func47, Try.ntmps47
  go_wp2_with fail
  go_ret
  exact ⟨rfl, rfl⟩
set_option maxHeartbeats 800000 in
theorem keep_yes (w : World) (base o : Nat) (r : Int) (a : Option Addr) (c : Nat) (l : List Int) (b : Option Addr) (d : Nat) (m : List Int) (h : ListAt w base o r a c l) (hm : U64s w b m) (hn : (m.length : Int) ≤ r) (hbase : base ≤ w.heap.size) :
    Calls Try.prog 47 #[.pointer (some ⟨o, 0, none⟩), .slice b m.length d] w fun e w' => (∃ a' c', e = .returned (.bool true) ∧ ListAt w' base o r a' c' m ∧ Moved w none a') ∧ But w w' o none := by
  have c0 := h.head.at 0 rfl
  have hroom := h.room
  have q0 : (r == 0) = false := by simp; omega
  have q1 : decide (r < (m.length : Int)) = false := by simp; omega
  go_enter Try.func47, Try.ntmps47
  go_wp2_with fail
  refine (sclone_any _ _ _ _ hm (by omega)).mono ?_
  rintro e w1 ⟨a', c', rfl, O, hb1⟩
  have H := h.below hb1
  have f1 := H.head.free 1
  have e1 := H.head.at 1 rfl
  have hge : ∀ p, a' = some p → w.heap.size ≤ p.block := fun p e => (O.lt p.block (by rw [e]; rfl)).1
  have hlt := h.head.lt
  have L2 : ListAt (w1.setCell ⟨o, 1, none⟩ (.slice a' m.length c')) base o r a' c' m := by
    refine ⟨?_, (O.lower hbase).far _ _ ?_, h.ge, fun p e => by have := hge p e; omega, h.room, hn⟩
    · have := H.head.set 1 (.slice a' m.length c')
      simpa using this
    · cases ha : a' with
      | none => simp [Value.ownBlock]
      | some q =>
        have := hge q ha
        simp only [Value.ownBlock, ne_eq, Option.some.injEq]
        omega
  have B2 : But w (w1.setCell ⟨o, 1, none⟩ (.slice a' m.length c')) o none := (But.of_below hb1 o none).trans (But.set _ _ _ _ _)
  clear H h O
  go_wp2_with fail
  go_ret
  exact ⟨⟨a', c', rfl, L2, fun p e => .inr (hge p e)⟩, B2⟩

theorem words_nil (w : World) : Calls Try.prog 15 #[.pointer none] w fun e w' => e = .returned (.slice none 0 0) ∧ w = w' := by
  go_enter Try.func15, Try.ntmps15
  go_wp2_with fail
  go_ret
  exact ⟨rfl, rfl⟩
theorem run_make_rowU {P : Program} (t e : TypeId) (i : TypeInfo) (z : Value) (ht : P.underlying t = some (.slice e)) (hi : P.info? e = some i) (hz : i.zero = some z)
    (kl kc : IntKind) (n c : Nat) (hnc : n ≤ c) (hbytes : i.bytes * c ≤ 281474976710656) (h63 : c ≤ 9223372036854775807) (w : World) :
    (Instr.makeSlice t (.int kl (n : Int)) (.int kc (c : Int))).run P w = .ok (.slice (some ⟨w.heap.size, 0, none⟩) n c) (w.alloc (.cells (madeCells z.cells (c * i.size)) e)) := by
  have hb : (i.bytes : Int) * (c : Int) ≤ 281474976710656 := by
    have h : ((i.bytes * c : Nat) : Int) ≤ 281474976710656 := by omega
    rwa [Int.natCast_mul] at h
  have hr := run_make (P := P) w t e i z ht hi hz kl kc n c (by omega) (by omega) hb (by omega)
  simp only [Int.toNat_natCast] at hr
  exact hr
theorem World.ownsRow_rowU {w : World} {base g : Nat} {l : List Int} (h : w.heap[g]? = some (.cells (rowL l.length (u64F l)).toArray 35 (0, 0))) (hb : base ≤ g) (hm : l.length ≤ maxLen) : Owns w base 35 1 (some ⟨g, 0, none⟩) l.length l.length (u64F l) := by
  refine ⟨by simp [rowL_length], .inr ⟨g, l.length, _, rfl, hb, h, Nat.le_refl _, hm, by simp [rowL_length], ?_⟩⟩
  rw [Nat.mul_one]
  simp [List.take_of_length_le, rowL_length]
theorem splice_all {α : Type} (L cs : List α) (h : L.length = cs.length) : splice L 0 cs = cs := by simp [splice, ← h]
set_option maxRecDepth 100000 in
set_option maxHeartbeats 800000 in
theorem words_any (w : World) (o : Nat) (r : Int) (a : Option Addr) (c : Nat) (l : List Int) (B : Blk w o #[.int .i64 r, .slice a l.length c] 97) (U : U64s w a l) (hsm : l.length ≤ 60000) :
    Calls Try.prog 15 #[.pointer (some ⟨o, 0, none⟩)] w (WordsAt w l) := by
  obtain ⟨i0, hi, hz0, hz1, hz2⟩ := info_parts' infoWord
  have hmk := fun W => run_make_rowU (P := Try.prog) 29 35 i0 _ Try.underlying29 hi hz0 .i64 .i64 l.length l.length (Nat.le_refl _) (by rw [hz2]; omega) (by omega) W
  have e0 : (Value.int .u64 0).cells = #[Value.int .u64 0] := by simp [Value.cells]
  rw [hz1, Nat.mul_one, e0] at hmk
  have c1 := B.at 1 rfl
  have hsz : (Try.prog.info? 35).map (·.size) = some 1 := by rw [hi]; simp [hz1]
  have BB := B.alloc (.cells (madeCells #[Value.int .u64 0] l.length) 35)
  have UU := U.below ((Below.refl _ w).alloc (Nat.le_refl _) (.cells (madeCells #[Value.int .u64 0] l.length) 35))
  have d1 := BB.at 1 rfl
  have N := (Blk.new w (madeCells #[Value.int .u64 0] l.length) 35).h
  have hml : (madeCells #[Value.int .u64 0] l.length).toList.length = (rowL l.length (u64F l)).length := by simp [rowL_length, size_madeCells]
  have hB0 : Below w.heap.size w (w.alloc (.cells (madeCells #[Value.int .u64 0] l.length) 35)) := (Below.refl _ w).alloc (Nat.le_refl _) _
  have hsrc : 0 < (rowL l.length (u64F l)).length → ∃ ad, a = some ad ∧ ∀ j v, (rowL l.length (u64F l))[j]? = some v → (w.alloc (.cells (madeCells #[Value.int .u64 0] l.length) 35)).cell? (ad.add j) = some v := by
    intro h0
    rw [rowL_length] at h0
    obtain ⟨b, off, e, _⟩ := UU.row.get h0
    refine ⟨_, e, ?_⟩
    have := UU.row
    rw [e] at this
    exact this.news
  have hnn : (rowL l.length (u64F l)).length = Nat.min l.length l.length := by simp [rowL_length]
  have hfit : 0 + (rowL l.length (u64F l)).length ≤ (madeCells #[Value.int .u64 0] l.length).toList.length := by simp [rowL_length, size_madeCells]
  have hone : ∀ v ∈ rowL l.length (u64F l), v.oneCell' = true := fun v hv => by obtain ⟨j, _, rfl⟩ := rowL_mem hv; rfl
  have N' : (w.alloc (.cells (madeCells #[Value.int .u64 0] l.length) 35)).heap[w.heap.size]? = some (.cells (madeCells #[Value.int .u64 0] l.length).toList.toArray 35 (0, 0)) := by simpa using N
  go_enter Try.func15, Try.ntmps15
  go_wp2_with (refine wpList_copy_splice (o := ⟨some 17, _, _, _, _, _⟩) rfl (.tmp 12) (.tmp 16) 29 29 rfl 35 Try.underlying29 hsz _ _ _ _ _ _ (by rfl) (by rfl) w.heap.size 0 (madeCells #[Value.int .u64 0] l.length).toList 35 N' (rowL l.length (u64F l)) hnn (fun h0 => ⟨rfl, hsrc h0⟩) hfit hone w.heap.size w hB0 (Nat.le_refl _) ?_; intro w2 hg2 hb2)
  go_ret
  have hg3 := hg2.out
  rw [splice_all _ _ hml] at hg3
  have K := World.ownsRow_rowU (base := w.heap.size) hg3 (Nat.le_refl _) (by unfold maxLen; omega)
  exact ⟨_, _, rfl, ⟨K, U.rng⟩, hb2⟩
end Go.Proofs.Ytchkiacmiljopaa.HazP
