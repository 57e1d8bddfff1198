/-
  retire: New; the statements' own Run: contracts.
-/
import Derived.Test.YtchkiacmiljopaaRetT
import Derived.Laws.CopyOwn
import Derived.Laws.MakeOwn
namespace Go.Proofs.Ytchkiacmiljopaa.MemP
open Go.RowKit RefP CellP HazP
set_option linter.unusedVariables false
set_option linter.unusedSimpArgs false
theorem wpList_copy_fr {P : Program} {w : World} {ops : Array Oper} {rest : List Oper} {o : Oper} {a : Act} {Q : Exit → Act → World → Prop} (hgd : o.guard = none) (d s : Operand) (dT sT : TypeId)
    (ho : o.op = .call { callee := .builtin .copy, args := #[d, s], argTypes := #[dT, sT] }) (elem : TypeId) (hu : P.underlying dT = some (.slice elem)) (hsz : (P.info? elem).map (·.size) = some 1)
    (dp sp : Option Addr) (dLen dCap sLen sCap : Nat) (hd : a.eval d = .slice dp dLen dCap) (hs : a.eval s = .slice sp sLen sCap)
    (g off : Nat) (cur : List Value) (t : TypeId) (hg : w.heap[g]? = some (.cells cur.toArray t (0, 0))) (cs : List Value) (hn : cs.length = Nat.min sLen dLen)
    (hpos : 0 < cs.length → dp = some ⟨g, off, none⟩ ∧ ∃ ad, sp = some ad ∧ ∀ j v, cs[j]? = some v → w.cell? (ad.add j) = some v)
    (hfit : off + cs.length ≤ cur.length) (h1 : ∀ v ∈ cs, v.oneCell' = true)
    (h : ∀ w', Hid (w'.heap[g]? = some (.cells (splice cur off cs).toArray t (0, 0))) → Fr [g] w w' → wpList P ops Q rest (a.put o.dst (goInt cs.length)) w') :
    wpList P ops Q (o :: rest) a w := by
  by_cases h0 : cs.length = 0
  · obtain rfl : cs = [] := List.eq_nil_of_length_eq_zero h0
    refine wpList_copy_nothing hgd d s dT sT ho elem hu hsz dp sp dLen dCap sLen sCap hd hs (by simpa using hn.symm) ?_
    exact h w (show _ = _ by simpa [splice] using hg) (Fr.refl _ _)
  · obtain ⟨rfl, ad, rfl, hsrc⟩ := hpos (by omega)
    refine wpList_copy_own hgd d s dT sT ho elem hu hsz g off dLen dCap ad sLen sCap hd hs cur.toArray t hg cs hn hsrc (by simpa using hfit) h1 ?_
    exact h _ (show _ = _ by simpa [splice] using setRow_heap w g _ _ t _ hg) (Fr.row g _ (by simp))
set_option maxRecDepth 100000 in
set_option maxHeartbeats 1600000 in
theorem rtNew_raw (m lp a : Option Addr) (c : Nat) (W : List Int) (w : World) (U : U64s w a W) (hsm : W.length ≤ 60000) :
    Calls Try.prog 8 #[.pointer m, .pointer lp, .slice a W.length c] w fun e w' => e = .returned (.pointer (some ⟨w.heap.size + 1, 0, none⟩)) ∧ Blk w' (w.heap.size + 1) (rtZ m lp (.slice (some ⟨w.heap.size, 0, none⟩) W.length W.length) 0 0 (.slice none 0 0) (.slice none 0 0)) 77 ∧ U64s w' (some ⟨w.heap.size, 0, none⟩) W ∧ Below w.heap.size w w' ∧ w.heap.size + 2 ≤ w'.heap.size := by
  obtain ⟨i0, hi, hz0, hz1, hz2⟩ := info_parts' infoWord
  have hmk := fun W' => run_make_rowU (P := Try.prog) 29 35 i0 _ Try.underlying29 hi hz0 .i64 .i64 W.length W.length (Nat.le_refl _) (by rw [hz2]; omega) (by omega) W'
  have e0 : (Value.int .u64 0).cells = #[Value.int .u64 0] := by simp [Value.cells]
  rw [hz1, Nat.mul_one, e0] at hmk
  have hsz : (Try.prog.info? 35).map (·.size) = some 1 := by rw [hi]; simp [hz1]
  have hB1 : Below w.heap.size w (w.alloc (.cells (madeCells #[Value.int .u64 0] W.length) 35)) := (Below.refl _ w).alloc (Nat.le_refl _) _
  have N := Blk.new w (madeCells #[Value.int .u64 0] W.length) 35
  have hs1 : (w.alloc (.cells (madeCells #[Value.int .u64 0] W.length) 35)).heap.size = w.heap.size + 1 := by simp
  go_enter Try.func8, Try.ntmps8
  go_upto_region 2 with (fail)
  generalize w.alloc (.cells (madeCells #[Value.int .u64 0] W.length) 35) = w1 at hB1 N hs1 ⊢
  try simp only [hs1]
  have BT : Blk (w1.alloc (.cells (rtZ m lp (.slice (some ⟨w.heap.size, 0, none⟩) W.length W.length) 0 0 (.slice none 0 0) (.slice none 0 0)) 77)) (w.heap.size + 1) (rtZ m lp (.slice (some ⟨w.heap.size, 0, none⟩) W.length W.length) 0 0 (.slice none 0 0) (.slice none 0 0)) 77 := by
    have := Blk.new w1 (rtZ m lp (.slice (some ⟨w.heap.size, 0, none⟩) W.length W.length) 0 0 (.slice none 0 0) (.slice none 0 0)) 77
    rwa [hs1] at this
  have hb2 : Below w1.heap.size w1 (w1.alloc (.cells (rtZ m lp (.slice (some ⟨w.heap.size, 0, none⟩) W.length W.length) 0 0 (.slice none 0 0) (.slice none 0 0)) 77)) := (Below.refl _ w1).alloc (Nat.le_refl _) _
  have hB2 := below_push2 hB1 hb2 (Nat.le_refl _)
  have N2 := (N.below hb2).h
  have U2 := U.below hB2
  have hs2 : (w1.alloc (.cells (rtZ m lp (.slice (some ⟨w.heap.size, 0, none⟩) W.length W.length) 0 0 (.slice none 0 0) (.slice none 0 0)) 77)).heap.size = w.heap.size + 2 := by simp [hs1]
  generalize w1.alloc (.cells (rtZ m lp (.slice (some ⟨w.heap.size, 0, none⟩) W.length W.length) 0 0 (.slice none 0 0) (.slice none 0 0)) 77) = w2 at BT hB2 N2 U2 hs2 ⊢
  clear N hb2 hB1 hs1
  have c2 := BT.at 2 rfl
  have hml : (madeCells #[Value.int .u64 0] W.length).toList.length = (rowL W.length (u64F W)).length := by simp [rowL_length, size_madeCells]
  have hsrc : 0 < (rowL W.length (u64F W)).length → ∃ ad, a = some ad ∧ ∀ j v, (rowL W.length (u64F W))[j]? = some v → w2.cell? (ad.add j) = some v := by
    intro h0
    rw [rowL_length] at h0
    obtain ⟨b, off, e, _⟩ := U2.row.get h0
    refine ⟨_, e, ?_⟩
    have := U2.row
    rw [e] at this
    exact this.news
  have hnn : (rowL W.length (u64F W)).length = Nat.min W.length W.length := by simp [rowL_length]
  have hfit : 0 + (rowL W.length (u64F W)).length ≤ (madeCells #[Value.int .u64 0] W.length).toList.length := by simp [rowL_length, size_madeCells]
  have hone : ∀ v ∈ rowL W.length (u64F W), v.oneCell' = true := fun v hv => by obtain ⟨j, _, rfl⟩ := rowL_mem hv; rfl
  have N' : w2.heap[w.heap.size]? = some (.cells (madeCells #[Value.int .u64 0] W.length).toList.toArray 35 (0, 0)) := by simpa using N2
  go_wp2_with (refine wpList_copy_fr (o := ⟨some 20, _, _, _, _, _⟩) rfl (.tmp 18) (.tmp 19) 29 29 rfl 35 Try.underlying29 hsz _ _ _ _ _ _ (by rfl) (by rfl) w.heap.size 0 (madeCells #[Value.int .u64 0] W.length).toList 35 N' (rowL W.length (u64F W)) hnn (fun h0 => ⟨rfl, hsrc h0⟩) hfit hone ?_; intro w3 hg3 hF3)
  go_ret
  have hg := hg3.out
  rw [splice_all _ _ hml] at hg
  have K := World.ownsRow_rowU (base := w.heap.size) hg (Nat.le_refl _) (by unfold maxLen; omega)
  have KU : OwnsU w3 w.heap.size (some ⟨w.heap.size, 0, none⟩) W.length W := ⟨K, U.rng⟩
  exact ⟨rfl, hF3.blk BT (by simp), KU.words (by omega), hF3.below hB2 (Nat.le_refl _) (by simp), by have := hF3.size; omega⟩
theorem rtNew_any {base o lo : Nat} {r : Int} {A : Nat} {la : Option Addr} {lc : Nat} {l : List Int} (a : Option Addr) (c : Nat) (W : List Int) (w : World) (hL : ListAt w base lo r la lc l) (U : U64s w a W) (hsm : W.length ≤ 60000) (hg : ∀ x ∈ W, GoodW A x) (hgl : ∀ x ∈ l, GoodW A x) (hbw : base ≤ w.heap.size) :
    Calls Try.prog 8 #[.pointer (some ⟨o, 0, none⟩), .pointer (some ⟨lo, 0, none⟩), .slice a W.length c] w fun e w' => e = .returned (.pointer (some ⟨w.heap.size + 1, 0, none⟩)) ∧ RtAt w' base o (w.heap.size + 1) lo r A ⟨some ⟨w.heap.size, 0, none⟩, W.length, none, 0, none, 0, la, lc⟩ ⟨W, 0, 0, [], [], l⟩ ∧ Below w.heap.size w w' := by
  refine (rtNew_raw _ _ a c W w U hsm).mono ?_
  rintro e w' ⟨rfl, BT, UW, hB, hs⟩
  have hlo := hL.head.lt
  have hla : ∀ b ∈ blkS la, b < w.heap.size := fun b k => (hL.own.lt b (own_blkS k)).2
  refine ⟨rfl, ⟨BT, UW, U64s.nil _ _, OwnsU.nil _ _, hL.below hB, by omega, by omega, fun b k => ?_, fun b k => by simp [blkS] at k, fun b k => by simp [blkS] at k, fun b k e => ?_, ⟨hg, by simp, hgl⟩, by simp, ⟨hsm, by simp, by simp⟩, by simp⟩, hB⟩
  · obtain rfl : b = w.heap.size := by simpa [blkS] using k
    refine ⟨hbw, by omega, fun e => ?_⟩
    simp only [ownB, List.mem_cons, List.mem_append, blkS, List.not_mem_nil, false_or] at e
    rcases e with e | e | e
    · omega
    · omega
    · have := hla w.heap.size (by simpa [blkS] using e); omega
  · have := hla b k; omega
end Go.Proofs.Ytchkiacmiljopaa.MemP
