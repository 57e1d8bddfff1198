/-
  Accesses of cells: contracts of clear, write and Do (load, store, write by version).
-/
import Derived.Test.YtfnjggefinkcaaaMemAtW
import Derived.Deep.MidRow
namespace Go.Proofs.Ytfnjggefinkcaaa.MemP
open Go.RowKit RefP CellP
set_option linter.unusedVariables false
set_option linter.unusedSimpArgs false

/-- blocks behind a write of a use's cell -/
def clearL (bs : List (List Value)) (A : Nat) (c : Int) : List (List Value) := if (A : Int) ≤ c ∧ c < 2 * A then bs.set (c - A).toNat zb else bs
theorem clearL_no {bs : List (List Value)} {A : Nat} {c : Int} (h : ¬ ((A : Int) ≤ c ∧ c < 2 * A)) : clearL bs A c = bs := if_neg h
theorem clearL_yes {bs : List (List Value)} {A : Nat} {c : Int} (h : (A : Int) ≤ c ∧ c < 2 * A) : clearL bs A c = bs.set (c - A).toNat zb := if_pos h
theorem clearL_length (bs : List (List Value)) (A : Nat) (c : Int) : (clearL bs A c).length = bs.length := by unfold clearL; split <;> simp
theorem MemAt.cleared {w : World} {o oc g gb gr A T : Nat} {L : List (Int × Int)} {bs rs : List (List Value)} (h : MemAt w o oc g gb gr A T L bs rs) (k : Nat) (hk : k < A) :
    MemAt (put17 w gb k (.int .i64 0) (.int .i64 0) (.string ⟨#[]⟩) (.string ⟨#[]⟩) (.bool false) (.int .i64 0) (.slice none 0 0) (.slice none 0 0) (.slice none 0 0) (.int .i64 0) (.int .i64 0) (.string ⟨#[]⟩) (.int .u64 0) (.slice none 0 0) (.slice none 0 0) (.slice none 0 0) (.slice none 0 0)) o oc g gb gr A T L (bs.set k zb) rs ∧
    Fr [gb] w (put17 w gb k (.int .i64 0) (.int .i64 0) (.string ⟨#[]⟩) (.string ⟨#[]⟩) (.bool false) (.int .i64 0) (.slice none 0 0) (.slice none 0 0) (.slice none 0 0) (.int .i64 0) (.int .i64 0) (.string ⟨#[]⟩) (.int .u64 0) (.slice none 0 0) (.slice none 0 0) (.slice none 0 0) (.slice none 0 0)) := by
  have hB := blk_put17 h.blocks k (by rw [h.lb]; exact hk) (.int .i64 0) (.int .i64 0) (.string ⟨#[]⟩) (.string ⟨#[]⟩) (.bool false) (.int .i64 0) (.slice none 0 0) (.slice none 0 0) (.slice none 0 0) (.int .i64 0) (.int .i64 0) (.string ⟨#[]⟩) (.int .u64 0) (.slice none 0 0) (.slice none 0 0) (.slice none 0 0) (.slice none 0 0)
  have hF := fr_put17 w gb k (.int .i64 0) (.int .i64 0) (.string ⟨#[]⟩) (.string ⟨#[]⟩) (.bool false) (.int .i64 0) (.slice none 0 0) (.slice none 0 0) (.slice none 0 0) (.int .i64 0) (.int .i64 0) (.string ⟨#[]⟩) (.int .u64 0) (.slice none 0 0) (.slice none 0 0) (.slice none 0 0) (.slice none 0 0)
  have n := h.ne
  refine ⟨⟨hF.blk h.head (by simp; omega), ⟨hF.blk h.cells.head (by simp; omega), hF.blk h.cells.rows (by simp; omega), h.cells.ne, h.cells.rng, h.cells.len⟩, hB, hF.blk h.records (by simp; omega), h.len, by simpa using h.lb, h.lr, h.a1, h.t1, h.ne⟩, hF⟩
set_option maxRecDepth 100000 in
set_option maxHeartbeats 3200000 in
theorem clear_any {o oc g gb gr A T : Nat} {L : List (Int × Int)} {bs rs : List (List Value)} (c : Int) (w : World) (h : MemAt w o oc g gb gr A T L bs rs) (c0 : 0 ≤ c) (c1 : c ≤ 20000) :
    Calls Try.prog 52 #[.pointer (some ⟨o, 0, none⟩), .int .i64 c] w fun e w' => e = .returned (.tuple #[]) ∧ MemAt w' o oc g gb gr A T L (clearL bs A c) rs ∧ Fr [gb] w w' := by
  have hA := h.a1
  have d2 : w.cell? ⟨o, 2, none⟩ = some (.int .i64 A) := h.head.at 2 rfl
  have d9 : w.cell? ⟨o, 9, none⟩ = some (.slice (some ⟨gb, 0, none⟩) A A) := h.head.at 9 rfl
  obtain ⟨d, hd⟩ : ∃ d, d = c - (A : Int) := ⟨_, rfl⟩
  have hw : IntKind.i64.wrap (c - (A : Int)) = d := by rw [IntKind.wrap_i64]; omega
  by_cases h1 : d < 0
  · have q1 : decide (0 ≤ d) = false := by simp; omega
    have hL := clearL_no (bs := bs) (show ¬ ((A : Int) ≤ c ∧ c < 2 * A) by omega)
    clear h1 hd
    go_enter Try.func52, Try.ntmps52
    go_wp2_with fail
    go_end0
    exact ⟨rfl, by rw [hL]; exact h, Fr.refl _ _⟩
  · have q1 : decide (0 ≤ d) = true := by simp; omega
    by_cases h2 : d < A
    · have q2 : decide (d < (A : Int)) = true := by simpa using h2
      have hL := clearL_yes (bs := bs) (show (A : Int) ≤ c ∧ c < 2 * A by omega)
      obtain ⟨k, hk⟩ := Int.eq_ofNat_of_zero_le (show 0 ≤ d by omega)
      have hkA : k < A := by omega
      have hkA' : (k : Int) < (A : Int) := by omega
      rw [← hd, hk, Int.toNat_natCast] at hL
      subst hk
      obtain ⟨hM, hF⟩ := h.cleared k hkA
      have hkl : k < bs.length := by rw [h.lb]; exact hkA
      have hB := h.blocks
      have e0 := hB.at (k * 17) (raw_at _ k 0 hkl (by omega))
      have f0 := hB.free (k * 17)
      have e1 := hB.at (k * 17 + 1) (raw_at _ k 1 hkl (by omega))
      have f1 := hB.free (k * 17 + 1)
      have e2 := hB.at (k * 17 + 2) (raw_at _ k 2 hkl (by omega))
      have f2 := hB.free (k * 17 + 2)
      have e3 := hB.at (k * 17 + 3) (raw_at _ k 3 hkl (by omega))
      have f3 := hB.free (k * 17 + 3)
      have e4 := hB.at (k * 17 + 4) (raw_at _ k 4 hkl (by omega))
      have f4 := hB.free (k * 17 + 4)
      have e5 := hB.at (k * 17 + 5) (raw_at _ k 5 hkl (by omega))
      have f5 := hB.free (k * 17 + 5)
      have e6 := hB.at (k * 17 + 6) (raw_at _ k 6 hkl (by omega))
      have f6 := hB.free (k * 17 + 6)
      have e7 := hB.at (k * 17 + 7) (raw_at _ k 7 hkl (by omega))
      have f7 := hB.free (k * 17 + 7)
      have e8 := hB.at (k * 17 + 8) (raw_at _ k 8 hkl (by omega))
      have f8 := hB.free (k * 17 + 8)
      have e9 := hB.at (k * 17 + 9) (raw_at _ k 9 hkl (by omega))
      have f9 := hB.free (k * 17 + 9)
      have e10 := hB.at (k * 17 + 10) (raw_at _ k 10 hkl (by omega))
      have f10 := hB.free (k * 17 + 10)
      have e11 := hB.at (k * 17 + 11) (raw_at _ k 11 hkl (by omega))
      have f11 := hB.free (k * 17 + 11)
      have e12 := hB.at (k * 17 + 12) (raw_at _ k 12 hkl (by omega))
      have f12 := hB.free (k * 17 + 12)
      have e13 := hB.at (k * 17 + 13) (raw_at _ k 13 hkl (by omega))
      have f13 := hB.free (k * 17 + 13)
      have e14 := hB.at (k * 17 + 14) (raw_at _ k 14 hkl (by omega))
      have f14 := hB.free (k * 17 + 14)
      have e15 := hB.at (k * 17 + 15) (raw_at _ k 15 hkl (by omega))
      have f15 := hB.free (k * 17 + 15)
      have e16 := hB.at (k * 17 + 16) (raw_at _ k 16 hkl (by omega))
      have f16 := hB.free (k * 17 + 16)
      clear h1 h2 hd
      go_enter Try.func52, Try.ntmps52
      go_wp2_with fail
      go_end0
      exact ⟨rfl, by rw [hL]; exact hM, hF⟩
    · have q2 : decide (d < (A : Int)) = false := by simpa using h2
      have hL := clearL_no (bs := bs) (show ¬ ((A : Int) ≤ c ∧ c < 2 * A) by omega)
      clear h1 h2 hd
      go_enter Try.func52, Try.ntmps52
      go_wp2_with fail
      go_end0
      exact ⟨rfl, by rw [hL]; exact h, Fr.refl _ _⟩
theorem MemAt.celled {w w' : World} {o oc g gb gr A T : Nat} {L L' : List (Int × Int)} {bs rs : List (List Value)} (h : MemAt w o oc g gb gr A T L bs rs) (hg : w.grownBy w' (some g)) (hC : CellsAt w' oc g L') (hl : L'.length = L.length) : MemAt w' o oc g gb gr A T L' bs rs := by
  have n := h.ne
  have hF : Fr [g] w w' := Fr.of_grown hg (by simp)
  exact ⟨hF.blk h.head (by simp; omega), hC, hF.blk h.blocks (by simp; omega), hF.blk h.records (by simp; omega), by rw [hl]; exact h.len, h.lb, h.lr, h.a1, h.t1, h.ne⟩
def storeB (L : List (Int × Int)) (bs : List (List Value)) (A : Nat) (i : Int) : List (List Value) := if inB L.length i = true then clearL bs A i else bs
def casBs (L : List (Int × Int)) (bs : List (List Value)) (A : Nat) (i ver : Int) : List (List Value) := if casB L i ver = true then clearL bs A i else bs
theorem storeB_yes {L : List (Int × Int)} (bs : List (List Value)) (A : Nat) {i : Int} (h : inB L.length i = true) : storeB L bs A i = clearL bs A i := if_pos h
theorem storeB_no {L : List (Int × Int)} (bs : List (List Value)) (A : Nat) {i : Int} (h : inB L.length i = false) : storeB L bs A i = bs := if_neg (by simp [h])
theorem casBs_yes {L : List (Int × Int)} (bs : List (List Value)) (A : Nat) {i ver : Int} (h : casB L i ver = true) : casBs L bs A i ver = clearL bs A i := if_pos h
theorem casBs_no {L : List (Int × Int)} (bs : List (List Value)) (A : Nat) {i ver : Int} (h : casB L i ver = false) : casBs L bs A i ver = bs := if_neg (by simp [h])
theorem casB_in {L : List (Int × Int)} {i ver : Int} (h : casB L i ver = true) : inB L.length i = true := by
  simp only [casB, Bool.and_eq_true] at h; exact h.1
theorem fr_two {g gb : Nat} {w w1 w2 : World} (h : w.grownBy w1 (some g)) (k : Fr [gb] w1 w2) : Fr [g, gb] w w2 :=
  ((Fr.of_grown (S := [g]) h (by simp)).more (by simp)).trans (k.more (by simp))
theorem MemAt.off {w w' : World} {S : List Nat} {o oc g gb gr A T : Nat} {L : List (Int × Int)} {bs rs : List (List Value)} (h : MemAt w o oc g gb gr A T L bs rs) (F : Fr S w w') (hn : o ∉ S ∧ oc ∉ S ∧ g ∉ S ∧ gb ∉ S ∧ gr ∉ S) : MemAt w' o oc g gb gr A T L bs rs :=
  ⟨F.blk h.head hn.1, ⟨F.blk h.cells.head hn.2.1, F.blk h.cells.rows hn.2.2.1, h.cells.ne, h.cells.rng, h.cells.len⟩, F.blk h.blocks hn.2.2.2.1, F.blk h.records hn.2.2.2.2, h.len, h.lb, h.lr, h.a1, h.t1, h.ne⟩
theorem Blk.row {w : World} {b : Nat} {cs : Array Value} {T : TypeId} (k : Blk w b cs T) (cs' : Array Value) : Blk (w.setRow b cs') b cs' T := by
  have hlt := k.lt
  have h' : w.heap[b] = .cells cs T (0, 0) := by simpa [Array.getElem?_eq_getElem hlt] using k.h
  refine ⟨?_⟩
  show (w.heap.modify b _)[b]? = _
  rw [Array.getElem?_eq_getElem (by simpa using hlt), Array.getElem_modify_self, h']
theorem Fr.row {S : List Nat} {w : World} (b : Nat) (cs' : Array Value) (hb : b ∈ S) : Fr S w (w.setRow b cs') := by
  have h := below_setRow (Below.refl b w) (Nat.le_refl _) cs'
  refine ⟨h.os, h.tape, h.output, h.size, fun k hk hn => ?_⟩
  have hne : k ≠ b := fun e => hn (e ▸ hb)
  show (w.heap.modify b _)[k]? = _
  rw [Array.getElem?_modify, if_neg (fun e => hne e.symm)]
/-- blocks that were not there do not count -/
theorem Fr.less {w w' : World} {g gb : Nat} (h : Fr [g, gb, w.heap.size + 1] w w') : Fr [g, gb] w w' :=
  ⟨h.os, h.tape, h.output, h.size, fun b hb hn => h.block b hb (by simp at hn ⊢; omega)⟩
set_option maxRecDepth 100000 in
set_option maxHeartbeats 6400000 in
theorem write_store {o oc g gb gr A T : Nat} {L : List (Int × Int)} {bs rs : List (List Value)} (i ver word : Int) (c4 c5 c6 c7 c8 c9 c10 c11 c12 c13 c14 c15 c16 c17 c18 c19 c20 c21 c22 c23 c24 c25 : Value) (w : World) (h : MemAt w o oc g gb gr A T L bs rs) (x0 : 0 ≤ word) (x1 : word ≤ 18446744073709551615) :
    Calls Try.prog 32 #[.pointer (some ⟨o, 0, none⟩), .agg #[.int .i64 2, .int .i64 i, .int .u64 ver, .int .u64 word, c4, c5, c6, c7, c8, c9, c10, c11, c12, c13, c14, c15, c16, c17, c18, c19, c20, c21, c22, c23, c24, c25]] w fun e w' => e = .returned (.agg #[.bool (inB L.length i), .int .u64 0, .int .u64 0, .int .i64 0, .int .i64 0, .string ⟨#[]⟩, .string ⟨#[]⟩, .bool false, .int .i64 0, .slice none 0 0, .slice none 0 0, .slice none 0 0, .int .i64 0, .int .i64 0, .string ⟨#[]⟩, .int .u64 0, .slice none 0 0, .slice none 0 0, .slice none 0 0, .slice none 0 0, .int .i64 0, .string ⟨#[]⟩, .string ⟨#[]⟩, .int .u64 0, .int .i64 0]) ∧ MemAt w' o oc g gb gr A T (storeL L i word) (storeB L bs A i) rs ∧ Fr [g, gb] w w' := by
  have hb2 : Below w.heap.size w ((w.alloc (.cells #[.int .i64 2, .int .i64 i, .int .u64 ver, .int .u64 word, c4, c5, c6, c7, c8, c9, c10, c11, c12, c13, c14, c15, c16, c17, c18, c19, c20, c21, c22, c23, c24, c25] 39)).alloc (.cells #[.bool false, .int .u64 0, .int .u64 0, .int .i64 0, .int .i64 0, .string ⟨#[]⟩, .string ⟨#[]⟩, .bool false, .int .i64 0, .slice none 0 0, .slice none 0 0, .slice none 0 0, .int .i64 0, .int .i64 0, .string ⟨#[]⟩, .int .u64 0, .slice none 0 0, .slice none 0 0, .slice none 0 0, .slice none 0 0, .int .i64 0, .string ⟨#[]⟩, .string ⟨#[]⟩, .int .u64 0, .int .i64 0] 50)) := by (repeat (first | exact Below.refl _ _ | assumption | refine below_alloc2 ?_ (by first | exact Nat.le_refl _ | omega) _ | refine Below.drew ?_ | refine below_drewN ?_ _ | refine below_push2 ?_ ‹_› (by first | exact Nat.le_refl _ | omega) | refine Below.setCell ?_ (by first | (simp; done) | (simp; omega) | omega) _))
  have h2 := h.below hb2
  have BX := (Blk.new w #[.int .i64 2, .int .i64 i, .int .u64 ver, .int .u64 word, c4, c5, c6, c7, c8, c9, c10, c11, c12, c13, c14, c15, c16, c17, c18, c19, c20, c21, c22, c23, c24, c25] 39).alloc (.cells #[.bool false, .int .u64 0, .int .u64 0, .int .i64 0, .int .i64 0, .string ⟨#[]⟩, .string ⟨#[]⟩, .bool false, .int .i64 0, .slice none 0 0, .slice none 0 0, .slice none 0 0, .int .i64 0, .int .i64 0, .string ⟨#[]⟩, .int .u64 0, .slice none 0 0, .slice none 0 0, .slice none 0 0, .slice none 0 0, .int .i64 0, .string ⟨#[]⟩, .string ⟨#[]⟩, .int .u64 0, .int .i64 0] 50)
  have BR : Blk ((w.alloc (.cells #[.int .i64 2, .int .i64 i, .int .u64 ver, .int .u64 word, c4, c5, c6, c7, c8, c9, c10, c11, c12, c13, c14, c15, c16, c17, c18, c19, c20, c21, c22, c23, c24, c25] 39)).alloc (.cells #[.bool false, .int .u64 0, .int .u64 0, .int .i64 0, .int .i64 0, .string ⟨#[]⟩, .string ⟨#[]⟩, .bool false, .int .i64 0, .slice none 0 0, .slice none 0 0, .slice none 0 0, .int .i64 0, .int .i64 0, .string ⟨#[]⟩, .int .u64 0, .slice none 0 0, .slice none 0 0, .slice none 0 0, .slice none 0 0, .int .i64 0, .string ⟨#[]⟩, .string ⟨#[]⟩, .int .u64 0, .int .i64 0] 50)) (w.heap.size + 1) #[.bool false, .int .u64 0, .int .u64 0, .int .i64 0, .int .i64 0, .string ⟨#[]⟩, .string ⟨#[]⟩, .bool false, .int .i64 0, .slice none 0 0, .slice none 0 0, .slice none 0 0, .int .i64 0, .int .i64 0, .string ⟨#[]⟩, .int .u64 0, .slice none 0 0, .slice none 0 0, .slice none 0 0, .slice none 0 0, .int .i64 0, .string ⟨#[]⟩, .string ⟨#[]⟩, .int .u64 0, .int .i64 0] 50 := by
    have := Blk.new (w.alloc (.cells #[.int .i64 2, .int .i64 i, .int .u64 ver, .int .u64 word, c4, c5, c6, c7, c8, c9, c10, c11, c12, c13, c14, c15, c16, c17, c18, c19, c20, c21, c22, c23, c24, c25] 39)) #[.bool false, .int .u64 0, .int .u64 0, .int .i64 0, .int .i64 0, .string ⟨#[]⟩, .string ⟨#[]⟩, .bool false, .int .i64 0, .slice none 0 0, .slice none 0 0, .slice none 0 0, .int .i64 0, .int .i64 0, .string ⟨#[]⟩, .int .u64 0, .slice none 0 0, .slice none 0 0, .slice none 0 0, .slice none 0 0, .int .i64 0, .string ⟨#[]⟩, .string ⟨#[]⟩, .int .u64 0, .int .i64 0] 50
    simpa using this
  have hgl := h.cells.rows.lt
  have hgbl := h.blocks.lt
  have hol := h.head.lt
  have hocl := h.cells.head.lt
  have hgrl := h.records.lt
  have hin := h.len
  have hA := h.a1
  have hT := h.t1
  generalize hW : ((w.alloc (.cells #[.int .i64 2, .int .i64 i, .int .u64 ver, .int .u64 word, c4, c5, c6, c7, c8, c9, c10, c11, c12, c13, c14, c15, c16, c17, c18, c19, c20, c21, c22, c23, c24, c25] 39)).alloc (.cells #[.bool false, .int .u64 0, .int .u64 0, .int .i64 0, .int .i64 0, .string ⟨#[]⟩, .string ⟨#[]⟩, .bool false, .int .i64 0, .slice none 0 0, .slice none 0 0, .slice none 0 0, .int .i64 0, .int .i64 0, .string ⟨#[]⟩, .int .u64 0, .slice none 0 0, .slice none 0 0, .slice none 0 0, .slice none 0 0, .int .i64 0, .string ⟨#[]⟩, .string ⟨#[]⟩, .int .u64 0, .int .i64 0] 50)) = wq at hb2 h2 BX BR
  have hdr : Below wq.heap.size wq wq.drew := (Below.refl _ _).drew
  have p0 := h2.ptr
  have b0 := BX.at 0 rfl
  have b1 := BX.at 1 rfl
  have b3 := BX.at 3 rfl
  go_enter Try.func32, Try.ntmps32
  go_upto_region 3 with (fail)
  clear hW
  go_still_tail 8, (by kernel_rfl)
  go_wp2_with fail
  refine (store_any _ _ _ _ _ _ (h2.below hdr).cells x0 x1).mono ?_
  rintro e w3 ⟨rfl, hC3, hg3⟩
  have h3 := (h2.below hdr).celled hg3 hC3 (storeL_length _ _ _)
  have BX3 := BX.drew.grown hg3 (by intro e; injection e; omega)
  have BR3 := BR.drew.grown hg3 (by intro e; injection e; omega)
  have hF3 : Fr [g] w w3 := ((Fr.of_below hb2).trans (Fr.of_below hdr)).trans (Fr.of_grown hg3 (by simp))
  clear p0 b0 b1 b3 hC3 hg3 BX BR hdr
  have hF := hF3.more (S' := [g, gb, w.heap.size + 1]) (by simp)
  cases hi : inB L.length i
  · have hS := Lib.hid (storeB_no bs A hi)
    go_wp2_with (refine wpList_store_row rfl 50 _ _ rfl (w.heap.size + 1) _ rfl rfl 50 _ (BR3).h (by kernel_rfl) (by rfl) (by kernel_rfl) ?_)
    refine bodyPost_ret (results_cell_row rfl _ _ (w.heap.size + 1) 50 #[.bool false, .int .u64 0, .int .u64 0, .int .i64 0, .int .i64 0, .string ⟨#[]⟩, .string ⟨#[]⟩, .bool false, .int .i64 0, .slice none 0 0, .slice none 0 0, .slice none 0 0, .int .i64 0, .int .i64 0, .string ⟨#[]⟩, .int .u64 0, .slice none 0 0, .slice none 0 0, .slice none 0 0, .slice none 0 0, .int .i64 0, .string ⟨#[]⟩, .string ⟨#[]⟩, .int .u64 0, .int .i64 0] (0, 0) _ rfl (Blk.row BR3 #[.bool false, .int .u64 0, .int .u64 0, .int .i64 0, .int .i64 0, .string ⟨#[]⟩, .string ⟨#[]⟩, .bool false, .int .i64 0, .slice none 0 0, .slice none 0 0, .slice none 0 0, .int .i64 0, .int .i64 0, .string ⟨#[]⟩, .int .u64 0, .slice none 0 0, .slice none 0 0, .slice none 0 0, .slice none 0 0, .int .i64 0, .string ⟨#[]⟩, .string ⟨#[]⟩, .int .u64 0, .int .i64 0]).h Try.underlying50 rfl (by kernel_rfl)) rfl ⟨by rw [hi], ?_, ?_⟩
    · rw [hS.out]
      exact h3.off (Fr.row (S := [w.heap.size + 1]) _ _ (by simp)) (by simp; omega)
    · exact (hF.trans (Fr.row _ _ (by simp))).less
  · obtain ⟨j0, j1⟩ := inB_yes hi
    have hS := Lib.hid (storeB_yes bs A hi)
    have b1 := BX3.at 1 rfl
    go_wp2_with fail
    refine (clear_any i _ h3 j0 (by omega)).mono ?_
    rintro e w4 ⟨rfl, h4, hF4⟩
    have BR4 := hF4.blk BR3 (by simp; omega)
    have hG := hF.trans (hF4.more (S' := [g, gb, w.heap.size + 1]) (by simp))
    clear b1 BX3 BR3 hF3 hF4
    go_wp2_with (refine wpList_store_row rfl 50 _ _ rfl (w.heap.size + 1) _ rfl rfl 50 _ (BR4).h (by kernel_rfl) (by rfl) (by kernel_rfl) ?_)
    refine bodyPost_ret (results_cell_row rfl _ _ (w.heap.size + 1) 50 #[.bool true, .int .u64 0, .int .u64 0, .int .i64 0, .int .i64 0, .string ⟨#[]⟩, .string ⟨#[]⟩, .bool false, .int .i64 0, .slice none 0 0, .slice none 0 0, .slice none 0 0, .int .i64 0, .int .i64 0, .string ⟨#[]⟩, .int .u64 0, .slice none 0 0, .slice none 0 0, .slice none 0 0, .slice none 0 0, .int .i64 0, .string ⟨#[]⟩, .string ⟨#[]⟩, .int .u64 0, .int .i64 0] (0, 0) _ rfl (Blk.row BR4 #[.bool true, .int .u64 0, .int .u64 0, .int .i64 0, .int .i64 0, .string ⟨#[]⟩, .string ⟨#[]⟩, .bool false, .int .i64 0, .slice none 0 0, .slice none 0 0, .slice none 0 0, .int .i64 0, .int .i64 0, .string ⟨#[]⟩, .int .u64 0, .slice none 0 0, .slice none 0 0, .slice none 0 0, .slice none 0 0, .int .i64 0, .string ⟨#[]⟩, .string ⟨#[]⟩, .int .u64 0, .int .i64 0]).h Try.underlying50 rfl (by kernel_rfl)) rfl ⟨by rw [hi], ?_, ?_⟩
    · rw [hS.out]
      exact h4.off (Fr.row (S := [w.heap.size + 1]) _ _ (by simp)) (by simp; omega)
    · exact (hG.trans (Fr.row _ _ (by simp))).less
set_option maxRecDepth 100000 in
set_option maxHeartbeats 6400000 in
theorem write_cas {o oc g gb gr A T : Nat} {L : List (Int × Int)} {bs rs : List (List Value)} (i ver word : Int) (c4 c5 c6 c7 c8 c9 c10 c11 c12 c13 c14 c15 c16 c17 c18 c19 c20 c21 c22 c23 c24 c25 : Value) (w : World) (h : MemAt w o oc g gb gr A T L bs rs) (v0 : 0 ≤ ver) (v1 : ver ≤ 18446744073709551615) (x0 : 0 ≤ word) (x1 : word ≤ 18446744073709551615) :
    Calls Try.prog 32 #[.pointer (some ⟨o, 0, none⟩), .agg #[.int .i64 3, .int .i64 i, .int .u64 ver, .int .u64 word, c4, c5, c6, c7, c8, c9, c10, c11, c12, c13, c14, c15, c16, c17, c18, c19, c20, c21, c22, c23, c24, c25]] w fun e w' => e = .returned (.agg #[.bool (casB L i ver), .int .u64 0, .int .u64 0, .int .i64 0, .int .i64 0, .string ⟨#[]⟩, .string ⟨#[]⟩, .bool false, .int .i64 0, .slice none 0 0, .slice none 0 0, .slice none 0 0, .int .i64 0, .int .i64 0, .string ⟨#[]⟩, .int .u64 0, .slice none 0 0, .slice none 0 0, .slice none 0 0, .slice none 0 0, .int .i64 0, .string ⟨#[]⟩, .string ⟨#[]⟩, .int .u64 0, .int .i64 0]) ∧ MemAt w' o oc g gb gr A T (casL L i ver word) (casBs L bs A i ver) rs ∧ Fr [g, gb] w w' := by
  have hb2 : Below w.heap.size w ((w.alloc (.cells #[.int .i64 3, .int .i64 i, .int .u64 ver, .int .u64 word, c4, c5, c6, c7, c8, c9, c10, c11, c12, c13, c14, c15, c16, c17, c18, c19, c20, c21, c22, c23, c24, c25] 39)).alloc (.cells #[.bool false, .int .u64 0, .int .u64 0, .int .i64 0, .int .i64 0, .string ⟨#[]⟩, .string ⟨#[]⟩, .bool false, .int .i64 0, .slice none 0 0, .slice none 0 0, .slice none 0 0, .int .i64 0, .int .i64 0, .string ⟨#[]⟩, .int .u64 0, .slice none 0 0, .slice none 0 0, .slice none 0 0, .slice none 0 0, .int .i64 0, .string ⟨#[]⟩, .string ⟨#[]⟩, .int .u64 0, .int .i64 0] 50)) := by (repeat (first | exact Below.refl _ _ | assumption | refine below_alloc2 ?_ (by first | exact Nat.le_refl _ | omega) _ | refine Below.drew ?_ | refine below_drewN ?_ _ | refine below_push2 ?_ ‹_› (by first | exact Nat.le_refl _ | omega) | refine Below.setCell ?_ (by first | (simp; done) | (simp; omega) | omega) _))
  have h2 := h.below hb2
  have BX := (Blk.new w #[.int .i64 3, .int .i64 i, .int .u64 ver, .int .u64 word, c4, c5, c6, c7, c8, c9, c10, c11, c12, c13, c14, c15, c16, c17, c18, c19, c20, c21, c22, c23, c24, c25] 39).alloc (.cells #[.bool false, .int .u64 0, .int .u64 0, .int .i64 0, .int .i64 0, .string ⟨#[]⟩, .string ⟨#[]⟩, .bool false, .int .i64 0, .slice none 0 0, .slice none 0 0, .slice none 0 0, .int .i64 0, .int .i64 0, .string ⟨#[]⟩, .int .u64 0, .slice none 0 0, .slice none 0 0, .slice none 0 0, .slice none 0 0, .int .i64 0, .string ⟨#[]⟩, .string ⟨#[]⟩, .int .u64 0, .int .i64 0] 50)
  have BR : Blk ((w.alloc (.cells #[.int .i64 3, .int .i64 i, .int .u64 ver, .int .u64 word, c4, c5, c6, c7, c8, c9, c10, c11, c12, c13, c14, c15, c16, c17, c18, c19, c20, c21, c22, c23, c24, c25] 39)).alloc (.cells #[.bool false, .int .u64 0, .int .u64 0, .int .i64 0, .int .i64 0, .string ⟨#[]⟩, .string ⟨#[]⟩, .bool false, .int .i64 0, .slice none 0 0, .slice none 0 0, .slice none 0 0, .int .i64 0, .int .i64 0, .string ⟨#[]⟩, .int .u64 0, .slice none 0 0, .slice none 0 0, .slice none 0 0, .slice none 0 0, .int .i64 0, .string ⟨#[]⟩, .string ⟨#[]⟩, .int .u64 0, .int .i64 0] 50)) (w.heap.size + 1) #[.bool false, .int .u64 0, .int .u64 0, .int .i64 0, .int .i64 0, .string ⟨#[]⟩, .string ⟨#[]⟩, .bool false, .int .i64 0, .slice none 0 0, .slice none 0 0, .slice none 0 0, .int .i64 0, .int .i64 0, .string ⟨#[]⟩, .int .u64 0, .slice none 0 0, .slice none 0 0, .slice none 0 0, .slice none 0 0, .int .i64 0, .string ⟨#[]⟩, .string ⟨#[]⟩, .int .u64 0, .int .i64 0] 50 := by
    have := Blk.new (w.alloc (.cells #[.int .i64 3, .int .i64 i, .int .u64 ver, .int .u64 word, c4, c5, c6, c7, c8, c9, c10, c11, c12, c13, c14, c15, c16, c17, c18, c19, c20, c21, c22, c23, c24, c25] 39)) #[.bool false, .int .u64 0, .int .u64 0, .int .i64 0, .int .i64 0, .string ⟨#[]⟩, .string ⟨#[]⟩, .bool false, .int .i64 0, .slice none 0 0, .slice none 0 0, .slice none 0 0, .int .i64 0, .int .i64 0, .string ⟨#[]⟩, .int .u64 0, .slice none 0 0, .slice none 0 0, .slice none 0 0, .slice none 0 0, .int .i64 0, .string ⟨#[]⟩, .string ⟨#[]⟩, .int .u64 0, .int .i64 0] 50
    simpa using this
  have hgl := h.cells.rows.lt
  have hgbl := h.blocks.lt
  have hol := h.head.lt
  have hocl := h.cells.head.lt
  have hgrl := h.records.lt
  have hin := h.len
  have hA := h.a1
  have hT := h.t1
  generalize hW : ((w.alloc (.cells #[.int .i64 3, .int .i64 i, .int .u64 ver, .int .u64 word, c4, c5, c6, c7, c8, c9, c10, c11, c12, c13, c14, c15, c16, c17, c18, c19, c20, c21, c22, c23, c24, c25] 39)).alloc (.cells #[.bool false, .int .u64 0, .int .u64 0, .int .i64 0, .int .i64 0, .string ⟨#[]⟩, .string ⟨#[]⟩, .bool false, .int .i64 0, .slice none 0 0, .slice none 0 0, .slice none 0 0, .int .i64 0, .int .i64 0, .string ⟨#[]⟩, .int .u64 0, .slice none 0 0, .slice none 0 0, .slice none 0 0, .slice none 0 0, .int .i64 0, .string ⟨#[]⟩, .string ⟨#[]⟩, .int .u64 0, .int .i64 0] 50)) = wq at hb2 h2 BX BR
  have hdr : Below wq.heap.size wq wq.drew := (Below.refl _ _).drew
  have p0 := h2.ptr
  have b0 := BX.at 0 rfl
  have b1 := BX.at 1 rfl
  have b2 := BX.at 2 rfl
  have b3 := BX.at 3 rfl
  go_enter Try.func32, Try.ntmps32
  go_upto_region 4 with (fail)
  clear hW
  go_still_tail 10, (by kernel_rfl)
  go_wp2_with fail
  refine (cas_any _ _ _ _ _ _ _ (h2.below hdr).cells v0 v1 x0 x1).mono ?_
  rintro e w3 ⟨rfl, hC3, hg3⟩
  have h3 := (h2.below hdr).celled hg3 hC3 (casL_length _ _ _ _)
  have BX3 := BX.drew.grown hg3 (by intro e; injection e; omega)
  have BR3 := BR.drew.grown hg3 (by intro e; injection e; omega)
  have hF3 : Fr [g] w w3 := ((Fr.of_below hb2).trans (Fr.of_below hdr)).trans (Fr.of_grown hg3 (by simp))
  clear p0 b0 b1 b2 b3 hC3 hg3 BX BR hdr
  have hF := hF3.more (S' := [g, gb, w.heap.size + 1]) (by simp)
  cases hi : casB L i ver
  · have hS := Lib.hid (casBs_no bs A hi)
    go_wp2_with (refine wpList_store_row rfl 50 _ _ rfl (w.heap.size + 1) _ rfl rfl 50 _ (BR3).h (by kernel_rfl) (by rfl) (by kernel_rfl) ?_)
    refine bodyPost_ret (results_cell_row rfl _ _ (w.heap.size + 1) 50 #[.bool false, .int .u64 0, .int .u64 0, .int .i64 0, .int .i64 0, .string ⟨#[]⟩, .string ⟨#[]⟩, .bool false, .int .i64 0, .slice none 0 0, .slice none 0 0, .slice none 0 0, .int .i64 0, .int .i64 0, .string ⟨#[]⟩, .int .u64 0, .slice none 0 0, .slice none 0 0, .slice none 0 0, .slice none 0 0, .int .i64 0, .string ⟨#[]⟩, .string ⟨#[]⟩, .int .u64 0, .int .i64 0] (0, 0) _ rfl (Blk.row BR3 #[.bool false, .int .u64 0, .int .u64 0, .int .i64 0, .int .i64 0, .string ⟨#[]⟩, .string ⟨#[]⟩, .bool false, .int .i64 0, .slice none 0 0, .slice none 0 0, .slice none 0 0, .int .i64 0, .int .i64 0, .string ⟨#[]⟩, .int .u64 0, .slice none 0 0, .slice none 0 0, .slice none 0 0, .slice none 0 0, .int .i64 0, .string ⟨#[]⟩, .string ⟨#[]⟩, .int .u64 0, .int .i64 0]).h Try.underlying50 rfl (by kernel_rfl)) rfl ⟨by rw [hi], ?_, ?_⟩
    · rw [hS.out]
      exact h3.off (Fr.row (S := [w.heap.size + 1]) _ _ (by simp)) (by simp; omega)
    · exact (hF.trans (Fr.row _ _ (by simp))).less
  · obtain ⟨j0, j1⟩ := inB_yes (casB_in hi)
    have hS := Lib.hid (casBs_yes bs A hi)
    have b1 := BX3.at 1 rfl
    go_wp2_with fail
    refine (clear_any i _ h3 j0 (by omega)).mono ?_
    rintro e w4 ⟨rfl, h4, hF4⟩
    have BR4 := hF4.blk BR3 (by simp; omega)
    have hG := hF.trans (hF4.more (S' := [g, gb, w.heap.size + 1]) (by simp))
    clear b1 BX3 BR3 hF3 hF4
    go_wp2_with (refine wpList_store_row rfl 50 _ _ rfl (w.heap.size + 1) _ rfl rfl 50 _ (BR4).h (by kernel_rfl) (by rfl) (by kernel_rfl) ?_)
    refine bodyPost_ret (results_cell_row rfl _ _ (w.heap.size + 1) 50 #[.bool true, .int .u64 0, .int .u64 0, .int .i64 0, .int .i64 0, .string ⟨#[]⟩, .string ⟨#[]⟩, .bool false, .int .i64 0, .slice none 0 0, .slice none 0 0, .slice none 0 0, .int .i64 0, .int .i64 0, .string ⟨#[]⟩, .int .u64 0, .slice none 0 0, .slice none 0 0, .slice none 0 0, .slice none 0 0, .int .i64 0, .string ⟨#[]⟩, .string ⟨#[]⟩, .int .u64 0, .int .i64 0] (0, 0) _ rfl (Blk.row BR4 #[.bool true, .int .u64 0, .int .u64 0, .int .i64 0, .int .i64 0, .string ⟨#[]⟩, .string ⟨#[]⟩, .bool false, .int .i64 0, .slice none 0 0, .slice none 0 0, .slice none 0 0, .int .i64 0, .int .i64 0, .string ⟨#[]⟩, .int .u64 0, .slice none 0 0, .slice none 0 0, .slice none 0 0, .slice none 0 0, .int .i64 0, .string ⟨#[]⟩, .string ⟨#[]⟩, .int .u64 0, .int .i64 0]).h Try.underlying50 rfl (by kernel_rfl)) rfl ⟨by rw [hi], ?_, ?_⟩
    · rw [hS.out]
      exact h4.off (Fr.row (S := [w.heap.size + 1]) _ _ (by simp)) (by simp; omega)
    · exact (hG.trans (Fr.row _ _ (by simp))).less
end Go.Proofs.Ytfnjggefinkcaaa.MemP
