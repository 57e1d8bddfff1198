/-
  memory.New and what it leans on: contracts.
-/
import Derived.Test.YtfnjggefinkcaaaMemPlain
import Derived.Test.YtfnjggefinkcaaaCellMore
import Derived.Test.YtfnjggefinkcaaaRefWalk
import Derived.StillTailTactics
import Derived.Deep.DeepCutAuto
namespace Go.Proofs.Ytfnjggefinkcaaa.MemP
open Go.RowKit RefP CellP
set_option linter.unusedVariables false
set_option linter.unusedSimpArgs false

theorem infoBlock : (Try.prog.info? 35).map (fun i => (i.zero, i.size, i.bytes)) = some (some (.agg #[.int .i64 0, .int .i64 0, .string ⟨#[]⟩, .string ⟨#[]⟩, .bool false, .int .i64 0, .slice none 0 0, .slice none 0 0, .slice none 0 0, .int .i64 0, .int .i64 0, .string ⟨#[]⟩, .int .u64 0, .slice none 0 0, .slice none 0 0, .slice none 0 0, .slice none 0 0]), 17, 272) := by kernel_rfl
theorem infoOp : (Try.prog.info? 37).map (fun i => (i.zero, i.size, i.bytes)) = some (some (.agg #[.int .i64 0, .string ⟨#[]⟩, .string ⟨#[]⟩, .int .u64 0, .int .i64 0]), 5, 56) := by kernel_rfl
/-- an empty block, an empty leaf's block, an empty record: their raw cells -/
def zb : List Value := [.int .i64 0, .int .i64 0, .string ⟨#[]⟩, .string ⟨#[]⟩, .bool false, .int .i64 0, .slice none 0 0, .slice none 0 0, .slice none 0 0, .int .i64 0, .int .i64 0, .string ⟨#[]⟩, .int .u64 0, .slice none 0 0, .slice none 0 0, .slice none 0 0, .slice none 0 0]
def eb : List Value := [.int .i64 1, .int .i64 0, .string ⟨#[]⟩, .string ⟨#[]⟩, .bool true, .int .i64 (-1), .slice none 0 0, .slice none 0 0, .slice none 0 0, .int .i64 0, .int .i64 0, .string ⟨#[]⟩, .int .u64 0, .slice none 0 0, .slice none 0 0, .slice none 0 0, .slice none 0 0]
def zo : List Value := [.int .i64 0, .string ⟨#[]⟩, .string ⟨#[]⟩, .int .u64 0, .int .i64 0]
theorem raw_made {k : Nat} (cs : List Value) (n : Nat) (hk : cs.length = k) : madeCells cs.toArray (n * k) = rawA k (List.replicate n cs) := by
  refine recA_made _ cs n (by simpa using hk) (fun j hj => ?_)
  simp [rawF, List.getD_eq_getElem?_getD, show j < cs.length by omega]
theorem lt17 {j : Nat} (h : j < 17) : j = 0 ∨ j = 1 ∨ j = 2 ∨ j = 3 ∨ j = 4 ∨ j = 5 ∨ j = 6 ∨ j = 7 ∨ j = 8 ∨ j = 9 ∨ j = 10 ∨ j = 11 ∨ j = 12 ∨ j = 13 ∨ j = 14 ∨ j = 15 ∨ j = 16 := by omega
/-- a cell written by its place: a chain of stores is told place by place -/
theorem set_at {A : Array Value} {i j : Nat} {v : Value} : (A.setIfInBounds i v)[j]? = if i = j then (if i < A.size then some v else none) else A[j]? := by
  rw [Array.getElem?_setIfInBounds]
theorem raw_set17 (l : List (List Value)) (i : Nat) (hi : i < l.length) (a0 a1 a2 a3 a4 a5 a6 a7 a8 a9 a10 a11 a12 a13 a14 a15 a16 : Value) :
    ((((((((((((((((((rawA 17 l).setIfInBounds (i * 17) a0).setIfInBounds (i * 17 + 1) a1).setIfInBounds (i * 17 + 2) a2).setIfInBounds (i * 17 + 3) a3).setIfInBounds (i * 17 + 4) a4).setIfInBounds (i * 17 + 5) a5).setIfInBounds (i * 17 + 6) a6).setIfInBounds (i * 17 + 7) a7).setIfInBounds (i * 17 + 8) a8).setIfInBounds (i * 17 + 9) a9).setIfInBounds (i * 17 + 10) a10).setIfInBounds (i * 17 + 11) a11).setIfInBounds (i * 17 + 12) a12).setIfInBounds (i * 17 + 13) a13).setIfInBounds (i * 17 + 14) a14).setIfInBounds (i * 17 + 15) a15).setIfInBounds (i * 17 + 16) a16) =
      rawA 17 (l.set i [a0, a1, a2, a3, a4, a5, a6, a7, a8, a9, a10, a11, a12, a13, a14, a15, a16]) := by
  have hs := recA_size 17 rawF [] l
  refine recA_set i _ hi (by simp [hs]) (fun j hj => ?_) (fun i' j hi' hl hj => ?_)
  · have hb : i * 17 + 17 ≤ l.length * 17 := by omega
    rcases lt17 hj with h | h | h | h | h | h | h | h | h | h | h | h | h | h | h | h | h <;> subst h <;> simp [Array.getElem?_setIfInBounds, hs] <;> omega
  · have e : ∀ m, m < 17 → ¬ i * 17 + m = i' * 17 + j := by intro m hm; omega
    have e0 := e 0 (by omega)
    rw [Nat.add_zero] at e0
    simp [Array.getElem?_setIfInBounds, e0, e 1, e 2, e 3, e 4, e 5, e 6, e 7, e 8, e 9, e 10, e 11, e 12, e 13, e 14, e 15, e 16]
theorem raw_at (l : List (List Value)) (i j : Nat) (hi : i < l.length) (hj : j < 17) : (rawA 17 l)[i * 17 + j]? = some (rawF (l.getD i []) j) := recA_at rawF [] l i j hi hj
theorem raw_at0 (l : List (List Value)) (hi : 0 < l.length) (j : Nat) (hj : j < 17) : (rawA 17 l)[j]? = some (rawF (l.getD 0 []) j) := by
  have := raw_at l 0 j hi hj
  rwa [Nat.zero_mul, Nat.zero_add] at this
/-- a record of a block was written, cell by cell -/
abbrev put17 (w : World) (gb i : Nat) (a0 a1 a2 a3 a4 a5 a6 a7 a8 a9 a10 a11 a12 a13 a14 a15 a16 : Value) : World := (((((((((((((((((w.setCell ⟨gb, i * 17, none⟩ a0).setCell ⟨gb, i * 17 + 1, none⟩ a1).setCell ⟨gb, i * 17 + 2, none⟩ a2).setCell ⟨gb, i * 17 + 3, none⟩ a3).setCell ⟨gb, i * 17 + 4, none⟩ a4).setCell ⟨gb, i * 17 + 5, none⟩ a5).setCell ⟨gb, i * 17 + 6, none⟩ a6).setCell ⟨gb, i * 17 + 7, none⟩ a7).setCell ⟨gb, i * 17 + 8, none⟩ a8).setCell ⟨gb, i * 17 + 9, none⟩ a9).setCell ⟨gb, i * 17 + 10, none⟩ a10).setCell ⟨gb, i * 17 + 11, none⟩ a11).setCell ⟨gb, i * 17 + 12, none⟩ a12).setCell ⟨gb, i * 17 + 13, none⟩ a13).setCell ⟨gb, i * 17 + 14, none⟩ a14).setCell ⟨gb, i * 17 + 15, none⟩ a15).setCell ⟨gb, i * 17 + 16, none⟩ a16)
abbrev put17z (w : World) (gb : Nat) (a0 a1 a2 a3 a4 a5 a6 a7 a8 a9 a10 a11 a12 a13 a14 a15 a16 : Value) : World := (((((((((((((((((w.setCell ⟨gb, 0, none⟩ a0).setCell ⟨gb, 1, none⟩ a1).setCell ⟨gb, 2, none⟩ a2).setCell ⟨gb, 3, none⟩ a3).setCell ⟨gb, 4, none⟩ a4).setCell ⟨gb, 5, none⟩ a5).setCell ⟨gb, 6, none⟩ a6).setCell ⟨gb, 7, none⟩ a7).setCell ⟨gb, 8, none⟩ a8).setCell ⟨gb, 9, none⟩ a9).setCell ⟨gb, 10, none⟩ a10).setCell ⟨gb, 11, none⟩ a11).setCell ⟨gb, 12, none⟩ a12).setCell ⟨gb, 13, none⟩ a13).setCell ⟨gb, 14, none⟩ a14).setCell ⟨gb, 15, none⟩ a15).setCell ⟨gb, 16, none⟩ a16)
theorem put17_zero (w : World) (gb : Nat) (a0 a1 a2 a3 a4 a5 a6 a7 a8 a9 a10 a11 a12 a13 a14 a15 a16 : Value) : put17 w gb 0 a0 a1 a2 a3 a4 a5 a6 a7 a8 a9 a10 a11 a12 a13 a14 a15 a16 = put17z w gb a0 a1 a2 a3 a4 a5 a6 a7 a8 a9 a10 a11 a12 a13 a14 a15 a16 := by simp only [put17, put17z, Nat.zero_mul, Nat.zero_add]
theorem blk_put17 {w : World} {gb : Nat} {l : List (List Value)} {T : TypeId} (B : Blk w gb (rawA 17 l) T) (i : Nat) (hi : i < l.length) (a0 a1 a2 a3 a4 a5 a6 a7 a8 a9 a10 a11 a12 a13 a14 a15 a16 : Value) : Blk (put17 w gb i a0 a1 a2 a3 a4 a5 a6 a7 a8 a9 a10 a11 a12 a13 a14 a15 a16) gb (rawA 17 (l.set i [a0, a1, a2, a3, a4, a5, a6, a7, a8, a9, a10, a11, a12, a13, a14, a15, a16])) T := by
  have h := (((((((((((((((((B.set (i * 17) a0).set (i * 17 + 1) a1).set (i * 17 + 2) a2).set (i * 17 + 3) a3).set (i * 17 + 4) a4).set (i * 17 + 5) a5).set (i * 17 + 6) a6).set (i * 17 + 7) a7).set (i * 17 + 8) a8).set (i * 17 + 9) a9).set (i * 17 + 10) a10).set (i * 17 + 11) a11).set (i * 17 + 12) a12).set (i * 17 + 13) a13).set (i * 17 + 14) a14).set (i * 17 + 15) a15).set (i * 17 + 16) a16)
  rw [raw_set17 l i hi] at h
  exact h
theorem fr_put17 (w : World) (gb i : Nat) (a0 a1 a2 a3 a4 a5 a6 a7 a8 a9 a10 a11 a12 a13 a14 a15 a16 : Value) : Fr [gb] w (put17 w gb i a0 a1 a2 a3 a4 a5 a6 a7 a8 a9 a10 a11 a12 a13 a14 a15 a16) := by
  repeat (refine Fr.set ?_ _ _ (.inl (by simp)))
  exact Fr.refl _ _
/-- words in a block known whole -/
def wordsA (l : List Int) : Array Value := (l.map (Value.int .u64)).toArray
theorem wordsA_at (l : List Int) (i : Nat) (h : i < l.length) : (wordsA l)[i]? = some (.int .u64 (at0 l i)) := by simp [wordsA, at0, h]
theorem wordsA_set (l : List Int) (i : Nat) (x : Int) : (wordsA l).setIfInBounds i (.int .u64 x) = wordsA (l.set i x) := by simp [wordsA, List.map_set]
theorem wordsA_made (n : Nat) : madeCells #[.int .u64 0] n = wordsA (List.replicate n 0) := by
  apply Array.ext_getElem?
  intro m
  by_cases hm : m < n
  · simp [wordsA, madeCells, hm, Nat.mod_one]
  · rw [Array.getElem?_eq_none (by rw [size_madeCells]; omega), Array.getElem?_eq_none (by simp [wordsA]; omega)]
theorem wordsA_row {w : World} {b : Nat} {l : List Int} {T : TypeId} (B : Blk w b (wordsA l) T) (hr : ∀ x ∈ l, 0 ≤ x ∧ x ≤ 18446744073709551615) (hl : l.length ≤ 9223372036854775807) : U64s w (some ⟨b, 0, none⟩) l :=
  ⟨⟨fun _ => ⟨b, 0, rfl, B.lt, fun i hi => by rw [Nat.zero_add]; exact B.at i (wordsA_at l i hi)⟩⟩, hr, hl⟩

set_option maxHeartbeats 800000 in
theorem empty_any (w : World) : Calls Try.prog 61 #[] w fun e w' => e = .returned (.agg #[.int .i64 0, .string ⟨#[]⟩, .string ⟨#[]⟩, .bool true, .int .i64 (-1), .slice none 0 0, .slice none 0 0, .slice none 0 0]) ∧ Below w.heap.size w w' := by
  go_enter Try.func61, Try.ntmps61
  go_wp2_with fail
  refine bodyPost_ret (v := .agg #[.int .i64 0, .string ⟨#[]⟩, .string ⟨#[]⟩, .bool true, .int .i64 (-1), .slice none 0 0, .slice none 0 0, .slice none 0 0]) (by simp (maxDischargeDepth := 8) [results, Try.results61, go_sem]) rfl ⟨rfl, by (repeat (first | exact Below.refl _ _ | assumption | refine below_alloc2 ?_ (by first | exact Nat.le_refl _ | omega) _ | refine Below.drew ?_ | refine below_drewN ?_ _ | refine below_push2 ?_ ‹_› (by first | exact Nat.le_refl _ | omega) | refine Below.setCell ?_ (by first | (simp; done) | (simp; omega) | omega) _))⟩
/-- words as cells -/
def asCells (l : List Int) : List (Int × Int) := l.map fun x => (x, 0)
theorem asCells_length (l : List Int) : (asCells l).length = l.length := by simp [asCells]
theorem asCells_at (l : List Int) (k : Nat) (h : k < l.length) : at2 (asCells l) k = (at0 l k, 0) := by simp [asCells, at2, at0, h]
set_option maxRecDepth 100000 in
set_option maxHeartbeats 1600000 in
theorem of_any (a : Option Addr) (c : Nat) (l : List Int) (w : World) (h : U64s w a l) (hl : l.length ≤ 65536) : Calls Try.prog 62 #[.slice a l.length c] w (MadeAt w (asCells l)) := by
  have hal := asCells_length l
  go_enter Try.func62, Try.ntmps62
  go_wp2_with fail
  refine (new_yes l.length _ hl).mono ?_
  rintro e w1 ⟨o, g, rfl, hC, hb1, hO, hG⟩
  have hC0 : CellsAt w1 o g (mixed (asCells l) 0) := by rw [mixed_zero, hal]; exact hC
  go_wp2_with fail
  go_loopw [13] (fun i wr => ∃ k : Nat, k ≤ l.length ∧ i = .int .i64 k ∧ Below w.heap.size w wr ∧ CellsAt wr o g (mixed (asCells l) k)) (fun i _ => l.length - (intOf i).toNat)
  case atStart => exact ⟨0, Nat.zero_le _, rfl, hb1, hC0⟩
  case round =>
    clear hC hC0
    obtain ⟨k, hk, rfl, hb, R⟩ := hrel
    have hml := mixed_length (asCells l) k (by omega)
    rw [hal] at hml
    by_cases hlt : k < l.length
    · have hlt' : (k : Int) < (l.length : Int) := by omega
      obtain ⟨b, off, rfl, hbl, s0⟩ := (h.below hb).cell k hlt
      have c0 := R.head.at 0 rfl
      rw [hml] at c0
      have t0 := R.rows.at _ (pairsA_0 _ k (by omega))
      have t1 := R.rows.at _ (pairsA_1 _ k (by omega))
      have f0 := R.rows.free (k * 2)
      have f1 := R.rows.free (k * 2 + 1)
      have hr := h.rngD k
      go_wp2_with fail
      go_roundw
      case rel =>
        have hW := R.write (Below.refl _ _) k (by omega) (at0 l k) 0 hr (by omega)
        have e := mixed_succ (asCells l) k (by omega)
        rw [asCells_at l k hlt] at e
        rw [e] at hW
        exact ⟨k + 1, by omega, by go_num, (hb.setCell hG _).setCell hG _, hW⟩
      case measure => simp [intOf]; omega
    · obtain rfl : k = l.length := by omega
      go_wp2_with fail
      go_ret
      rw [← hal, mixed_all] at R
      exact ⟨o, g, rfl, R, hb, hO, hG⟩
end Go.Proofs.Ytfnjggefinkcaaa.MemP
