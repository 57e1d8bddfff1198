/-
  Rows of words that a call owns: appending one, appending a row, cloning.
-/
import Derived.Test.YtbemgfpnoeogdaaRows
import Derived.Test.YtbemgfpnoeogdaaOwns
import Derived.Laws.CopyOwn
namespace Go.Proofs.Ytbemgfpnoeogdaa.RefP
open Go.RowKit
set_option linter.unusedVariables false
set_option linter.unusedSimpArgs false

theorem infoWord : (Try.prog.info? 51).map (fun i => (i.zero, i.size, i.bytes)) = some (some (.int .u64 0), 1, 8) := by kernel_rfl
theorem info_parts' {P : Program} {t : TypeId} {z : Value} {s b : Nat} (h : (P.info? t).map (fun i => (i.zero, i.size, i.bytes)) = some (some z, s, b)) : ∃ i, P.info? t = some i ∧ i.zero = some z ∧ i.size = s ∧ i.bytes = b := by
  cases hi : P.info? t with
  | none => rw [hi] at h; cases h
  | some i =>
    rw [hi] at h
    simp only [Option.map_some, Option.some.injEq, Prod.mk.injEq] at h
    exact ⟨i, rfl, h.1, h.2.1, h.2.2⟩
theorem Owns.below2 {w w' : World} {base : Nat} {e : TypeId} {size : Nat} {a : Option Addr} {n c : Nat} {f : Nat → Value} (h : Owns w base e size a n c f) (hb : Below w.heap.size w w') : Owns w' base e size a n c f :=
  World.ownsRow.kept h (row := none) ⟨hb.os, hb.tape, hb.output, hb.size, fun i hi _ => hb.block i hi⟩ (by cases (Value.slice a n c).ownBlock <;> simp)
theorem Holds.of_blk' {w : World} {b : Nat} {cs : Array Value} {T : TypeId} (B : Blk w b cs T) (m : Nat) (f : Nat → Value) (e : ∀ i, i < m → cs[i]? = some (f i)) : Holds w (some ⟨b, 0, none⟩) m f :=
  ⟨fun _ => ⟨b, 0, rfl, B.lt, fun i hi => by rw [Nat.zero_add]; exact B.at i (e i hi)⟩⟩
theorem u64F_append (xs ys : List Int) (j : Nat) : (if j < xs.length then u64F xs j else u64F ys (j - xs.length)) = u64F (xs ++ ys) j := by
  unfold u64F at0
  by_cases h : j < xs.length
  · rw [if_pos h]; simp [List.getElem?_append_left h]
  · rw [if_neg h]; simp [List.getElem?_append_right (show xs.length ≤ j by omega)]
/-- a row of words that a call owns -/
structure OwnsU (w : World) (base : Nat) (a : Option Addr) (c : Nat) (l : List Int) : Prop where
  own : Owns w base 51 1 a l.length c (u64F l)
  rng : ∀ x ∈ l, 0 ≤ x ∧ x ≤ 18446744073709551615
theorem OwnsU.below {w w' : World} {base : Nat} {a : Option Addr} {c : Nat} {l : List Int} (h : OwnsU w base a c l) (hb : Below w.heap.size w w') : OwnsU w' base a c l := ⟨h.own.below2 hb, h.rng⟩
theorem OwnsU.kept {w w' : World} {row : Option Nat} {base : Nat} {a : Option Addr} {c : Nat} {l : List Int} (h : OwnsU w base a c l) (hg : w.grownBy w' row) (hne : (Value.slice a l.length c).ownBlock = none ∨ (Value.slice a l.length c).ownBlock ≠ row) : OwnsU w' base a c l :=
  ⟨World.ownsRow.kept h.own hg hne, h.rng⟩
theorem OwnsU.nil (w : World) (base : Nat) : OwnsU w base none 0 [] := ⟨Owns.nil _ _ _ _ _, by simp⟩
theorem OwnsU.words {w : World} {base : Nat} {a : Option Addr} {c : Nat} {l : List Int} (h : OwnsU w base a c l) (hn : l.length ≤ 9223372036854775807) : U64s w a l :=
  ⟨by have := h.own.holds; rwa [Nat.mul_one] at this, h.rng, hn⟩
theorem OwnsU.lower {w : World} {base b' : Nat} {a : Option Addr} {c : Nat} {l : List Int} (h : OwnsU w base a c l) (hb : b' ≤ base) : OwnsU w b' a c l := by
  refine ⟨⟨h.own.1, ?_⟩, h.rng⟩
  rcases h.own.2 with k | ⟨g, cap, cur, e, hg, r⟩
  · exact .inl k
  · exact .inr ⟨g, cap, cur, e, Nat.le_trans hb hg, r⟩
/-- the block is not b, where one is -/
theorem OwnsU.far {w : World} {base : Nat} {a : Option Addr} {c : Nat} {l : List Int} (h : OwnsU w base a c l) (p : Addr) (v : Value) (hne : (Value.slice a l.length c).ownBlock ≠ some p.block) : OwnsU (w.setCell p v) base a c l :=
  h.kept (row := some p.block) ⟨rfl, rfl, rfl, by simp, fun i hi hn => Below.heap_setCell w p v i (fun e => hn (by rw [e]))⟩ (.inr hne)
theorem OwnsU.lt {w : World} {base : Nat} {a : Option Addr} {c : Nat} {l : List Int} (h : OwnsU w base a c l) (k : Nat) (e : (Value.slice a l.length c).ownBlock = some k) : base ≤ k ∧ k < w.heap.size := World.ownsRow.lt h.own k e

/-- what appending tells -/
structure AddedU (w : World) (base : Nat) (a : Option Addr) (c : Nat) (l : List Int) (v : Value) (m : Nat) (l' : List Int) (g cap : Nat) (w' : World) : Prop where
  run : ∀ ty, (Builtin.append_ #[23, 23] ty #[.slice a l.length c, v]).run Try.prog w = .ok (.slice (some ⟨g, 0, none⟩) (l.length + m) cap) w'
  own : OwnsU w' base (some ⟨g, 0, none⟩) cap l'
  grown : w.grownBy w' (Value.slice a l.length c).ownBlock
  lt : g < w'.heap.size
  ge : base ≤ g
  at' : (Value.slice a l.length c).ownBlock = some g ∨ g = w.heap.size
theorem AddedU.keeps {w : World} {base : Nat} {a : Option Addr} {c : Nat} {l : List Int} {v : Value} {m : Nat} {l' : List Int} {g cap : Nat} {w' : World} (A : AddedU w base a c l v m l' g cap w') (hl : ∀ k, (Value.slice a l.length c).ownBlock = some k → base ≤ k)
    (w0 : World) (B : Nat) (hB : B ≤ base) (h : Below B w0 w) (hs : base ≤ w.heap.size) : Below B w0 w' :=
  h.grown A.grown (Nat.le_trans hB hs) (fun k e => Nat.le_trans hB (hl k e))
/-- a row is appended -/
theorem addAll {w : World} (base : Nat) {a : Option Addr} {c : Nat} {l : List Int} (h : OwnsU w base a c l) {b : Option Addr} {c' : Nat} {xs : List Int} (hx : U64s w b xs) (h0 : 0 < xs.length) (hn : l.length + xs.length ≤ 65536) (hbase : base ≤ w.heap.size) :
    ∃ g cap w', AddedU w base a c l (.slice b xs.length c') xs.length (l ++ xs) g cap w' := by
  obtain ⟨i0, hi, hz0, hz1, hz2⟩ := info_parts' infoWord
  obtain ⟨bb, off, rfl, hbl, hc⟩ := hx.row.get h0
  obtain ⟨g, cap, w', A⟩ := appended (P := Try.prog) (c' := c') 23 base 51 i0 _ 1 8 Try.underlying23 hi hz0 hz1 hz2 rfl (by omega)
    h.own (show Holds w (some ⟨bb, off, none⟩) (xs.length * 1) (u64F xs) by rw [Nat.mul_one]; exact hx.row) (fun j hj => rfl) h0 (by unfold maxLen; omega) (by omega) hbase
  refine ⟨g, cap, w', A.run, ⟨?_, fun x hx' => ?_⟩, A.grown, A.lt, (World.ownsRow.lt A.own g rfl).1, A.at'⟩
  · rw [show (l ++ xs).length = l.length + xs.length by simp]
    refine A.own.congr fun j hj => ?_
    have := u64F_append l xs j
    simpa using this
  · rcases List.mem_append.1 hx' with hx' | hx'
    · exact h.rng _ hx'
    · exact hx.rng _ hx'
/-- one word is appended: its block is made ahead -/
theorem addOne {w : World} (base : Nat) {a : Option Addr} {c : Nat} {l : List Int} (h : OwnsU w base a c l) (x : Int) (hx : 0 ≤ x ∧ x ≤ 18446744073709551615) (hn : l.length + 1 ≤ 65536) (hbase : base ≤ w.heap.size) :
    ∃ g cap w', AddedU (w.alloc (.cells #[.int .u64 x] 51)) base a c l (.slice (some ⟨w.heap.size, 0, none⟩) 1 1) 1 (l ++ [x]) g cap w' := by
  have HX : U64s (w.alloc (.cells #[.int .u64 x] 51)) (some ⟨w.heap.size, 0, none⟩) [x] :=
    ⟨Holds.of_blk' (Blk.new w #[.int .u64 x] 51) _ _ (fun i hi => by rcases i with _ | i <;> first | rfl | (simp at hi; try omega)), by simpa using hx, by simp⟩
  exact addAll base (h.below ((Below.refl _ w).alloc (Nat.le_refl _) _)) (c' := 1) HX (by simp) (by simpa using hn) (by simp; omega)
/-- nothing is appended: the row stays (to an empty row of a block, or to nil: the model's answer is the row) -/
theorem ret_bool {a b : Bool} (h : a = b) : Ending.returned (.bool a) = .returned (.bool b) := by rw [h]
/-- what a function that makes a row of words answers -/
def WordsAt (w : World) (l : List Int) (e : Ending) (w' : World) : Prop :=
  ∃ a c, e = .returned (.slice a l.length c) ∧ OwnsU w' w.heap.size a c l ∧ Below w.heap.size w w'
end Go.Proofs.Ytbemgfpnoeogdaa.RefP
