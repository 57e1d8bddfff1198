/-
  What a type's cells hold, in depth: a codec says of which plain thing some cells are, in a world, with rows that lie in none of some blocks. Numbers, bools, strings, records, rows. And how a law's arguments are opened. No program in sight.
-/
import Derived.Test.YtbemgfpnoeogdaaLift
import Derived.Test.YtbemgfpnoeogdaaCells
import Derived.Deep.Slices
namespace Go.Proofs.Ytbemgfpnoeogdaa.Dp
open Go.ChangeShapes Go.WideShapes Go.ChangeAt Go.RowKit Go.Joins Go.Deep RefP
set_option linter.unusedVariables false
set_option linter.unusedSimpArgs false

/-- every block is as it was, but for some -/
structure Keeps (S : List Nat) (w w' : World) : Prop where
  size : w.heap.size ≤ w'.heap.size
  block : ∀ b, b < w.heap.size → b ∉ S → w'.heap[b]? = w.heap[b]?
theorem Keeps.refl (S : List Nat) (w : World) : Keeps S w w := ⟨Nat.le_refl _, fun _ _ _ => rfl⟩
theorem Keeps.trans {S : List Nat} {a b c : World} (h : Keeps S a b) (k : Keeps S b c) : Keeps S a c :=
  ⟨Nat.le_trans h.size k.size, fun i hi hn => (k.block i (Nat.lt_of_lt_of_le hi h.size) hn).trans (h.block i hi hn)⟩
theorem Keeps.of_below {S : List Nat} {w w' : World} (h : Below w.heap.size w w') : Keeps S w w' := ⟨h.size, fun b hb _ => h.block b hb⟩
theorem Keeps.of_grown {S : List Nat} {w w' : World} {row : Option Nat} (h : w.grownBy w' row) (hr : ∀ g, row = some g → g ∈ S) : Keeps S w w' :=
  ⟨h.size, fun b hb hn => h.block b hb (fun e => hn (hr b e.symm))⟩
theorem Keeps.set {S : List Nat} {w : World} (a : Addr) (v : Value) (h : a.block ∈ S) : Keeps S w (w.setCell a v) :=
  ⟨by simp, fun b _ hn => Below.heap_setCell w a v b (fun e => hn (e ▸ h))⟩
theorem Keeps.more {S S' : List Nat} {w w' : World} (h : Keeps S w w') (k : ∀ b ∈ S, b ∈ S') : Keeps S' w w' := ⟨h.size, fun b hb hn => h.block b hb (fun e => hn (k b e))⟩
theorem Keeps.cell {S : List Nat} {w w' : World} (h : Keeps S w w') {p : Addr} (hb : p.block < w.heap.size) (hn : p.block ∉ S) : w'.cell? p = w.cell? p := World.cell?_of_block (h.block _ hb hn)
/-- but for blocks that were not there -/
theorem Keeps.below {S : List Nat} {w w' : World} (h : Keeps S w w') (B : Nat) (hB : B ≤ w.heap.size) (hS : ∀ b ∈ S, B ≤ b) : ∀ b, b < B → w'.heap[b]? = w.heap[b]? :=
  fun b hb => h.block b (by omega) (fun e => by have := hS b e; omega)

structure Cod (α : Type) where
  k : Nat
  rep : World → List Nat → List Value → α → Prop
  len : ∀ {w S cs x}, rep w S cs x → cs.length = k
  one : ∀ {w S cs x}, rep w S cs x → ∀ v ∈ cs, v.oneCell' = true
  keep : ∀ {w w' S cs x}, rep w S cs x → Keeps S w w' → rep w' S cs x
  more : ∀ {w S S' cs x}, rep w S cs x → (∀ b ∈ S', b ∈ S ∨ w.heap.size ≤ b) → rep w S' cs x

def intC (k : IntKind) : Cod Int where
  k := 1
  rep _ _ cs x := cs = [.int k x] ∧ (Lit.int k x).wf = true
  len h := by rw [h.1]; rfl
  one h := by rw [h.1]; simp [Value.oneCell']
  keep h _ := h
  more h _ := h
def boolC : Cod Bool where
  k := 1
  rep _ _ cs x := cs = [.bool x]
  len h := by rw [h]; rfl
  one h := by rw [h]; simp [Value.oneCell']
  keep h _ := h
  more h _ := h
def strC : Cod ByteArray where
  k := 1
  rep _ _ cs x := cs = [.string x] ∧ x.size ≤ maxLen
  len h := by rw [h.1]; rfl
  one h := by rw [h.1]; simp [Value.oneCell']
  keep h _ := h
  more h _ := h
def unitC : Cod Unit where
  k := 0
  rep _ _ cs _ := cs = []
  len h := by rw [h]; rfl
  one h := by rw [h]; simp
  keep h _ := h
  more h _ := h
def pairC {α β : Type} (A : Cod α) (B : Cod β) : Cod (α × β) where
  k := A.k + B.k
  rep w S cs x := ∃ c d, cs = c ++ d ∧ A.rep w S c x.1 ∧ B.rep w S d x.2
  len h := by
    obtain ⟨c, d, rfl, h1, h2⟩ := h
    rw [List.length_append, A.len h1, B.len h2]
  one h := by
    obtain ⟨c, d, rfl, h1, h2⟩ := h
    intro v hv
    rcases List.mem_append.1 hv with hv | hv
    · exact A.one h1 v hv
    · exact B.one h2 v hv
  keep h k := by
    obtain ⟨c, d, e, h1, h2⟩ := h
    exact ⟨c, d, e, A.keep h1 k, B.keep h2 k⟩
  more h k := by
    obtain ⟨c, d, e, h1, h2⟩ := h
    exact ⟨c, d, e, A.more h1 k, B.more h2 k⟩
/-- the cells of a row: of which things they are -/
def RowRep {α : Type} (E : Cod α) (w : World) (S : List Nat) (a : Option Addr) (xs : List α) : Prop :=
  0 < xs.length → ∃ b off, a = some ⟨b, off, none⟩ ∧ b < w.heap.size ∧ b ∉ S ∧ ∀ i x, xs[i]? = some x → ∃ cs, E.rep w S cs x ∧ ∀ j v, cs[j]? = some v → w.cell? ⟨b, off + i * E.k + j, none⟩ = some v
theorem RowRep.keep {α : Type} {E : Cod α} {w w' : World} {S : List Nat} {a : Option Addr} {xs : List α} (h : RowRep E w S a xs) (k : Keeps S w w') : RowRep E w' S a xs := by
  intro h0
  obtain ⟨b, off, ha, hb, hs, hc⟩ := h h0
  refine ⟨b, off, ha, Nat.lt_of_lt_of_le hb k.size, hs, fun i x hx => ?_⟩
  obtain ⟨cs, hr, hv⟩ := hc i x hx
  exact ⟨cs, E.keep hr k, fun j v hj => (k.cell (p := ⟨b, _, none⟩) hb hs).trans (hv j v hj)⟩
theorem RowRep.more {α : Type} {E : Cod α} {w : World} {S S' : List Nat} {a : Option Addr} {xs : List α} (h : RowRep E w S a xs) (k : ∀ b ∈ S', b ∈ S ∨ w.heap.size ≤ b) : RowRep E w S' a xs := by
  intro h0
  obtain ⟨b, off, ha, hb, hs, hc⟩ := h h0
  refine ⟨b, off, ha, hb, fun e => ?_, fun i x hx => ?_⟩
  · rcases k b e with q | q
    · exact hs q
    · omega
  · obtain ⟨cs, hr, hv⟩ := hc i x hx
    exact ⟨cs, E.more hr k, hv⟩
theorem RowRep.nil {α : Type} (E : Cod α) (w : World) (S : List Nat) (a : Option Addr) : RowRep E w S a [] := fun h => absurd h (by simp)
def rowC {α : Type} (E : Cod α) : Cod (List α) where
  k := 1
  rep w S cs xs := ∃ a c, cs = [.slice a xs.length c] ∧ xs.length ≤ c ∧ c ≤ maxLen ∧ RowRep E w S a xs
  len h := by obtain ⟨a, c, rfl, _⟩ := h; rfl
  one h := by obtain ⟨a, c, rfl, _⟩ := h; simp [Value.oneCell']
  keep h k := by
    obtain ⟨a, c, e, h1, h2, h3⟩ := h
    exact ⟨a, c, e, h1, h2, h3.keep k⟩
  more h k := by
    obtain ⟨a, c, e, h1, h2, h3⟩ := h
    exact ⟨a, c, e, h1, h2, h3.more k⟩
/-- read under another name -/
def isoC {α β : Type} (A : Cod α) (f : β → α) : Cod β where
  k := A.k
  rep w S cs x := A.rep w S cs (f x)
  len h := A.len h
  one h := A.one h
  keep h k := A.keep h k
  more h k := A.more h k

/-! arguments opened -/
def Opens (P : Program) (t : TypeId) {α : Type} (C : Cod α) : Prop :=
  ∀ {H : Type} (enc : TypeId × Value → H) (w : World) (base : Nat) (sp : Nat → Bool) (held : Bool) (fuel : Nat) (cs : List Value) (y : DataW H × List MemPlace), DataW.trod enc P w base sp held fuel t cs = some y → ∃ x, C.rep w [] cs x
theorem opens_int {P : Program} {t : TypeId} {k : IntKind} (ht : P.underlying t = some (.int k)) : Opens P t (intC k) := by
  intro H enc w base sp held fuel cs y h
  obtain ⟨n, e, _, hw⟩ := DataW.trod_int ht h
  exact ⟨n, e, hw⟩
theorem opens_bool {P : Program} {t : TypeId} (ht : P.underlying t = some .bool) : Opens P t boolC := by
  intro H enc w base sp held fuel cs y h
  obtain ⟨n, e, _⟩ := DataW.trod_bool ht h
  exact ⟨n, e⟩
theorem opens_str {P : Program} {t : TypeId} (ht : P.underlying t = some .string) : Opens P t strC := by
  intro H enc w base sp held fuel cs y h
  obtain ⟨n, e, _, hs⟩ := DataW.trod_string ht h
  exact ⟨n, e, hs⟩
/-- fields from an offset on -/
def OpensAt (P : Program) (fs : List Field) (off : Nat) {α : Type} (C : Cod α) : Prop :=
  ∀ {H : Type} (enc : TypeId × Value → H) (w : World) (base : Nat) (sp : Nat → Bool) (held : Bool) (fuel : Nat) (cs : List Value), cs.length = off + C.k →
    (∀ f ∈ fs, ∃ y, DataW.trod enc P w base sp held fuel f.type ((cs.drop f.offset).take (P.cellsOf f.type)) = some y) → ∃ x, C.rep w [] (cs.drop off) x
theorem opens_nil {P : Program} {off : Nat} : OpensAt P [] off unitC := by
  intro H enc w base sp held fuel cs hl _
  have : cs.length = off := hl
  refine ⟨(), ?_⟩
  show cs.drop off = []
  exact List.drop_eq_nil_of_le (by omega)
theorem opens_cons {P : Program} {f : Field} {fs : List Field} {off : Nat} {α β : Type} {A : Cod α} {B : Cod β} (ho : f.offset = off) (hk : P.cellsOf f.type = A.k) (hA : Opens P f.type A) (hB : OpensAt P fs (off + A.k) B) : OpensAt P (f :: fs) off (pairC A B) := by
  intro H enc w base sp held fuel cs hl h
  obtain ⟨y, hy⟩ := h f (by simp)
  rw [ho, hk] at hy
  obtain ⟨x, hx⟩ := hA enc w base sp held fuel _ y hy
  obtain ⟨z, hz⟩ := hB enc w base sp held fuel cs (by rw [hl]; show off + (A.k + B.k) = _; omega) (fun g hg => h g (by simp [hg]))
  refine ⟨(x, z), _, _, ?_, hx, hz⟩
  rw [← List.drop_drop, List.take_append_drop]
theorem opens_struct {P : Program} {t : TypeId} {fs : Array Field} {α : Type} {C : Cod α} (ht : P.underlying t = some (.struct fs)) (hk : P.cellsOf t = C.k) (h : OpensAt P fs.toList 0 C) : Opens P t C := by
  intro H enc w base sp held fuel cs y hy
  obtain ⟨xs, n, _, _, hl, hxs, hf⟩ := DataW.trod_struct ht hy
  obtain ⟨x, hx⟩ := h enc w base sp held n cs (by omega) (fun f hfm => by
    obtain ⟨i, hi, rfl⟩ := List.getElem_of_mem hfm
    have hi' : i < fs.size := by simpa using hi
    have := hf i fs[i] (by simp [hi'])
    rw [List.getElem?_eq_getElem (by omega)] at this
    exact ⟨_, this⟩)
  exact ⟨x, by simpa using hx⟩
theorem opens_iso {P : Program} {t : TypeId} {α β : Type} {C : Cod α} (f : β → α) (g : α → β) (hg : ∀ x, f (g x) = x) (h : Opens P t C) : Opens P t (isoC C f) := by
  intro H enc w base sp held fuel cs y hy
  obtain ⟨x, hx⟩ := h enc w base sp held fuel cs y hy
  exact ⟨g x, by show C.rep w [] cs (f (g x)); rw [hg]; exact hx⟩
theorem list_of_get {α : Type} (n : Nat) (p : Nat → α → Prop) (h : ∀ i, i < n → ∃ x, p i x) : ∃ l : List α, l.length = n ∧ ∀ i x, l[i]? = some x → p i x := by
  induction n with
  | zero => exact ⟨[], rfl, fun i x hx => by simp at hx⟩
  | succ n ih =>
    obtain ⟨l, hl, hp⟩ := ih (fun i hi => h i (by omega))
    obtain ⟨x, hx⟩ := h n (by omega)
    refine ⟨l ++ [x], by simp [hl], fun i y hy => ?_⟩
    by_cases hi : i < l.length
    · rw [List.getElem?_append_left hi] at hy
      exact hp i y hy
    · rw [List.getElem?_append_right (by omega)] at hy
      have : i = l.length := by
        by_cases e : i - l.length = 0
        · omega
        · rw [List.getElem?_eq_none (by simp; omega)] at hy; cases hy
      subst this
      simp at hy
      subst hy
      rw [hl]; exact hx
theorem opens_row {P : Program} {t e : TypeId} {α : Type} {E : Cod α} (ht : P.underlying t = some (.slice e)) (hk : P.cellsOf e = E.k) (hpos : 0 < E.k) (h : Opens P e E) : Opens P t (rowC E) := by
  intro H enc w base sp held fuel cs y hy
  rcases open_slice ht hy with ⟨rfl, _⟩ | ⟨a, len, cap, m, n, D, Pl, rfl, hb, hl, hm, hmm, _, hi⟩
  · exact ⟨[], none, 0, rfl, Nat.le_refl _, Nat.zero_le _, RowRep.nil _ _ _ _⟩
  · have hE : ∀ i, i < len → ∃ x, ∃ cs', E.rep w [] cs' x ∧ ∀ j v, cs'[j]? = some v → w.cell? (a.add (i * E.k + j)) = some v := by
      intro i hil
      obtain ⟨cs', hc, ht'⟩ := hi i (by rw [hmm]; split <;> omega)
      obtain ⟨x, hx⟩ := h enc w base sp held n cs' _ ht'
      rw [hk] at hc
      obtain ⟨_, hcl, hat⟩ := World.cells?_some hc
      refine ⟨x, cs', hx, fun j v hj => ?_⟩
      have hj' : j < E.k := by
        rw [← hcl]
        exact (List.getElem?_eq_some_iff.1 hj).1
      rw [← Go.Deep.add_add, hat j hj', hj]
    obtain ⟨xs, hxl, hxs⟩ := list_of_get len _ hE
    refine ⟨xs, some a, cap, by rw [hxl], by rw [hxl]; exact hl, hm, fun h0 => ?_⟩
    obtain ⟨cs0, hr0, hc0⟩ := hxs 0 (xs[0]'h0) (List.getElem?_eq_getElem h0)
    have hk0 := E.len hr0
    have hc00 := hc0 0 (cs0[0]'(by omega)) (List.getElem?_eq_getElem (by omega))
    obtain ⟨b, off, spot⟩ := a
    have hspot : spot = none := by simpa [Addr.add] using World.cell?_spot hc00
    subst hspot
    have hadd : ∀ i, (⟨b, off, none⟩ : Addr).add i = ⟨b, off + i, none⟩ := by
      intro i
      unfold Addr.add
      by_cases h : i = 0 <;> simp [h]
    rw [hadd] at hc00
    refine ⟨b, off, rfl, block_lt_of_cell hc00, by simp, fun i x hx => ?_⟩
    obtain ⟨cs', hr, hc⟩ := hxs i x hx
    refine ⟨cs', hr, fun j v hj => ?_⟩
    have := hc j v hj
    rw [hadd, ← Nat.add_assoc] at this
    exact this
/-- an argument that is a struct, by value, or a slice -/
theorem opens_agg {P : Program} {t : TypeId} {α : Type} {C : Cod α} (h : Opens P t C) {H : Type} {enc : TypeId × Value → H} {W : World} {base base' : Nat} {sp : Nat → Bool} {held : Bool} {v : Value} {d : DataW H} {p : List MemPlace} {fs : Array Field} (ht : P.underlying t = some (.struct fs))
    (hv : Value.okWide P W .any base t v) (hd : DataW.Trod enc P W base' sp held t v d p) : ∃ cs x, v = .agg cs ∧ C.rep W [] cs.toList x := by
  rw [Value.okWide] at hv
  rw [ht] at hv
  obtain ⟨cs, rfl, _, _⟩ := hv
  obtain ⟨fuel, hf⟩ := hd
  obtain ⟨x, hx⟩ := h enc W base' sp held fuel _ _ hf
  exact ⟨cs, x, rfl, by simpa [Value.cells] using hx⟩
theorem opens_slice {P : Program} {t e : TypeId} {α : Type} {E : Cod α} (h : Opens P t (rowC E)) {H : Type} {enc : TypeId × Value → H} {W : World} {base base' : Nat} {sp : Nat → Bool} {held : Bool} {v : Value} {d : DataW H} {p : List MemPlace} (ht : P.underlying t = some (.slice e))
    (hv : Value.okWide P W .any base t v) (hd : DataW.Trod enc P W base' sp held t v d p) : ∃ a c xs, v = .slice a xs.length c ∧ xs.length ≤ c ∧ xs.length ≤ maxLen ∧ RowRep E W [] a xs := by
  obtain ⟨a0, len, cap, rfl⟩ := okWide_slice ht hv
  obtain ⟨fuel, hf⟩ := hd
  obtain ⟨xs, a, c, e1, h1, h2, h3⟩ := h enc W base' sp held fuel _ _ hf
  simp [Value.cells] at e1
  obtain ⟨rfl, rfl, rfl⟩ := e1
  exact ⟨a0, cap, xs, rfl, h1, Nat.le_trans h1 h2, h3⟩
end Go.Proofs.Ytbemgfpnoeogdaa.Dp
