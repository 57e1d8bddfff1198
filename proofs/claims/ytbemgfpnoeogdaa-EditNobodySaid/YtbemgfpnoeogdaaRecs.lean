/-
  Rows of records of k cells, of a list of any plain thing: blocks known whole, rows read, rows owned and appended to. No program in sight but for the numbers of types that are handed in.
-/
import Derived.Test.YtbemgfpnoeogdaaWords
namespace Go.Proofs.Ytbemgfpnoeogdaa.RefP
open Go.RowKit
set_option linter.unusedVariables false
set_option linter.unusedSimpArgs false

theorem _root_.Go.Calls.flip {P : Program} {f : FuncId} {args : Array Value} {w : World} {v : Value} (h : Calls P f args w fun e w' => e = .returned v ∧ w = w') : Calls P f args w fun e w' => e = .returned v ∧ w' = w :=
  h.mono fun _ _ h => ⟨h.1, h.2.symm⟩
/-- the m-th cell of a row of records of k cells -/
def recF {α : Type} (k : Nat) (f : α → Nat → Value) (d : α) (l : List α) (m : Nat) : Value := f (l.getD (m / k) d) (m % k)
theorem recF_at {α : Type} {k : Nat} (f : α → Nat → Value) (d : α) (l : List α) (i j : Nat) (hj : j < k) : recF k f d l (i * k + j) = f (l.getD i d) j := by
  have hk : 0 < k := by omega
  have e1 : (i * k + j) / k = i := by
    rw [Nat.add_comm, Nat.add_mul_div_right _ _ hk, Nat.div_eq_of_lt hj, Nat.zero_add]
  have e2 : (i * k + j) % k = j := by
    rw [Nat.add_comm, Nat.add_mul_mod_self_right, Nat.mod_eq_of_lt hj]
  simp only [recF, e1, e2]
theorem rec_lt {n k i j : Nat} (hi : i < n) (hj : j < k) : i * k + j < n * k :=
  Nat.lt_of_lt_of_le (by omega : i * k + j < i * k + k) (by rw [← Nat.succ_mul]; exact Nat.mul_le_mul_right k hi)
theorem rec_div {n k m : Nat} (hm : m < n * k) : m / k < n := Nat.div_lt_of_lt_mul (by rw [Nat.mul_comm]; exact hm)
theorem rec_pos {n k m : Nat} (hm : m < n * k) : 0 < k := Nat.pos_of_ne_zero (fun e => by subst e; simp at hm)
/-- the cells of a row known whole -/
def recA {α : Type} (k : Nat) (f : α → Nat → Value) (d : α) (l : List α) : Array Value := Array.ofFn (n := l.length * k) (fun x => recF k f d l x.val)
theorem recA_size {α : Type} (k : Nat) (f : α → Nat → Value) (d : α) (l : List α) : (recA k f d l).size = l.length * k := by simp [recA]
theorem recA_flat {α : Type} (k : Nat) (f : α → Nat → Value) (d : α) (l : List α) (m : Nat) (hm : m < l.length * k) : (recA k f d l)[m]? = some (recF k f d l m) := by simp [recA, hm]
theorem recA_at {α : Type} {k : Nat} (f : α → Nat → Value) (d : α) (l : List α) (i j : Nat) (hi : i < l.length) (hj : j < k) : (recA k f d l)[i * k + j]? = some (f (l.getD i d) j) := by
  rw [recA_flat k f d l _ (rec_lt hi hj), recF_at f d l i j hj]
theorem recA_ext {α : Type} {k : Nat} {f : α → Nat → Value} {d : α} {l : List α} {A : Array Value} (hs : A.size = l.length * k) (h : ∀ i j, i < l.length → j < k → A[i * k + j]? = some (f (l.getD i d) j)) : A = recA k f d l := by
  apply Array.ext_getElem?
  intro m
  by_cases hm : m < l.length * k
  · have hk := rec_pos hm
    have e : m = m / k * k + m % k := by rw [Nat.mul_comm]; exact (Nat.div_add_mod m k).symm
    have hi := rec_div hm
    have hj := Nat.mod_lt m hk
    rw [e, h _ _ hi hj, recA_at f d l _ _ hi hj]
  · rw [Array.getElem?_eq_none (by omega), Array.getElem?_eq_none (by rw [recA_size]; omega)]
/-- of no other place than these cells -/
theorem rec_ne {k i i' j j' : Nat} (hj : j < k) (hj' : j' < k) (h : i ≠ i' ∨ j ≠ j') : i * k + j ≠ i' * k + j' := by
  intro e
  have hk : 0 < k := by omega
  have e1 : (i * k + j) / k = i := by rw [Nat.add_comm, Nat.add_mul_div_right _ _ hk, Nat.div_eq_of_lt hj, Nat.zero_add]
  have e2 : (i' * k + j') / k = i' := by rw [Nat.add_comm, Nat.add_mul_div_right _ _ hk, Nat.div_eq_of_lt hj', Nat.zero_add]
  have e3 : i = i' := by rw [← e1, ← e2, e]
  subst e3
  rcases h with h | h
  · exact h rfl
  · omega
/-- one record was written -/
theorem recA_set {α : Type} {k : Nat} {f : α → Nat → Value} {d : α} {l : List α} {A : Array Value} (i : Nat) (x : α) (hi : i < l.length) (hs : A.size = l.length * k) (h1 : ∀ j, j < k → A[i * k + j]? = some (f x j))
    (h2 : ∀ i' j, i' ≠ i → i' < l.length → j < k → A[i' * k + j]? = (recA k f d l)[i' * k + j]?) : A = recA k f d (l.set i x) := by
  refine recA_ext (by simpa using hs) fun i' j hi' hj => ?_
  rw [List.length_set] at hi'
  by_cases e : i' = i
  · subst e
    rw [h1 j hj]; simp [List.getD_eq_getElem?_getD, hi]
  · rw [h2 i' j e hi' hj, recA_at f d l i' j hi' hj]
    have e' : ¬ i = i' := fun x => e x.symm
    simp [List.getD_eq_getElem?_getD, List.getElem?_set, e']
theorem recA_made {α : Type} {k : Nat} {f : α → Nat → Value} {d : α} (z : Array Value) (x : α) (n : Nat) (hz : z.size = k) (h : ∀ j, j < k → z[j]? = some (f x j)) : madeCells z (n * k) = recA k f d (List.replicate n x) := by
  refine recA_ext (by simp [size_madeCells]) fun i j hi hj => ?_
  rw [List.length_replicate] at hi
  have hk : 0 < k := by omega
  have e2 : (i * k + j) % z.size = j := by rw [hz, Nat.add_comm, Nat.add_mul_mod_self_right, Nat.mod_eq_of_lt hj]
  have e3 : (List.replicate n x).getD i d = x := by simp [List.getD_eq_getElem?_getD, List.getElem?_replicate, hi]
  have hlt := rec_lt hi hj
  have hj' := h j hj
  have hjs : j < z.size := by omega
  rw [e3, ← hj']
  simp [madeCells, hlt, e2, hjs, Array.getD]

/-- a row of records that is read -/
structure RecS {α : Type} (k : Nat) (f : α → Nat → Value) (d : α) (w : World) (a : Option Addr) (l : List α) : Prop where
  row : Holds w a (l.length * k) (recF k f d l)
theorem RecS.below {α : Type} {k : Nat} {f : α → Nat → Value} {d : α} {w w' : World} {a : Option Addr} {l : List α} (h : RecS k f d w a l) (hb : Below w.heap.size w w') : RecS k f d w' a l := ⟨h.row.below hb⟩
theorem RecS.nil {α : Type} (k : Nat) (f : α → Nat → Value) (d : α) (w : World) (a : Option Addr) : RecS k f d w a [] := ⟨by simpa using Holds.nil w a _⟩
theorem RecS.cell {α : Type} {k : Nat} {f : α → Nat → Value} {d : α} {w : World} {a : Option Addr} {l : List α} (h : RecS k f d w a l) (i : Nat) (hi : i < l.length) (hk : 0 < k) :
    ∃ b off, a = some ⟨b, off, none⟩ ∧ b < w.heap.size ∧ ∀ j, j < k → w.cell? ⟨b, off + i * k + j, none⟩ = some (f (l.getD i d) j) := by
  obtain ⟨b, off, ha, hl, hc⟩ := h.row.get (by have := rec_lt hi hk; omega)
  refine ⟨b, off, ha, hl, fun j hj => ?_⟩
  rw [Nat.add_assoc, hc _ (rec_lt hi hj), recF_at f d l i j hj]
theorem RecS.of_blk {α : Type} {k : Nat} {f : α → Nat → Value} {d : α} {w : World} {b : Nat} {l : List α} {T : TypeId} (B : Blk w b (recA k f d l) T) : RecS k f d w (some ⟨b, 0, none⟩) l :=
  ⟨⟨fun _ => ⟨b, 0, rfl, B.lt, fun i hi => by rw [Nat.zero_add]; exact B.at i (recA_flat k f d l i hi)⟩⟩⟩
/-- the cells of a record in a block known whole -/
theorem rec_blk {α : Type} {k : Nat} {f : α → Nat → Value} {d : α} {w : World} {b : Nat} {l : List α} {T : TypeId} (B : Blk w b (recA k f d l) T) (i j : Nat) (hi : i < l.length) (hj : j < k) : w.cell? ⟨b, i * k + j, none⟩ = some (f (l.getD i d) j) :=
  B.at _ (recA_at f d l i j hi hj)

/-- a row of records that the call owns -/
structure OwnR {α : Type} (k : Nat) (f : α → Nat → Value) (d : α) (w : World) (base : Nat) (e : TypeId) (a : Option Addr) (c : Nat) (l : List α) : Prop where
  own : Owns w base e k a l.length c (recF k f d l)
theorem OwnR.below {α : Type} {k : Nat} {f : α → Nat → Value} {d : α} {w w' : World} {base : Nat} {e : TypeId} {a : Option Addr} {c : Nat} {l : List α} (h : OwnR k f d w base e a c l) (hb : Below w.heap.size w w') : OwnR k f d w' base e a c l := ⟨h.own.below2 hb⟩
theorem OwnR.kept {α : Type} {k : Nat} {f : α → Nat → Value} {d : α} {w w' : World} {row : Option Nat} {base : Nat} {e : TypeId} {a : Option Addr} {c : Nat} {l : List α} (h : OwnR k f d w base e a c l) (hg : w.grownBy w' row)
    (hne : (Value.slice a l.length c).ownBlock = none ∨ (Value.slice a l.length c).ownBlock ≠ row) : OwnR k f d w' base e a c l := ⟨World.ownsRow.kept h.own hg hne⟩
theorem OwnR.nil {α : Type} (k : Nat) (f : α → Nat → Value) (d : α) (w : World) (base : Nat) (e : TypeId) : OwnR k f d w base e none 0 ([] : List α) := ⟨Owns.nil _ _ _ _ _⟩
theorem OwnR.empty {α : Type} (k : Nat) (f : α → Nat → Value) (d : α) (w : World) (base : Nat) (e : TypeId) (hb : base ≤ w.heap.size) : OwnR k f d (w.alloc (.cells #[] e)) base e (some ⟨w.heap.size, 0, none⟩) 0 ([] : List α) := ⟨Owns.empty _ _ _ _ _ hb⟩
theorem OwnR.read {α : Type} {k : Nat} {f : α → Nat → Value} {d : α} {w : World} {base : Nat} {e : TypeId} {a : Option Addr} {c : Nat} {l : List α} (h : OwnR k f d w base e a c l) : RecS k f d w a l := ⟨h.own.holds⟩
theorem OwnR.lower {α : Type} {k : Nat} {f : α → Nat → Value} {d : α} {w : World} {base b' : Nat} {e : TypeId} {a : Option Addr} {c : Nat} {l : List α} (h : OwnR k f d w base e a c l) (hb : b' ≤ base) : OwnR k f d w b' e a c l := by
  refine ⟨⟨h.own.1, ?_⟩⟩
  rcases h.own.2 with q | ⟨g, cap, cur, e, hg, r⟩
  · exact .inl q
  · exact .inr ⟨g, cap, cur, e, Nat.le_trans hb hg, r⟩
theorem OwnR.lt {α : Type} {k : Nat} {f : α → Nat → Value} {d : α} {w : World} {base : Nat} {e : TypeId} {a : Option Addr} {c : Nat} {l : List α} (h : OwnR k f d w base e a c l) (g : Nat) (q : (Value.slice a l.length c).ownBlock = some g) : base ≤ g ∧ g < w.heap.size := World.ownsRow.lt h.own g q
theorem OwnR.far {α : Type} {k : Nat} {f : α → Nat → Value} {d : α} {w : World} {base : Nat} {e : TypeId} {a : Option Addr} {c : Nat} {l : List α} (h : OwnR k f d w base e a c l) (p : Addr) (v : Value) (hne : (Value.slice a l.length c).ownBlock ≠ some p.block) : OwnR k f d (w.setCell p v) base e a c l :=
  h.kept (row := some p.block) ⟨rfl, rfl, rfl, by simp, fun i hi hn => Below.heap_setCell w p v i (fun e => hn (by rw [e]))⟩ (.inr hne)

theorem recF_append {α : Type} {k : Nat} (f : α → Nat → Value) (d : α) (l r : List α) (m : Nat) (hm : m < (l.length + r.length) * k) : (if m < l.length * k then recF k f d l m else recF k f d r (m - l.length * k)) = recF k f d (l ++ r) m := by
  have hk := rec_pos hm
  by_cases h : m < l.length * k
  · rw [if_pos h]
    have := rec_div h
    simp [recF, List.getD_eq_getElem?_getD, List.getElem?_append_left this]
  · rw [if_neg h]
    obtain ⟨q, rfl⟩ : ∃ q, m = q + l.length * k := ⟨m - l.length * k, by omega⟩
    have e1 : (q + l.length * k) / k = q / k + l.length := Nat.add_mul_div_right _ _ hk
    have e2 : (q + l.length * k) % k = q % k := Nat.add_mul_mod_self_right _ _ _
    simp only [recF, e1, e2, Nat.add_sub_cancel]
    rw [List.getD_eq_getElem?_getD, List.getD_eq_getElem?_getD, List.getElem?_append_right (Nat.le_add_left _ _), Nat.add_sub_cancel]
/-- what appending records tells -/
structure AddedR {α : Type} (P : Program) (k : Nat) (f : α → Nat → Value) (d : α) (w : World) (base : Nat) (t e : TypeId) (a : Option Addr) (c : Nat) (l : List α) (v : Value) (m : Nat) (l' : List α) (g cap : Nat) (w' : World) : Prop where
  run : ∀ ty, (Builtin.append_ #[t, t] ty #[.slice a l.length c, v]).run P w = .ok (.slice (some ⟨g, 0, none⟩) (l.length + m) cap) w'
  own : OwnR k f d w' base e (some ⟨g, 0, none⟩) cap l'
  grown : w.grownBy w' (Value.slice a l.length c).ownBlock
  lt : g < w'.heap.size
  ge : base ≤ g
  at' : (Value.slice a l.length c).ownBlock = some g ∨ g = w.heap.size
theorem AddedR.keeps {α : Type} {P : Program} {k : Nat} {f : α → Nat → Value} {d : α} {w : World} {base : Nat} {t e : TypeId} {a : Option Addr} {c : Nat} {l : List α} {v : Value} {m : Nat} {l' : List α} {g cap : Nat} {w' : World} (A : AddedR P k f d w base t e a c l v m l' g cap w') (hl : ∀ k, (Value.slice a l.length c).ownBlock = some k → base ≤ k)
    (w0 : World) (B : Nat) (hB : B ≤ base) (h : Below B w0 w) (hs : base ≤ w.heap.size) : Below B w0 w' :=
  h.grown A.grown (Nat.le_trans hB hs) (fun k e => Nat.le_trans hB (hl k e))
/-- a row of records is appended -/
theorem addRecs {α : Type} {P : Program} {k : Nat} {f : α → Nat → Value} {d : α} {w : World} (base : Nat) (t e : TypeId) (i : TypeInfo) (z : Value) (bytes : Nat) (ht : P.underlying t = some (.slice e)) (hi : P.info? e = some i) (hz : i.zero = some z) (hsize : i.size = k) (hby : i.bytes = bytes) (hzs : z.cells.size = k) (hk : 0 < k)
    (hone : ∀ x j, j < k → (f x j).oneCell' = true) {a : Option Addr} {c : Nat} {l : List α} (h : OwnR k f d w base e a c l) {b : Option Addr} {c' : Nat} {xs : List α} (hx : RecS k f d w b xs) (h0 : 0 < xs.length) (hm : l.length + xs.length ≤ maxLen) (hn : (l.length + xs.length) * bytes ≤ 140737488355328) (hbase : base ≤ w.heap.size) :
    ∃ g cap w', AddedR P k f d w base t e a c l (.slice b xs.length c') xs.length (l ++ xs) g cap w' := by
  obtain ⟨bb, off, rfl, hbl, hc⟩ := hx.row.get (by have := rec_lt h0 hk; omega)
  obtain ⟨g, cap, w', A⟩ := appended (P := P) (c' := c') t base e i z k bytes ht hi hz hsize hby hzs hk h.own hx.row (fun j hj => hone _ _ (Nat.mod_lt _ hk)) h0 hm hn hbase
  refine ⟨g, cap, w', A.run, ⟨?_⟩, A.grown, A.lt, (World.ownsRow.lt A.own g rfl).1, A.at'⟩
  rw [show (l ++ xs).length = l.length + xs.length by simp]
  exact A.own.congr fun j hj => recF_append f d l xs j hj
/-- one record is appended: its block is made ahead -/
theorem rec_lit {α : Type} {k : Nat} {f : α → Nat → Value} {d : α} {w : World} {b : Nat} {cs : Array Value} {T : TypeId} (B : Blk w b cs T) (x : α) (h : ∀ j, j < k → cs[j]? = some (f x j)) : RecS k f d w (some ⟨b, 0, none⟩) [x] :=
  ⟨⟨fun _ => ⟨b, 0, rfl, B.lt, fun i hi => by
    have hi' : i < k := by simpa using hi
    rw [Nat.zero_add, B.at i (h i hi')]
    have := recF_at f d [x] 0 i hi'
    rw [Nat.zero_mul, Nat.zero_add] at this
    rw [this]; simp⟩⟩⟩
theorem append_none {P : Program} {w : World} {base : Nat} (t ty e : TypeId) (i : TypeInfo) (size : Nat) (ht : P.underlying t = some (.slice e)) (hi : P.info? e = some i)
    (v : Value) (n : Nat) (xs : List Value) (hown : w.ownsRow base e size v n xs) (p : Option Addr) (c' : Nat) :
    (Builtin.append_ #[t, t] ty #[v, .slice p 0 c']).run P w = .ok v w := by
  rcases hown.2 with ⟨rfl, rfl⟩ | ⟨g, cap, cur, rfl, _, _, hnc, _⟩
  · cases p <;> simp [Builtin.append_, run_underlying ht, sizeOf, typeInfo, hi, Builtin.lenOf, Builtin.firstCells, loadCells, loadCellsFrom, Result.andThen]
  · cases p <;> simp [Builtin.append_, run_underlying ht, sizeOf, typeInfo, hi, Builtin.lenOf, Builtin.firstCells, hnc, storeCells, loadCells, loadCellsFrom, Result.andThen]
/-- nothing is appended: the row stays -/
theorem addRecs_zero {α : Type} {P : Program} {k : Nat} {f : α → Nat → Value} {d : α} {w : World} (base g0 : Nat) (t e : TypeId) (i : TypeInfo) (ht : P.underlying t = some (.slice e)) (hi : P.info? e = some i) {c : Nat} {l : List α} (h : OwnR k f d w base e (some ⟨g0, 0, none⟩) c l) (b : Option Addr) (c' : Nat) :
    AddedR P k f d w base t e (some ⟨g0, 0, none⟩) c l (.slice b 0 c') 0 l g0 c w :=
  ⟨fun ty => by rw [Nat.add_zero]; exact append_none (P := P) t ty e i k ht hi _ _ _ h.own b c', h, ⟨rfl, rfl, rfl, Nat.le_refl _, fun _ _ _ => rfl⟩, (h.lt g0 rfl).2, (h.lt g0 rfl).1, .inl rfl⟩
end Go.Proofs.Ytbemgfpnoeogdaa.RefP
