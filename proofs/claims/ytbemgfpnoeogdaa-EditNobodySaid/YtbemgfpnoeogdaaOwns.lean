/-
  Rows that a call owns and appends to, in terms of what stands at each place.
-/
import Derived.Test.YtbemgfpnoeogdaaCells
import Derived.Deep.AppendLies
import Derived.WalkKit
namespace Go.Proofs.Ytbemgfpnoeogdaa.RefP
open Go.RowKit
set_option linter.unusedVariables false
set_option linter.unusedSimpArgs false

theorem Holds.congr' {w : World} {a : Option Addr} {m m' : Nat} {f g : Nat → Value} (h : Holds w a m f) (hm : m' = m) (e : ∀ i, i < m' → f i = g i) : Holds w a m' g := by
  subst hm; exact h.congr e
def rowL (m : Nat) (f : Nat → Value) : List Value := (List.range m).map f
theorem rowL_length (m : Nat) (f : Nat → Value) : (rowL m f).length = m := by simp [rowL]
theorem rowL_get (m : Nat) (f : Nat → Value) (j : Nat) (u : Value) (h : (rowL m f)[j]? = some u) : j < m ∧ u = f j := by
  have hj : j < m := by
    rcases Nat.lt_or_ge j m with h' | h'
    · exact h'
    · rw [List.getElem?_eq_none (by rw [rowL_length]; exact h')] at h; cases h
  refine ⟨hj, ?_⟩
  simp only [rowL, List.getElem?_map, List.getElem?_range hj, Option.map_some, Option.some.injEq] at h
  exact h.symm
theorem rowL_at (m : Nat) (f : Nat → Value) (j : Nat) (h : j < m) : (rowL m f)[j]? = some (f j) := by
  simp [rowL, h]
theorem rowL_append (a b : Nat) (f g : Nat → Value) : rowL a f ++ rowL b g = rowL (a + b) (fun j => if j < a then f j else g (j - a)) := by
  apply List.ext_getElem?
  intro j
  by_cases h : j < a
  · rw [List.getElem?_append_left (by rw [rowL_length]; exact h), rowL_at a f j h, rowL_at _ _ j (by omega)]; simp [h]
  · by_cases h2 : j < a + b
    · rw [List.getElem?_append_right (by rw [rowL_length]; omega), rowL_length, rowL_at b g (j - a) (by omega), rowL_at _ _ j h2]; simp [h]
    · rw [List.getElem?_eq_none (by simp [rowL_length]; omega), List.getElem?_eq_none (by rw [rowL_length]; omega)]
theorem rowL_congr {m : Nat} {f g : Nat → Value} (h : ∀ j, j < m → f j = g j) : rowL m f = rowL m g :=
  List.map_congr_left (fun j hj => h j (List.mem_range.1 hj))
theorem rowL_mem {m : Nat} {f : Nat → Value} {u : Value} (h : u ∈ rowL m f) : ∃ j, j < m ∧ u = f j := by
  obtain ⟨j, hj, rfl⟩ := List.mem_map.1 h
  exact ⟨j, List.mem_range.1 hj, rfl⟩
theorem rowL_zero (f : Nat → Value) : rowL 0 f = [] := rfl

theorem add_plain' (b off i : Nat) : (⟨b, off, none⟩ : Addr).add i = ⟨b, off + i, none⟩ := by
  unfold Addr.add
  by_cases h : i = 0 <;> simp [h]
/-- the cells of a row, as what is appended -/
theorem Holds.news {w : World} {b off m : Nat} {f : Nat → Value} (h : Holds w (some ⟨b, off, none⟩) m f) : ∀ j u, (rowL m f)[j]? = some u → w.cell? ((⟨b, off, none⟩ : Addr).add j) = some u := by
  intro j u hj
  obtain ⟨hjm, rfl⟩ := rowL_get m f j u hj
  obtain ⟨b', off', ha, hl, hc⟩ := h.get (by omega)
  simp only [Option.some.injEq, Addr.mk.injEq, and_true] at ha
  obtain ⟨rfl, rfl⟩ := ha
  rw [add_plain']
  exact hc j hjm

/-- a row that the call owns: of n elements of size cells each -/
abbrev Owns (w : World) (base : Nat) (e : TypeId) (size : Nat) (a : Option Addr) (n c : Nat) (f : Nat → Value) : Prop := w.ownsRow base e size (.slice a n c) n (rowL (n * size) f)
theorem Owns.holds {w : World} {base : Nat} {e : TypeId} {size : Nat} {a : Option Addr} {n c : Nat} {f : Nat → Value} (h : Owns w base e size a n c f) : Holds w a (n * size) f := by
  have k := Holds.of_owns h
  rw [rowL_length] at k
  exact k.congr fun i hi => by simp [List.getD_eq_getElem?_getD, rowL_at _ f i hi]
theorem Owns.nil (w : World) (base : Nat) (e : TypeId) (size : Nat) (f : Nat → Value) : Owns w base e size none 0 0 f := by
  show w.ownsRow base e size (.slice none 0 0) 0 (rowL (0 * size) f)
  rw [Nat.zero_mul, rowL_zero]
  exact World.ownsRow_nil w base e size
theorem Owns.empty (w : World) (base : Nat) (e : TypeId) (size : Nat) (f : Nat → Value) (hb : base ≤ w.heap.size) : Owns (w.alloc (.cells #[] e)) base e size (some ⟨w.heap.size, 0, none⟩) 0 0 f := by
  show (w.alloc (.cells #[] e)).ownsRow base e size (.slice (some ⟨w.heap.size, 0, none⟩) 0 0) 0 (rowL (0 * size) f)
  rw [Nat.zero_mul, rowL_zero]
  simpa using World.ownsRow_lit (base := base) (e := e) (size := size) w #[] 0 hb (by decide) (by simp)
/-- its block -/
theorem Owns.blk {w : World} {base : Nat} {e : TypeId} {size : Nat} {a : Option Addr} {n c : Nat} {f : Nat → Value} (h : Owns w base e size a n c f) : ∀ b off, a = some ⟨b, off, none⟩ → base ≤ b := by
  intro b off ha
  subst ha
  exact (h.lt b rfl).1
theorem Owns.congr {w : World} {base : Nat} {e : TypeId} {size : Nat} {a : Option Addr} {n c : Nat} {f g : Nat → Value} (h : Owns w base e size a n c f) (k : ∀ j, j < n * size → f j = g j) : Owns w base e size a n c g := by
  show w.ownsRow base e size (.slice a n c) n (rowL (n * size) g)
  rw [← rowL_congr k]; exact h
/-- what an append tells: the run's equation, the row behind it -/
structure Appended (P : Program) (w : World) (t : TypeId) (base : Nat) (e : TypeId) (size : Nat) (a : Option Addr) (n c : Nat) (x : Value) (m : Nat) (f : Nat → Value) (g cap : Nat) (w' : World) : Prop where
  run : ∀ ty, (Builtin.append_ #[t, t] ty #[.slice a n c, x]).run P w = .ok (.slice (some ⟨g, 0, none⟩) (n + m) cap) w'
  own : Owns w' base e size (some ⟨g, 0, none⟩) (n + m) cap f
  grown : w.grownBy w' (Value.slice a n c).ownBlock
  lt : g < w'.heap.size
  below : ∀ w0, Below base w0 w → base ≤ w.heap.size → Below base w0 w'
  at' : (Value.slice a n c).ownBlock = some g ∨ g = w.heap.size
theorem appended {P : Program} {w : World} (t : TypeId) (base : Nat) (e : TypeId) (i : TypeInfo) (z : Value) (size bytes : Nat) (ht : P.underlying t = some (.slice e)) (hi : P.info? e = some i) (hz : i.zero = some z)
    (hsize : i.size = size) (hby : i.bytes = bytes) (hzs : z.cells.size = size) (hsz : 0 < size)
    {a : Option Addr} {n c : Nat} {f : Nat → Value} (hown : Owns w base e size a n c f)
    {b off m c' : Nat} {h : Nat → Value} (hnew : Holds w (some ⟨b, off, none⟩) (m * size) h) (h1 : ∀ j, j < m * size → (h j).oneCell' = true)
    (hm : 0 < m) (h63 : n + m ≤ maxLen) (hbytes : (n + m) * bytes ≤ 140737488355328) (hbase : base ≤ w.heap.size) :
    ∃ g cap w', Appended P w t base e size a n c (.slice (some ⟨b, off, none⟩) m c') m (fun j => if j < n * size then f j else h (j - n * size)) g cap w' := by
  have key : ∀ ty, ∃ g cap w', (Builtin.append_ #[t, t] ty #[.slice a n c, .slice (some ⟨b, off, none⟩) m c']).run P w = .ok (.slice (some ⟨g, 0, none⟩) (n + m) cap) w' ∧
      w'.ownsRow base e size (.slice (some ⟨g, 0, none⟩) (n + m) cap) (n + m) (rowL (n * size) f ++ rowL (m * size) h) ∧ w.grownBy w' (Value.slice a n c).ownBlock ∧ ((Value.slice a n c).ownBlock = some g ∨ g = w.heap.size) ∧ g < w'.heap.size := fun ty =>
    run_append_lies (P := P) (w := w) t ty base e i z size bytes ht hi hz hsize hby hzs hsz (.slice a n c) n (rowL (n * size) f) hown ⟨b, off, none⟩ m c' (rowL (m * size) h) (rowL_length _ _) hnew.news
      (fun u hu => by obtain ⟨j, hj, rfl⟩ := rowL_mem hu; exact h1 j hj) hm h63 hbytes hbase w.heap.size rfl
  obtain ⟨g, cap, w', hrun, hown', hgr, hat, hlt⟩ := key t
  refine ⟨g, cap, w', fun ty => ?_, ?_, hgr, hlt, fun w0 hb hs => hb.grown hgr hs (fun k e => (hown.lt k e).1), hat⟩
  · exact hrun
  · show w'.ownsRow base e size (.slice (some ⟨g, 0, none⟩) (n + m) cap) (n + m) (rowL ((n + m) * size) _)
    rw [rowL_append, ← Nat.add_mul] at hown'
    exact hown'

/-- at a builtin append: by its run's equation -/
theorem wp_append_run {P : Program} {w : World} {o : Oper} {a : Act} {K : Act → World → Prop} {Q : Exit → Act → World → Prop} {s x : Operand} {t : TypeId} {v v' r : Value} {w' : World}
    (hrun : ∀ ty, (Builtin.append_ #[t, t] ty #[v, v']).run P w = .ok r w')
    (ho : o.op = .call { callee := .builtin .append, args := #[s, x], argTypes := #[t, t] }) (hs : a.eval s = v) (hx : a.eval x = v')
    (h : K (a.put o.dst r) w') : o.wp P a w K Q := by
  unfold Oper.wp execOp
  simp only [ho, resolve, invoke, builtin, Sem.run_bind, Sem.run_pure, Result.andThen_ok, List.map_toArray, List.map_cons, List.map_nil, hs, hx, hrun]
  exact h
theorem wpList_append_run {P : Program} {w : World} {ops : Array Oper} {rest : List Oper} {o : Oper} {a : Act} {Q : Exit → Act → World → Prop} {s x : Operand} {t : TypeId} {v v' r : Value} {w' : World}
    (hrun : ∀ ty, (Builtin.append_ #[t, t] ty #[v, v']).run P w = .ok r w') (hgd : o.guard = none)
    (ho : o.op = .call { callee := .builtin .append, args := #[s, x], argTypes := #[t, t] }) (hs : a.eval s = v) (hx : a.eval x = v')
    (h : wpList P ops Q rest (a.put o.dst r) w') : wpList P ops Q (o :: rest) a w :=
  wpList_plain hgd fun _ hK => wp_append_run hrun ho hs hx (hK _ _ h)
/-- at a step of a region that draws its order -/
theorem step_append_run {P : Program} {w : World} {ops : Array Oper} {o : Oper} {a : Act} {K : Act → World → Prop} {Q : Exit → Act → World → Prop} {E : Prop} {s x : Operand} {t : TypeId} {v v' r : Value} {w' : World}
    (hrun : ∀ ty, (Builtin.append_ #[t, t] ty #[v, v']).run P w = .ok r w') (hgd : o.guard = none)
    (ho : o.op = .call { callee := .builtin .append, args := #[s, x], argTypes := #[t, t] }) (hs : a.eval s = v) (hx : a.eval x = v')
    (h : K (a.put o.dst r) w') : if Region.wanted o (yielded ops a.tmps) = true then Oper.wp P o a w K Q else E := by
  rw [if_pos (by simp [Region.wanted, hgd])]
  exact wp_append_run hrun ho hs hx h
end Go.Proofs.Ytbemgfpnoeogdaa.RefP
