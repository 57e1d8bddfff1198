/-
  'copy' into a whole new row of elements of several cells; what such a row is; reslices of rows in depth. No program in sight.
-/
import Derived.Test.YtbemgfpnoeogdaaOwnV
import Derived.Laws.CopyOwn
import Derived.Laws.MakeOwn
namespace Go.Proofs.Ytbemgfpnoeogdaa.Dp
open Go.RowKit RefP FoP
set_option linter.unusedVariables false
set_option linter.unusedSimpArgs false
theorem run_copyK {P : Program} (w : World) (dT sT ty elem : TypeId) (k g n dCap : Nat) (a : Addr) (sLen sCap : Nat) (cur : Array Value) (t : TypeId) (cs : List Value)
    (hu : P.underlying dT = some (.slice elem)) (hs : (P.info? elem).map (·.size) = some k) (hg : w.heap[g]? = some (.cells cur t (0, 0))) (hn : n ≤ sLen) (hcs : cs.length = n * k)
    (hsrc : ∀ j v, cs[j]? = some v → w.cell? (a.add j) = some v) (hfit : cur.size = n * k) (h1 : ∀ v ∈ cs, v.oneCell' = true) :
    (Builtin.copy_ #[dT, sT] ty #[.slice (some ⟨g, 0, none⟩) n dCap, .slice (some a) sLen sCap]).run P w = .ok (goInt n) (w.setRow g cs.toArray) := by
  have hl := run_loadCells_list (P := P) w a cs hsrc
  have hst := run_storeCells_at P g 0 t cs 0 cur w hg (by simp; omega) h1
  have hd : cur.toList.drop (0 + 0 + cs.length) = [] := List.drop_eq_nil_of_le (by simp; omega)
  rw [hd] at hst
  simp only [Nat.add_zero, List.take_zero, List.nil_append, List.append_nil] at hst
  have hm : Nat.min sLen n = n := Nat.min_eq_right hn
  cases hq : P.info? elem with
  | none => simp [hq] at hs
  | some i =>
    have hi : i.size = k := by simpa [hq] using hs
    rw [hcs] at hl
    simp [Builtin.copy_, run_underlying hu, Builtin.lenOf, Builtin.firstCells, sizeOf, typeInfo, hq, hi, hm, hl, hst]
theorem run_copyK_zero {P : Program} (w : World) (dT sT ty elem : TypeId) (d a : Option Addr) (k dCap sLen sCap : Nat) (hu : P.underlying dT = some (.slice elem)) (hs : (P.info? elem).map (·.size) = some k) :
    (Builtin.copy_ #[dT, sT] ty #[.slice d 0 dCap, .slice a sLen sCap]).run P w = .ok (goInt 0) w := by
  cases hq : P.info? elem with
  | none => simp [hq] at hs
  | some i =>
    have hl : ∀ (x : Addr), (loadCells x 0).run P w = .ok #[] w := fun x => by simpa using run_loadCells_list (P := P) w x [] (by simp)
    have hm : Nat.min sLen 0 = 0 := Nat.min_zero _
    cases d <;> cases a <;> simp [Builtin.copy_, run_underlying hu, Builtin.lenOf, Builtin.firstCells, sizeOf, typeInfo, hq, hm, storeCells, hl]
variable {α : Type} {C : Cod α}
/-- the row is a row of some plain things -/
theorem hrow_blk {w : World} {S : List Nat} {b c : Nat} {raws : List (List Value)} {T : TypeId} {xs : List α} (B : Blk w b (recA C.k rawF [] raws) T) (hk : 0 < C.k) (hl : raws.length = xs.length) (hx : ∀ i x, xs[i]? = some x → C.rep w S (raws.getD i []) x) (hS : b ∉ S) (hc : xs.length ≤ c) (hm : c ≤ maxLen) : HRow C w S ⟨some ⟨b, 0, none⟩, c⟩ xs := by
  refine ⟨hc, hm, fun h0 => ⟨b, 0, rfl, B.lt, hS, fun i x hi => ?_⟩⟩
  have hix : i < xs.length := (List.getElem?_eq_some_iff.1 hi).1
  have hrep := hx i x hi
  refine ⟨_, hrep, fun j v hj => ?_⟩
  have hj' : j < C.k := by rw [← C.len hrep]; exact (List.getElem?_eq_some_iff.1 hj).1
  have := rec_blk B i j (by omega) hj'
  rw [rawF_at hj (C.one hrep)] at this
  rw [Nat.zero_add]
  exact this
/-- what lies in a row that was copied whole -/
structure CopiedK (C : Cod α) (w w' : World) (S : List Nat) (g : Nat) (t : TypeId) (n : Nat) (xs : List α) : Prop where
  row : ∃ raws : List (List Value), raws.length = xs.length ∧ Blk w' g (recA C.k rawF [] raws) t ∧ ∀ i x, xs[i]? = some x → C.rep w S (raws.getD i []) x
  fr : Fr [g] w w'
theorem run_copy_hrow {P : Program} {w : World} {S : List Nat} (dT sT elem : TypeId) (hk : 0 < C.k) (hu : P.underlying dT = some (.slice elem)) (hs : (P.info? elem).map (·.size) = some C.k) {q : Hd} {xs : List α} (H : HRow C w S q xs) (n : Nat) (hn : n ≤ xs.length) {g dCap : Nat} {cur : Array Value} {t : TypeId} (B : Blk w g cur t) (hcur : cur.size = n * C.k) :
    ∃ w', (∀ ty, (Builtin.copy_ #[dT, sT] ty #[.slice (some ⟨g, 0, none⟩) n dCap, .slice q.a xs.length q.c]).run P w = .ok (goInt n) w') ∧ CopiedK C w w' S g t n (xs.take n) := by
  by_cases h0 : n = 0
  · subst h0
    refine ⟨w, fun ty => run_copyK_zero w dT sT ty elem _ _ C.k dCap xs.length q.c hu hs, ⟨⟨[], by simp, ?_, by simp⟩, Fr.refl _ _⟩⟩
    have e : cur = recA C.k rawF [] [] := by
      have : cur = #[] := Array.eq_empty_of_size_eq_zero (by omega)
      rw [this]; exact (Array.eq_empty_of_size_eq_zero (by rw [recA_size]; simp)).symm
    rw [← e]; exact B
  · obtain ⟨raws, hl, hr, hx⟩ := H.raws hk
    obtain ⟨b, off, ha, hb, hc⟩ := hr.row.get (by rw [hl]; have := Nat.mul_pos (show 0 < xs.length by omega) hk; omega)
    have hlt : (raws.take n).length = n := by rw [List.length_take]; omega
    have hmul : n * C.k ≤ xs.length * C.k := Nat.mul_le_mul_right _ hn
    have hsz : (recA C.k rawF [] (raws.take n)).size = n * C.k := by rw [recA_size, hlt]
    have hat : ∀ m, m < n * C.k → (recA C.k rawF [] (raws.take n))[m]? = some (recF C.k rawF [] raws m) := fun m hm => by
      rw [recA_flat _ _ _ _ _ (by rw [hlt]; exact hm)]
      have := rec_div hm
      simp [recF, List.getD_eq_getElem?_getD, List.getElem?_take, this]
    refine ⟨w.setRow g (recA C.k rawF [] (raws.take n)), fun ty => ?_, ⟨⟨raws.take n, by rw [hlt, List.length_take]; omega, Blk.row B _, fun i x hi => ?_⟩, Fr.row g _ (by simp)⟩⟩
    · rw [ha]
      have := run_copyK (P := P) w dT sT ty elem C.k g n dCap ⟨b, off, none⟩ xs.length q.c cur t (recA C.k rawF [] (raws.take n)).toList hu hs B.h hn (by simpa using hsz) (fun j v hj => ?_) hcur (fun v hv => ?_)
      · simpa using this
      · have hj' : j < n * C.k := by rw [← hsz]; simpa using (List.getElem?_eq_some_iff.1 hj).1
        rw [Array.getElem?_toList, hat j hj'] at hj
        cases hj
        rw [add_plain']
        exact hc j (by rw [hl]; omega)
      · obtain ⟨j, hj, rfl⟩ := List.getElem_of_mem hv
        have hj' : j < n * C.k := by rw [← hsz]; simpa using hj
        have e := hat j hj'
        rw [Array.getElem?_eq_getElem (by omega)] at e
        simp only [Option.some.injEq] at e
        rw [Array.getElem_toList, e]
        exact rawF_one _ _
    · rw [List.getElem?_take] at hi
      split at hi
      · rename_i hin
        have := hx i x hi
        rw [List.getD_eq_getElem?_getD] at this ⊢
        rw [List.getElem?_take, if_pos hin]
        exact this
      · cases hi
/-- at a builtin copy: by its run's equation -/
theorem wpList_copy_eq {P : Program} {w : World} {ops : Array Oper} {rest : List Oper} {o : Oper} {a : Act} {Q : Exit → Act → World → Prop} {s x : Operand} {t t' : TypeId} {v v' r : Value} {w' : World}
    (hrun : ∀ ty, (Builtin.copy_ #[t, t'] ty #[v, v']).run P w = .ok r w') (hgd : o.guard = none)
    (ho : o.op = .call { callee := .builtin .copy, args := #[s, x], argTypes := #[t, t'] }) (hs : a.eval s = v) (hx : a.eval x = v')
    (h : wpList P ops Q rest (a.put o.dst r) w') : wpList P ops Q (o :: rest) a w := by
  refine wpList_plain hgd fun K hK => ?_
  unfold Oper.wp
  simp [execOp, ho, resolve, invoke, builtin, hs, hx, hrun, Result.andThen]
  exact hK _ _ h
/-- the rest of a row behind some -/
theorem hrow_drop {w : World} {S : List Nat} {b off c : Nat} {l : List α} (h : HRow C w S ⟨some ⟨b, off, none⟩, c⟩ l) (k : Nat) (hk : k ≤ l.length) : HRow C w S ⟨some ⟨b, off + k * C.k, none⟩, c - k⟩ (l.drop k) := by
  have hle := h.le
  have hcap := h.cap
  simp only at hle hcap
  refine ⟨by simp only [List.length_drop]; omega, by show c - k ≤ maxLen; omega, fun ht => ?_⟩
  rw [List.length_drop] at ht
  obtain ⟨b', off', ha, hb, hn, hc⟩ := h.row (by omega)
  simp only [Option.some.injEq, Addr.mk.injEq, and_true] at ha
  obtain ⟨rfl, rfl⟩ := ha
  refine ⟨b, off + k * C.k, rfl, hb, hn, fun i x hx => ?_⟩
  rw [List.getElem?_drop] at hx
  obtain ⟨cs, hr, hv⟩ := hc (k + i) x hx
  refine ⟨cs, hr, fun j v hj => ?_⟩
  have := hv j v hj
  rw [show off + k * C.k + i * C.k + j = off + (k + i) * C.k + j by rw [Nat.add_mul]; omega]
  exact this
theorem hrow_none {w : World} {S : List Nat} {q : Hd} {l : List α} (h : HRow C w S q l) (k : Nat) (hk : l.length ≤ k) (a : Option Addr) (c : Nat) (hc : c ≤ maxLen) : HRow C w S ⟨a, c⟩ (l.drop k) := by
  rw [List.drop_eq_nil_of_le hk]
  exact ⟨Nat.zero_le _, hc, RowRep.nil _ _ _ _⟩
theorem made_size (z : Array Value) (n : Nat) : (madeCells z n).size = n := size_madeCells z n
end Go.Proofs.Ytbemgfpnoeogdaa.Dp
