/-
  Rows that a call owns and appends to, of any things in depth (a codec). No program in sight.
-/
import Derived.Test.YtbemgfpnoeogdaaFAid
import Derived.Test.YtbemgfpnoeogdaaApi
namespace Go.Proofs.Ytbemgfpnoeogdaa.Dp
open Go.RowKit RefP FoP
set_option linter.unusedVariables false
set_option linter.unusedSimpArgs false
def ob (a : Option Addr) : List Nat := match a with | some p => [p.block] | none => []
theorem ob_own {a : Option Addr} {n c g : Nat} (h : (Value.slice a n c).ownBlock = some g) : g ∈ ob a := by
  cases a with
  | none => simp [Value.ownBlock] at h
  | some p => simp [Value.ownBlock] at h; simp [ob, h]
theorem own_ob {a : Option Addr} {n c g : Nat} (h : g ∈ ob a) : (Value.slice a n c).ownBlock = some g := by
  cases a with
  | none => simp [ob] at h
  | some p => simp [ob] at h; simp [Value.ownBlock, h]
/-- a cell of some cells -/
def rawF (cs : List Value) (j : Nat) : Value := if (cs.getD j (.bool false)).oneCell' = true then cs.getD j (.bool false) else .bool false
theorem rawF_one (cs : List Value) (j : Nat) : (rawF cs j).oneCell' = true := by
  unfold rawF
  split
  · assumption
  · rfl
theorem rawF_at {cs : List Value} {j : Nat} {v : Value} (h : cs[j]? = some v) (h1 : ∀ u ∈ cs, u.oneCell' = true) : rawF cs j = v := by
  have e : cs.getD j (.bool false) = v := by rw [List.getD_eq_getElem?_getD, h]; rfl
  unfold rawF
  rw [e, if_pos (h1 v (List.mem_of_getElem? h))]
/-- what a type's row wants to be known of -/
structure TIn (P : Program) (t e : TypeId) (k bytes : Nat) : Prop where
  und : P.underlying t = some (.slice e)
  inf : ∃ i z, P.info? e = some i ∧ i.zero = some z ∧ i.size = k ∧ i.bytes = bytes ∧ z.cells.size = k
theorem tin_mk {P : Program} {t e : TypeId} {z : Value} {k bytes : Nat} (ht : P.underlying t = some (.slice e)) (hi : (P.info? e).map (fun i => (i.zero, i.size, i.bytes)) = some (some z, k, bytes)) (hz : z.cells.size = k) : TIn P t e k bytes := by
  refine ⟨ht, ?_⟩
  cases h : P.info? e with
  | none => rw [h] at hi; cases hi
  | some i =>
    rw [h] at hi
    simp only [Option.map_some, Option.some.injEq, Prod.mk.injEq] at hi
    exact ⟨i, z, rfl, hi.1, hi.2.1, hi.2.2, hz⟩
/-- a row that the call owns, of things in depth -/
structure OwnV {α : Type} (C : Cod α) (wr : World) (S : List Nat) (w : World) (base : Nat) (e : TypeId) (a : Option Addr) (c : Nat) (xs : List α) : Prop where
  raw : ∃ raws : List (List Value), raws.length = xs.length ∧ OwnR C.k rawF [] w base e a c raws ∧ ∀ i x, xs[i]? = some x → C.rep wr S (raws.getD i []) x
variable {α : Type} {C : Cod α}
theorem OwnV.nil (wr : World) (S : List Nat) (w : World) (base : Nat) (e : TypeId) : OwnV C wr S w base e none 0 [] := ⟨[], rfl, OwnR.nil _ _ _ _ _ _, by simp⟩
theorem OwnV.heap {wr : World} {S : List Nat} {w w' : World} {base : Nat} {e : TypeId} {a : Option Addr} {c : Nat} {xs : List α} (h : OwnV C wr S w base e a c xs) (hk : ∀ g ∈ ob a, w'.heap[g]? = w.heap[g]?) : OwnV C wr S w' base e a c xs := by
  obtain ⟨raws, hl, hr, hx⟩ := h.raw
  exact ⟨raws, hl, FoP.OwnR.heap hr (fun g hg => hk g (ob_own hg)), hx⟩
theorem OwnV.lt {wr : World} {S : List Nat} {w : World} {base : Nat} {e : TypeId} {a : Option Addr} {c : Nat} {xs : List α} (h : OwnV C wr S w base e a c xs) : ∀ g ∈ ob a, base ≤ g ∧ g < w.heap.size := by
  obtain ⟨raws, hl, hr, hx⟩ := h.raw
  exact fun g hg => hr.lt g (own_ob hg)
theorem OwnV.below {wr : World} {S : List Nat} {w w' : World} {base : Nat} {e : TypeId} {a : Option Addr} {c : Nat} {xs : List α} (h : OwnV C wr S w base e a c xs) (hb : Below w.heap.size w w') : OwnV C wr S w' base e a c xs :=
  h.heap fun g hg => hb.block g (h.lt g hg).2
theorem OwnV.fr {T : List Nat} {wr : World} {S : List Nat} {w w' : World} {base : Nat} {e : TypeId} {a : Option Addr} {c : Nat} {xs : List α} (h : OwnV C wr S w base e a c xs) (F : Fr T w w') (hT : ∀ g ∈ ob a, g ∉ T) : OwnV C wr S w' base e a c xs :=
  h.heap fun g hg => F.block g (h.lt g hg).2 (hT g hg)
theorem OwnV.keep {wr wr' : World} {S : List Nat} {w : World} {base : Nat} {e : TypeId} {a : Option Addr} {c : Nat} {xs : List α} (h : OwnV C wr S w base e a c xs) (k : Keeps S wr wr') : OwnV C wr' S w base e a c xs := by
  obtain ⟨raws, hl, hr, hx⟩ := h.raw
  exact ⟨raws, hl, hr, fun i x hi => C.keep (hx i x hi) k⟩
theorem OwnV.more {wr : World} {S S' : List Nat} {w : World} {base : Nat} {e : TypeId} {a : Option Addr} {c : Nat} {xs : List α} (h : OwnV C wr S w base e a c xs) (k : ∀ b ∈ S', b ∈ S ∨ wr.heap.size ≤ b) : OwnV C wr S' w base e a c xs := by
  obtain ⟨raws, hl, hr, hx⟩ := h.raw
  exact ⟨raws, hl, hr, fun i x hi => C.more (hx i x hi) k⟩
theorem OwnV.rep {wr wr' : World} {S S' : List Nat} {w : World} {base : Nat} {e : TypeId} {a : Option Addr} {c : Nat} {xs : List α} (h : OwnV C wr S w base e a c xs) (k : ∀ cs x, C.rep wr S cs x → C.rep wr' S' cs x) : OwnV C wr' S' w base e a c xs := by
  obtain ⟨raws, hl, hr, hx⟩ := h.raw
  exact ⟨raws, hl, hr, fun i x hi => k _ _ (hx i x hi)⟩
theorem OwnV.lower {wr : World} {S : List Nat} {w : World} {base b' : Nat} {e : TypeId} {a : Option Addr} {c : Nat} {xs : List α} (h : OwnV C wr S w base e a c xs) (hb : b' ≤ base) : OwnV C wr S w b' e a c xs := by
  obtain ⟨raws, hl, hr, hx⟩ := h.raw
  exact ⟨raws, hl, hr.lower hb, hx⟩
theorem ownR_cap {β : Type} {k : Nat} {f : β → Nat → Value} {d : β} {w : World} {base : Nat} {e : TypeId} {a : Option Addr} {c : Nat} {l : List β} (h : OwnR k f d w base e a c l) : l.length ≤ c ∧ c ≤ maxLen := by
  rcases h.own.2 with q | ⟨g, cap, cur, e', hg, hh, hn, hm, hs, r⟩
  · have := q.1
    injection this with e1 e2 e3
    subst e3
    exact ⟨by omega, Nat.zero_le _⟩
  · injection e' with e1 e2 e3
    subst e3
    exact ⟨hn, hm⟩
/-- read as a row -/
theorem OwnV.hrow {S : List Nat} {w : World} {base : Nat} {e : TypeId} {a : Option Addr} {c : Nat} {xs : List α} (h : OwnV C w S w base e a c xs) (hk : 0 < C.k) (hS : ∀ g ∈ ob a, g ∉ S) : HRow C w S ⟨a, c⟩ xs := by
  obtain ⟨raws, hl, hr, hx⟩ := h.raw
  have hcap := ownR_cap hr
  refine ⟨by show xs.length ≤ c; omega, hcap.2, fun h0 => ?_⟩
  obtain ⟨b, off, ha, hb, _⟩ := hr.read.cell 0 (by omega) hk
  refine ⟨b, off, ha, hb, hS b (by show b ∈ ob a; rw [ha]; simp [ob]), fun i x hi => ?_⟩
  have hix : i < xs.length := (List.getElem?_eq_some_iff.1 hi).1
  obtain ⟨b', off', ha', _, hc⟩ := hr.read.cell i (by omega) hk
  rw [ha] at ha'
  simp only [Option.some.injEq, Addr.mk.injEq, and_true] at ha'
  obtain ⟨rfl, rfl⟩ := ha'
  have hrep := hx i x hi
  refine ⟨_, hrep, fun j v hj => ?_⟩
  have hj' : j < C.k := by rw [← C.len hrep]; exact (List.getElem?_eq_some_iff.1 hj).1
  rw [hc j hj', rawF_at hj (C.one hrep)]
/-- the cells of a row -/
theorem HRow.raws {w : World} {S : List Nat} {h : Hd} {xs : List α} (H : HRow C w S h xs) (hk : 0 < C.k) : ∃ raws : List (List Value), raws.length = xs.length ∧ RecS C.k rawF [] w h.a raws ∧ ∀ i x, xs[i]? = some x → C.rep w S (raws.getD i []) x := by
  by_cases h0 : 0 < xs.length
  · obtain ⟨b, off, ha, hb, hs, hc⟩ := H.row h0
    obtain ⟨raws, hl, hp⟩ := list_of_get xs.length (fun i cs => ∀ x, xs[i]? = some x → C.rep w S cs x ∧ ∀ j v, cs[j]? = some v → w.cell? ⟨b, off + i * C.k + j, none⟩ = some v) (fun i hi => by
      obtain ⟨cs, hr, hv⟩ := hc i xs[i] (List.getElem?_eq_getElem hi)
      refine ⟨cs, fun x hx => ?_⟩
      rw [List.getElem?_eq_getElem hi] at hx
      cases hx
      exact ⟨hr, hv⟩)
    have hat : ∀ i, i < xs.length → raws[i]? = some (raws.getD i []) := fun i hi => by
      rw [List.getD_eq_getElem?_getD, List.getElem?_eq_getElem (by omega)]; rfl
    refine ⟨raws, hl, ⟨⟨fun _ => ⟨b, off, ha, hb, fun m hm => ?_⟩⟩⟩, fun i x hx => ?_⟩
    · have hi := rec_div hm
      rw [hl] at hi
      have hj := Nat.mod_lt m hk
      obtain ⟨hr, hv⟩ := hp _ _ (hat _ hi) _ (List.getElem?_eq_getElem hi)
      have hcl := C.len hr
      have hget : (raws.getD (m / C.k) [])[m % C.k]? = some (raws.getD (m / C.k) [])[m % C.k] := List.getElem?_eq_getElem (by omega)
      have e : off + m = off + m / C.k * C.k + m % C.k := by
        have := Nat.div_add_mod m C.k
        rw [Nat.mul_comm] at this; omega
      rw [e, hv _ _ hget]
      unfold recF
      rw [rawF_at hget (C.one hr)]
    · have hi : i < xs.length := (List.getElem?_eq_some_iff.1 hx).1
      exact (hp _ _ (hat _ hi) x hx).1
  · have e : xs = [] := List.eq_nil_of_length_eq_zero (by omega)
    subst e
    exact ⟨[], rfl, RecS.nil _ _ _ _ _, by simp⟩
/-- what appending tells -/
structure AddedV (P : Program) (C : Cod α) (wr : World) (S : List Nat) (w : World) (base : Nat) (t e : TypeId) (a : Option Addr) (c n : Nat) (v : Value) (m : Nat) (xs' : List α) (g cap : Nat) (w' : World) : Prop where
  run : ∀ ty, (Builtin.append_ #[t, t] ty #[.slice a n c, v]).run P w = .ok (.slice (some ⟨g, 0, none⟩) (n + m) cap) w'
  own : OwnV C wr S w' base e (some ⟨g, 0, none⟩) cap xs'
  fr : Fr (ob a) w w'
  lt : g < w'.heap.size
  ge : base ≤ g
  at' : g ∈ ob a ∨ g = w.heap.size
theorem OwnV.addRaw {P : Program} {t e : TypeId} {bytes : Nat} (T : TIn P t e C.k bytes) (hk : 0 < C.k) {wr : World} {S : List Nat} {w : World} {base : Nat} {a : Option Addr} {c : Nat} {xs : List α} (h : OwnV C wr S w base e a c xs)
    {b : Option Addr} {c' : Nat} {ys : List α} {raws2 : List (List Value)} (hl2 : raws2.length = ys.length) (hr2 : RecS C.k rawF [] w b raws2) (hx2 : ∀ i x, ys[i]? = some x → C.rep wr S (raws2.getD i []) x) (h0 : 0 < ys.length) (hm : xs.length + ys.length ≤ maxLen) (hn : (xs.length + ys.length) * bytes ≤ 140737488355328) (hbase : base ≤ w.heap.size) :
    ∃ g cap w', AddedV P C wr S w base t e a c xs.length (.slice b ys.length c') ys.length (xs ++ ys) g cap w' := by
  obtain ⟨raws, hl, hr, hx⟩ := h.raw
  obtain ⟨i, z, hi, hz, hsize, hby, hzs⟩ := T.inf
  obtain ⟨g, cap, w', A⟩ := addRecs (P := P) (c' := c') base t e i z bytes T.und hi hz hsize hby hzs hk (fun x j _ => rawF_one x j) hr hr2 (by omega) (by rw [hl, hl2]; exact hm) (by rw [hl, hl2]; exact hn) hbase
  refine ⟨g, cap, w', ⟨fun ty => ?_, ⟨raws ++ raws2, by simp [hl, hl2], A.own, fun i x hi => ?_⟩, Fr.of_grown A.grown (fun q hq => ob_own hq), A.lt, A.ge, ?_⟩⟩
  · have := A.run ty
    rw [hl, hl2] at this
    exact this
  · by_cases hlt : i < xs.length
    · rw [List.getElem?_append_left hlt] at hi
      rw [List.getD_eq_getElem?_getD, List.getElem?_append_left (by omega), ← List.getD_eq_getElem?_getD]
      exact hx i x hi
    · rw [List.getElem?_append_right (by omega)] at hi
      rw [List.getD_eq_getElem?_getD, List.getElem?_append_right (by omega), ← List.getD_eq_getElem?_getD, hl]
      exact hx2 _ x hi
  · rcases A.at' with q | q
    · exact .inl (ob_own q)
    · exact .inr q
/-- one is appended: its block is made ahead -/
theorem OwnV.addLit {P : Program} {t e : TypeId} {bytes : Nat} (T : TIn P t e C.k bytes) (hk : 0 < C.k) {wr : World} {S : List Nat} {w : World} {base : Nat} {a : Option Addr} {c : Nat} {xs : List α} (h : OwnV C wr S w base e a c xs)
    {b : Nat} {cs : Array Value} {T' : TypeId} (B : Blk w b cs T') {x : α} (hr : C.rep wr S cs.toList x) (hm : xs.length + 1 ≤ 60000) (hby : bytes ≤ 1000) (hbase : base ≤ w.heap.size) :
    ∃ g cap w', AddedV P C wr S w base t e a c xs.length (.slice (some ⟨b, 0, none⟩) 1 1) 1 (xs ++ [x]) g cap w' := by
  have hlen := C.len hr
  have hR : RecS C.k rawF [] w (some ⟨b, 0, none⟩) [cs.toList] := rec_lit B cs.toList (fun j hj => by
    have hj' : j < cs.size := by rw [← Array.length_toList]; omega
    have e : cs.toList[j]? = some cs[j] := by simp [hj']
    rw [rawF_at e (C.one hr)]
    simp [hj'])
  have hmul : (xs.length + 1) * bytes ≤ 60000 * 1000 := Nat.mul_le_mul hm hby
  exact h.addRaw T hk (ys := [x]) (c' := 1) rfl hR (fun i y hi => by
    cases i with
    | zero => simp at hi; subst hi; simpa using hr
    | succ i => simp at hi) (by simp) (by simp [maxLen]; omega) (by simp only [List.length_singleton]; omega) hbase
/-- what appending any row tells -/
structure AddsV (P : Program) (C : Cod α) (wr : World) (S : List Nat) (w : World) (base : Nat) (t e : TypeId) (a : Option Addr) (c n : Nat) (v : Value) (xs' : List α) (a' : Option Addr) (cap : Nat) (w' : World) : Prop where
  run : ∀ ty, (Builtin.append_ #[t, t] ty #[.slice a n c, v]).run P w = .ok (.slice a' xs'.length cap) w'
  own : OwnV C wr S w' base e a' cap xs'
  fr : Fr (ob a) w w'
  at' : ∀ g ∈ ob a', g ∈ ob a ∨ g = w.heap.size
theorem OwnV.addRow {P : Program} {t e : TypeId} {bytes : Nat} (T : TIn P t e C.k bytes) (hk : 0 < C.k) {wr : World} {S : List Nat} {w : World} {base : Nat} {a : Option Addr} {c : Nat} {xs : List α} (h : OwnV C wr S w base e a c xs)
    {S2 : List Nat} {q : Hd} {ys : List α} (H : HRow C w S2 q ys) (hx2 : ∀ cs x, C.rep w S2 cs x → C.rep wr S cs x) (hm : xs.length + ys.length ≤ 60000) (hby : bytes ≤ 1000) (hbase : base ≤ w.heap.size) :
    ∃ a' cap w', AddsV P C wr S w base t e a c xs.length (.slice q.a ys.length q.c) (xs ++ ys) a' cap w' := by
  by_cases h0 : 0 < ys.length
  · obtain ⟨raws2, hl2, hr2, hp2⟩ := H.raws hk
    have hmul : (xs.length + ys.length) * bytes ≤ 60000 * 1000 := Nat.mul_le_mul hm hby
    obtain ⟨g, cap, w', A⟩ := h.addRaw T hk (c' := q.c) hl2 hr2 (fun i x hi => hx2 _ _ (hp2 i x hi)) h0 (by simp [maxLen]; omega) (by omega) hbase
    refine ⟨_, cap, w', fun ty => ?_, A.own, A.fr, fun g' hg' => ?_⟩
    · rw [List.length_append]; exact A.run ty
    · simp [ob] at hg'; subst hg'; exact A.at'
  · have e : ys = [] := List.eq_nil_of_length_eq_zero (by omega)
    subst e
    obtain ⟨i, z, hi, hz, hsize, hby, hzs⟩ := T.inf
    obtain ⟨raws, hl, hr, hx⟩ := h.raw
    refine ⟨a, c, w, fun ty => ?_, by simpa using h, Fr.refl _ _, fun g hg => .inl hg⟩
    have := append_none (P := P) t ty e i C.k T.und hi _ _ _ hr.own q.a q.c
    rw [hl] at this
    simpa using this
end Go.Proofs.Ytbemgfpnoeogdaa.Dp
