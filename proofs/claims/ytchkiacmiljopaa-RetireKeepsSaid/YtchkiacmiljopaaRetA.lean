/-
  retire: what a statement is asked of, opened; the statements' own start: plain laws.
-/
import Derived.Test.YtchkiacmiljopaaApiOpen
import Derived.Test.YtchkiacmiljopaaRetS
namespace Go.Proofs.Ytchkiacmiljopaa.MemP
open Go.RowKit RefP CellP HazP Dp
set_option linter.unusedVariables false
set_option linter.unusedSimpArgs false
/-- a row of bytes -/
structure Bys (w : World) (a : Option Addr) (xs : List Int) : Prop where
  row : Holds w a xs.length (fun i => .int .u8 (at0 xs i))
  rng : ∀ x ∈ xs, 0 ≤ x ∧ x ≤ 255
theorem Bys.below {w w' : World} {a : Option Addr} {xs : List Int} (h : Bys w a xs) (hb : Below w.heap.size w w') : Bys w' a xs := ⟨h.row.below hb, h.rng⟩
theorem Bys.cell {w : World} {a : Option Addr} {xs : List Int} (h : Bys w a xs) (i : Nat) (hi : i < xs.length) : ∃ b off, a = some ⟨b, off, none⟩ ∧ b < w.heap.size ∧ w.cell? ⟨b, off + i, none⟩ = some (.int .u8 (at0 xs i)) := by
  obtain ⟨b, off, ha, hb, hc⟩ := h.row.get (by omega)
  exact ⟨b, off, ha, hb, hc i hi⟩
theorem bys_of {w : World} {a : Option Addr} {xs : List Int} (h : RowRep (intC .u8) w [] a xs) : Bys w a xs := by
  refine ⟨⟨fun h0 => ?_⟩, fun x hx => ?_⟩
  · obtain ⟨b, off, ha, hb, _, hc⟩ := h h0
    refine ⟨b, off, ha, hb, fun i hi => ?_⟩
    obtain ⟨cs, ⟨hcs, hwf⟩, hv⟩ := hc i (at0 xs i) (by simp [at0, hi])
    subst hcs
    have := hv 0 _ rfl
    simpa [intC] using this
  · obtain ⟨i, hi, rfl⟩ := List.getElem_of_mem hx
    obtain ⟨b, off, ha, hb, _, hc⟩ := h (by omega)
    obtain ⟨cs, ⟨hcs, hwf⟩, hv⟩ := hc i xs[i] (by simp [hi])
    exact bounds_u8 hwf
theorem op_ask : Ox Try.prog 24 (pairC (intC .u8) (pairC (intC .u8) (pairC (rowC (intC .u8)) (pairC (rowC (intC .u8)) unitC)))) :=
  ox_struct Try.underlying24 (by kernel_rfl) (ox_cons rfl (by kernel_rfl) (ox_int Try.underlying5) (ox_cons rfl (by kernel_rfl) (ox_int Try.underlying5) (ox_cons rfl (by kernel_rfl) (ox_row Try.underlying22 (by kernel_rfl) (by decide) (ox_int Try.underlying5)) (ox_cons rfl (by kernel_rfl) (ox_row Try.underlying22 (by kernel_rfl) (by decide) (ox_int Try.underlying5)) ox_nil))))
/-- an ask: so many threads, as many to be retired, the blocks and what hazards name -/
structure AskV where
  t : Int
  r : Int
  wa : Option Addr
  ws : List Int
  wc : Nat
  na : Option Addr
  ns : List Int
  nc : Nat
abbrev AskV.cells (x : AskV) : Array Value := #[.int .u8 x.t, .int .u8 x.r, .slice x.wa x.ws.length x.wc, .slice x.na x.ns.length x.nc]
structure AskAt (w : World) (x : AskV) : Prop where
  t : 0 ≤ x.t ∧ x.t ≤ 255
  r : 0 ≤ x.r ∧ x.r ≤ 255
  W : Bys w x.wa x.ws
  N : Bys w x.na x.ns
  len : x.ws.length ≤ 9223372036854775807 ∧ x.ns.length ≤ 9223372036854775807
theorem AskAt.below {w w' : World} {x : AskV} (h : AskAt w x) (hb : Below w.heap.size w w') : AskAt w' x := ⟨h.t, h.r, h.W.below hb, h.N.below hb, h.len⟩
set_option maxRecDepth 10000 in
theorem ask_of {H : Type} {enc : TypeId × Value → H} {W : World} {base base' : Nat} {sp : Nat → Bool} {held : Bool} {v : Value} {d : DataW H} {p : List MemPlace}
    (hv : Value.okWide Try.prog W .any base 24 v) (hd : DataW.Trod enc Try.prog W base' sp held 24 v d p) : ∃ x : AskV, v = .agg x.cells ∧ AskAt W x := by
  obtain ⟨cs, ⟨t, r, ws, ns, u⟩, rfl, hr⟩ := opens_agg (ox_opens op_ask) Try.underlying24 hv hd
  obtain ⟨c1, d1, e1, ⟨rfl, w1⟩, c2, d2, rfl, ⟨rfl, w2⟩, c3, d3, rfl, ⟨wa, wc, rfl, hw1, hw2, hW⟩, c4, d4, rfl, ⟨na, nc, rfl, hn1, hn2, hN⟩, hu⟩ := hr
  obtain rfl : d4 = [] := hu
  simp only at hW hN w1 w2
  have hm : maxLen ≤ 9223372036854775807 := by unfold maxLen; omega
  refine ⟨⟨t, r, wa, ws, wc, na, ns, nc⟩, ?_, bounds_u8 w1, bounds_u8 w2, bys_of hW, bys_of hN, by simp only at hw1 hw2 hn1 hn2 ⊢; omega⟩
  have : cs = #[.int .u8 t, .int .u8 r, .slice wa ws.length wc, .slice na ns.length nc] := by
    apply Array.toList_inj.1
    rw [e1]
    rfl
  rw [this]
/-- the cells: k blocks are used, hazards name some -/
structure StL (T : Nat) (L : List (Int × Int)) (k : Nat) (nm : List Int) : Prop where
  len : L.length = 121 + 5 * T
  us : ∀ i : Nat, i < k → loadW L (60 + i) = useI 1 1
  hz : ∀ j : Nat, j < 2 * T → loadW L (120 + 3 * T + j) = at0 nm j
theorem StL.fresh (T : Nat) : StL T (freshL 60 T 0) 0 [] := by
  refine ⟨by simp [freshL]; omega, fun i h => by omega, fun j hj => ?_⟩
  have hl : (freshL 60 T 0).length = 121 + 5 * T := by simp [freshL]; omega
  rw [loadW_yes (inB_mk (by omega) (by rw [hl]; omega))]
  have e : (120 + 3 * (T : Int) + (j : Int)).toNat = 120 + 3 * T + j := by omega
  rw [e]
  have hlt : 120 + 3 * T + j < 2 * 60 + 5 * T + 1 := by omega
  have : freshW 60 T 0 (120 + 3 * T + j) = 0 := by
    unfold freshW
    rw [if_neg (by omega), if_neg (by omega), if_neg (by omega)]
  have hgt : (freshL 60 T 0)[120 + 3 * T + j]? = some (freshW 60 T 0 (120 + 3 * T + j), 0) := by
    unfold freshL
    rw [List.getElem?_map, List.getElem?_range hlt]
    rfl
  unfold at2
  rw [List.getD_eq_getElem?_getD, hgt, this]
  simp [at0]
theorem StL.use {T k : Nat} {L : List (Int × Int)} {nm : List Int} (h : StL T L k nm) (hk : k < 60) : StL T (storeL L (60 + k) (useI 1 1)) (k + 1) nm := by
  have hl := h.len
  refine ⟨by rw [storeL_length]; exact hl, fun i hi => ?_, fun j hj => ?_⟩
  · rw [loadW_store _ _ _ _ (by omega)]
    by_cases e : i = k
    · subst e; rw [if_pos rfl]
    · rw [if_neg (by omega), h.us i (by omega)]
  · rw [loadW_store _ _ _ _ (by omega), if_neg (by omega), h.hz j hj]
theorem StL.haz {T k : Nat} {L : List (Int × Int)} {nm : List Int} (h : StL T L k nm) (hk : k ≤ 60) (x : Int) (hn : nm.length < 2 * T) : StL T (storeL L (120 + 3 * T + nm.length) x) k (nm ++ [x]) := by
  have hl := h.len
  refine ⟨by rw [storeL_length]; exact hl, fun i hi => ?_, fun j hj => ?_⟩
  · rw [loadW_store _ _ _ _ (by omega), if_neg (by omega), h.us i hi]
  · rw [loadW_store _ _ _ _ (by omega)]
    by_cases e : j = nm.length
    · subst e; rw [if_pos rfl]; simp [at0]
    · rw [if_neg (by omega), h.hz j hj]
      unfold at0
      by_cases e2 : j < nm.length
      · simp [List.getElem?_append_left e2]
      · have h1 : nm[j]? = none := List.getElem?_eq_none (by omega)
        have h2 : (nm ++ [x])[j]? = none := List.getElem?_eq_none (by simp; omega)
        simp [h1, h2]
/-- which words were met -/
def metA (W : List Int) : Array Value := Array.ofFn (n := 60) fun p => .int .i64 (if packI (p.val : Nat) 1 ∈ W then 1 else 0)
theorem metA_at (W : List Int) (p : Nat) (h : p < 60) : (metA W)[p]? = some (.int .i64 (if packI p 1 ∈ W then 1 else 0)) := by simp [metA, h]
theorem metA_set (W : List Int) (p : Nat) (h : p < 60) (W' : List Int) (hW : ∀ x, x ∈ W' ↔ x ∈ W ∨ x = packI p 1) : (metA W).setIfInBounds p (.int .i64 1) = metA W' := by
  apply Array.ext_getElem?
  intro i
  rw [Array.getElem?_setIfInBounds]
  by_cases e : p = i
  · subst e
    have hs : p < (metA W).size := by simp [metA]; exact h
    rw [if_pos rfl, if_pos hs, metA_at W' p h, if_pos ((hW _).2 (.inr rfl))]
  · rw [if_neg e]
    by_cases hi : i < 60
    · rw [metA_at W i hi, metA_at W' i hi]
      have hne : packI (i : Int) 1 ≠ packI (p : Int) 1 := by
        rw [packI1 i (by omega), packI1 p (by omega)]; omega
      have := hW (packI (i : Nat) 1)
      by_cases hm : packI (i : Int) 1 ∈ W
      · rw [if_pos hm, if_pos (this.2 (.inl hm))]
      · rw [if_neg hm, if_neg (fun k => by
          rcases this.1 k with q | q
          · exact hm q
          · exact hne q)]
    · rw [Array.getElem?_eq_none (by simp [metA]; omega), Array.getElem?_eq_none (by simp [metA]; omega)]
/-- where a statement starts -/
structure StRes (w w' : World) (base o oc g gb gr T : Nat) (L : List (Int × Int)) (bs rs : List (List Value)) (lo : Nat) (r : Int) (wa na : Option Addr) (W nm ns ws : List Int) : Prop where
  m : MemB w' base o oc g gb gr 60 T L bs rs
  l : ListAt w' base lo r none 0 []
  hW : U64s w' wa W
  hN : U64s w' na nm
  hL : StL T L 60 nm
  nd : W.Nodup
  pk : ∀ x ∈ W, Pk 60 x
  wl : W.length ≤ ws.length
  nl : nm.length ≤ 2 * T
  npk : ∀ x ∈ nm, Pk 60 x
  n0 : 0 < ns.length → 0 < nm.length
  far : (∀ b ∈ blkS wa, base ≤ b ∧ b < lo) ∧ ∀ b ∈ blkS na, base ≤ b ∧ b < lo
  ge : w.heap.size ≤ g ∧ w.heap.size ≤ gb ∧ w.heap.size ≤ base ∧ base ≤ w'.heap.size
  b : Below w.heap.size w w'
def StartAt (w : World) (T : Nat) (r : Int) (ns ws : List Int) (e : Ending) (w' : World) : Prop :=
  ∃ base o oc g gb gr L bs rs lo wa wc W na nc nm, e = .returned (.tuple #[.pointer (some ⟨o, 0, none⟩), .pointer (some ⟨lo, 0, none⟩), .slice wa (W : List Int).length wc, .slice na (nm : List Int).length nc]) ∧ StRes w w' base o oc g gb gr T L bs rs lo r wa na W nm ns ws
end Go.Proofs.Ytchkiacmiljopaa.MemP
