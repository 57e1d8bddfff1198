/-
  claim: two tasks on one memory: how they lie; an array of two bytes, opened.
-/
import Derived.Test.YtppclnnkleebkaaClaimD
import Derived.Test.YtppclnnkleebkaaLift
namespace Go.Proofs.Ytppclnnkleebkaa.MemP
open Go.ChangeShapes Go.WideShapes Go.ChangeAt Go.Joins Go.RowKit RefP CellP
set_option linter.unusedVariables false
set_option linter.unusedSimpArgs false
theorem arr2_of {P : Program} {H : Type} {enc : TypeId × Value → H} {W : World} {base base' : Nat} {sp : Nat → Bool} {held : Bool} {t e : TypeId} {k : IntKind} {v : Value} {d : DataW H} {p : List MemPlace}
    (ht : P.underlying t = some (.array 2 e)) (he : P.underlying e = some (.int k)) (hC : P.cellsOf e = 1) (hCt : P.cellsOf t = 2)
    (hv : Value.okWide P W .any base t v) (hd : DataW.Trod enc P W base' sp held t v d p) : ∃ a b : Int, v = .agg #[.int k a, .int k b] ∧ (Lit.int k a).wf = true ∧ (Lit.int k b).wf = true := by
  rw [Value.okWide] at hv
  rw [ht] at hv
  obtain ⟨cs, rfl, _⟩ := hv
  obtain ⟨fuel, hf⟩ := hd
  obtain ⟨xs, m, _, _, hl, hxl, hat⟩ := DataW.trod_array ht hf
  have hcs : cs.size = 2 := by
    have : ((Value.agg cs).cells).toList.length = 2 := by rw [hl, hCt]
    simpa [Value.cells] using this
  obtain ⟨c0, c1, rfl⟩ := Joins.array2 hcs
  have h0 := hat 0 (by omega)
  have h1 := hat 1 (by omega)
  rw [hC] at h0 h1
  have x0 : xs[0]? = some (xs[0]'(by omega)) := List.getElem?_eq_getElem (by omega)
  have x1 : xs[1]? = some (xs[1]'(by omega)) := List.getElem?_eq_getElem (by omega)
  rw [x0] at h0
  rw [x1] at h1
  simp [Value.cells] at h0 h1
  obtain ⟨a, ha, _, wa⟩ := DataW.trod_int he h0
  obtain ⟨b, hb, _, wb⟩ := DataW.trod_int he h1
  simp only [List.cons.injEq, and_true] at ha hb
  subst ha hb
  exact ⟨a, b, rfl, wa, wb⟩
set_option maxRecDepth 20000 in
theorem bytes2_of {H : Type} {enc : TypeId × Value → H} {W : World} {base base' : Nat} {sp : Nat → Bool} {held : Bool} {v : Value} {d : DataW H} {p : List MemPlace}
    (hv : Value.okWide Try.prog W .any base 22 v) (hd : DataW.Trod enc Try.prog W base' sp held 22 v d p) : ∃ a b : Int, v = .agg #[.int .u8 a, .int .u8 b] ∧ (0 ≤ a ∧ a ≤ 255) ∧ 0 ≤ b ∧ b ≤ 255 := by
  obtain ⟨a, b, rfl, wa, wb⟩ := arr2_of Try.underlying22 Try.underlying5 (by kernel_rfl) (by kernel_rfl) hv hd
  exact ⟨a, b, rfl, bounds_u8 wa, bounds_u8 wb⟩
/-- two tasks: a at ta, b at tb; the blocks X are none of theirs -/
structure Tw (w0 : World) (base o oc g gb gr A T : Nat) (L : List (Int × Int)) (bs rs : List (List Value)) (ta ma : Nat) (da : Option Addr × Nat) (sa : QS) (tb mb : Nat) (db : Option Addr × Nat) (sb : QS) (X : List Nat) (wr : World) : Prop where
  b : Below w0.heap.size w0 wr
  m : MemB wr base o oc g gb gr A T L bs rs
  A : ClQ wr base o ta ma da sa
  B : ClQ wr base o tb mb db sb
  ne : ∀ q ∈ cOwn ta da sa, q ∉ cOwn tb db sb
  xa : ∀ q ∈ X, base ≤ q ∧ q < wr.heap.size ∧ q ∉ cOwn ta da sa ∧ q ∉ cOwn tb db sb
  hs : base ≤ wr.heap.size
  lo : w0.heap.size ≤ g ∧ w0.heap.size ≤ gb ∧ w0.heap.size ≤ base
theorem Tw.swap {w0 : World} {base o oc g gb gr A T : Nat} {L : List (Int × Int)} {bs rs : List (List Value)} {ta ma : Nat} {da : Option Addr × Nat} {sa : QS} {tb mb : Nat} {db : Option Addr × Nat} {sb : QS} {X : List Nat} {wr : World} (h : Tw w0 base o oc g gb gr A T L bs rs ta ma da sa tb mb db sb X wr) : Tw w0 base o oc g gb gr A T L bs rs tb mb db sb ta ma da sa X wr :=
  ⟨h.b, h.m, h.B, h.A, fun q h1 h2 => h.ne q h2 h1, fun q hq => ⟨(h.xa q hq).1, (h.xa q hq).2.1, (h.xa q hq).2.2.2, (h.xa q hq).2.2.1⟩, h.hs, h.lo⟩
theorem Tw.under {w0 : World} {base o oc g gb gr A T : Nat} {L : List (Int × Int)} {bs rs : List (List Value)} {ta ma : Nat} {da : Option Addr × Nat} {sa : QS} {tb mb : Nat} {db : Option Addr × Nat} {sb : QS} {X : List Nat} {wr : World} (h : Tw w0 base o oc g gb gr A T L bs rs ta ma da sa tb mb db sb X wr) {wx : World} (hb : Below wr.heap.size wr wx) : Tw w0 base o oc g gb gr A T L bs rs ta ma da sa tb mb db sb X wx :=
  ⟨below_push2 h.b hb (Nat.le_refl _), h.m.under hb, h.A.under hb, h.B.under hb, h.ne, fun q hq => ⟨(h.xa q hq).1, Nat.lt_of_lt_of_le (h.xa q hq).2.1 hb.size, (h.xa q hq).2.2⟩, Nat.le_trans h.hs hb.size, h.lo⟩
theorem Tw.did {w0 : World} {base o oc g gb gr A T : Nat} {L : List (Int × Int)} {bs rs : List (List Value)} {ta ma : Nat} {da : Option Addr × Nat} {sa : QS} {tb mb : Nat} {db : Option Addr × Nat} {sb : QS} {X : List Nat} {wr : World} (h : Tw w0 base o oc g gb gr A T L bs rs ta ma da sa tb mb db sb X wr) {wx : World} {L' : List (Int × Int)} {bs' : List (List Value)} (hM : MemAt wx o oc g gb gr A T L' bs' rs) (F : Fr [g, gb] wr wx) : Tw w0 base o oc g gb gr A T L' bs' rs ta ma da sa tb mb db sb X wx := by
  have hl := h.m.lo
  have hlo := h.lo
  have hA := h.A.ge
  have hB := h.B.ge
  exact ⟨F.below h.b (Nat.le_refl _) (by simp; omega), ⟨hM, hl⟩, h.A.fr F (by simp; omega) (fun q hq => by have := (h.A.own.lt q hq).1; simp; omega), h.B.fr F (by simp; omega) (fun q hq => by have := (h.B.own.lt q hq).1; simp; omega), h.ne, fun q hq => ⟨(h.xa q hq).1, Nat.lt_of_lt_of_le (h.xa q hq).2.1 F.size, (h.xa q hq).2.2⟩, Nat.le_trans h.hs F.size, h.lo⟩
/-- the first task went on; the memory may have changed with it -/
theorem Tw.told {w0 : World} {base o oc g gb gr A T : Nat} {L : List (Int × Int)} {bs rs : List (List Value)} {ta ma : Nat} {da : Option Addr × Nat} {sa : QS} {tb mb : Nat} {db : Option Addr × Nat} {sb : QS} {X : List Nat} {wr : World} (h : Tw w0 base o oc g gb gr A T L bs rs ta ma da sa tb mb db sb X wr) {wx : World} {L' : List (Int × Int)} {bs' : List (List Value)} {da' : Option Addr × Nat} {sa' : QS} (hM : MemB wx base o oc g gb gr A T L' bs' rs) (XA : ClQ wx base o ta ma da' sa') (F : Fr (g :: gb :: cOwn ta da sa) wr wx) (hsub : ∀ q ∈ cOwn ta da' sa', q ∈ cOwn ta da sa ∨ wr.heap.size ≤ q) : Tw w0 base o oc g gb gr A T L' bs' rs ta ma da' sa' tb mb db sb X wx := by
  have hl := h.m.lo
  have hlo := h.lo
  have hge := cOwn_ge h.A
  have hgB := cOwn_ge h.B
  have hno : ∀ q, base ≤ q → q ∉ cOwn ta da sa → q ∉ g :: gb :: cOwn ta da sa := fun q h1 h2 h3 => by
    simp only [List.mem_cons] at h3
    rcases h3 with e | e | e
    · omega
    · omega
    · exact h2 e
  have hnB : ∀ q ∈ cOwn tb db sb, q ∉ g :: gb :: cOwn ta da sa := fun q hq => hno q (hgB q hq).1 (fun k => h.ne q k hq)
  refine ⟨F.below h.b (Nat.le_refl _) (fun q hq => ?_), hM, XA, h.B.fr F (hnB tb (by simp [cOwn])) (fun q hq => hnB q (by simp [cOwn, ownS_mem hq])), fun q h1 h2 => ?_, fun q hq => ⟨(h.xa q hq).1, Nat.lt_of_lt_of_le (h.xa q hq).2.1 F.size, fun k => ?_, (h.xa q hq).2.2.2⟩, Nat.le_trans h.hs F.size, h.lo⟩
  · simp only [List.mem_cons] at hq
    rcases hq with e | e | e
    · omega
    · omega
    · have := (hge q e).1; omega
  · rcases hsub q h1 with k | k
    · exact h.ne q k h2
    · have := (hgB q h2).2; omega
  · rcases hsub q k with e | e
    · exact (h.xa q hq).2.2.1 e
    · have := (h.xa q hq).2.1; omega
theorem Tw.tell {w0 : World} {base o oc g gb gr A T : Nat} {L : List (Int × Int)} {bs rs : List (List Value)} {ta ma : Nat} {da : Option Addr × Nat} {sa : QS} {tb mb : Nat} {db : Option Addr × Nat} {sb : QS} {X : List Nat} {wr : World} (h : Tw w0 base o oc g gb gr A T L bs rs ta ma da sa tb mb db sb X wr) {wx : World} {da' : Option Addr × Nat} {sa' : QS} (XA : ClQ wx base o ta ma da' sa') (M : Mq (cOwn ta da sa) (cOwn ta da' sa') wr wx) : Tw w0 base o oc g gb gr A T L bs rs ta ma da' sa' tb mb db sb X wx :=
  h.told (h.m.offq M.fr (fun q hq => (cOwn_ge h.A q hq).1) h.hs) XA (M.fr.more (by simp; intro q hq; exact .inr (.inr hq))) M.sub
/-- a block of the law's own is kept -/
theorem Tw.keep {w0 : World} {base o oc g gb gr A T : Nat} {L : List (Int × Int)} {bs rs : List (List Value)} {ta ma : Nat} {da : Option Addr × Nat} {sa : QS} {tb mb : Nat} {db : Option Addr × Nat} {sb : QS} {X : List Nat} {wr : World} (h : Tw w0 base o oc g gb gr A T L bs rs ta ma da sa tb mb db sb X wr) {wx : World} {bl : Nat} {cs : Array Value} {ty : TypeId} (hx : bl ∈ X) (B : Blk wr bl cs ty) {S : List Nat} (F : Fr S wr wx) (hS : ∀ q ∈ S, q < base ∨ q ∈ cOwn ta da sa ∨ q ∈ cOwn tb db sb) : Blk wx bl cs ty :=
  F.blk B (fun k => by
    have := h.xa bl hx
    rcases hS bl k with e | e | e
    · omega
    · exact this.2.2.1 e
    · exact this.2.2.2 e)
/-- a block of the law's own is written -/
theorem Tw.mine {w0 : World} {base o oc g gb gr A T : Nat} {L : List (Int × Int)} {bs rs : List (List Value)} {ta ma : Nat} {da : Option Addr × Nat} {sa : QS} {tb mb : Nat} {db : Option Addr × Nat} {sb : QS} {X : List Nat} {wr : World} (h : Tw w0 base o oc g gb gr A T L bs rs ta ma da sa tb mb db sb X wr) {wx : World} {bl : Nat} (hx : bl ∈ X) (F : Fr [bl] wr wx) : Tw w0 base o oc g gb gr A T L bs rs ta ma da sa tb mb db sb X wx := by
  have hb := h.xa bl hx
  have hlo := h.lo
  have hnA : ∀ q ∈ cOwn ta da sa, q ∉ [bl] := fun q hq k => by simp at k; subst k; exact hb.2.2.1 hq
  have hnB : ∀ q ∈ cOwn tb db sb, q ∉ [bl] := fun q hq k => by simp at k; subst k; exact hb.2.2.2 hq
  exact ⟨F.below h.b (Nat.le_refl _) (by simp; omega), h.m.offq F (by simp; omega) h.hs, h.A.fr F (hnA ta (by simp [cOwn])) (fun q hq => hnA q (by simp [cOwn, ownS_mem hq])), h.B.fr F (hnB tb (by simp [cOwn])) (fun q hq => hnB q (by simp [cOwn, ownS_mem hq])), h.ne, fun q hq => ⟨(h.xa q hq).1, Nat.lt_of_lt_of_le (h.xa q hq).2.1 F.size, (h.xa q hq).2.2⟩, Nat.le_trans h.hs F.size, h.lo⟩
end Go.Proofs.Ytppclnnkleebkaa.MemP
