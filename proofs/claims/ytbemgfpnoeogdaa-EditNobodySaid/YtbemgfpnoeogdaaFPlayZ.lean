/-
  ForestPlays: the state between the view's call and the document's, beside boxes of the law.
-/
import Derived.Test.YtbemgfpnoeogdaaFPlayB
namespace Go.Proofs.Ytbemgfpnoeogdaa.FoP
open Go.RowKit RefP Go.Maps Dp
set_option linter.unusedVariables false
set_option linter.unusedSimpArgs false
/-- beside the boxes Z: the view lacks (k1, n1), the document's (k2, n2) -/
structure PZ (w0 wr : World) (Z : List Nat) (o m B : Nat) (L : List Kn) (a : Option Addr) (c : Nat) (S : List Sp) (k1 n1 k2 n2 : Int) (kh sh : Hd) : Prop where
  b : Below w0.heap.size w0 wr
  V : VwAt wr w0.heap.size o m L a c S k1 n1
  blk : Blk wr B (rvA kh sh L.length S.length k2 n2) 58
  kn : HRow (rawC 11) wr (Z ++ avo o m B a) kh (knL L)
  sp : HRow spC wr (Z ++ avo o m B a) sh S
  node : ∀ p ∈ L, ∃ q y, p.2 = knA q y ∧ y.1 = p.1 ∧ KnOk w0 [] q y ∧ cellB p.1 = true
  ll : L.length ≤ 100
  sl : S.length ≤ 100
  ge : w0.heap.size ≤ B ∧ B ≠ o ∧ B ≠ m ∧ B ∉ ob a
  z : ∀ b ∈ Z, w0.heap.size ≤ b ∧ b ≠ o ∧ b ≠ m ∧ b ≠ B ∧ b ∉ ob a
section
variable {w0 wr w' : World} {Z : List Nat} {o m B : Nat} {L : List Kn} {a : Option Addr} {c : Nat} {S : List Sp} {k0 n0 k1 n1 k2 n2 : Int} {kh sh : Hd}
theorem PS.opened (P : PS w0 wr o m B L a c S k0 n0 kh sh) (Z : List Nat) (hZ : ∀ b ∈ Z, wr.heap.size ≤ b) : PZ w0 wr Z o m B L a c S k0 n0 k0 n0 kh sh := by
  have h : ∀ b ∈ Z ++ avo o m B a, b ∈ avo o m B a ∨ wr.heap.size ≤ b := fun b hb => by
    rcases List.mem_append.1 hb with e | e
    · exact .inr (hZ b e)
    · exact .inl e
  obtain ⟨h1, h2, h3⟩ := P.V.lts
  have h4 := P.blk.lt
  refine ⟨P.b, P.V, P.blk, P.kn.more h, P.sp.more h, P.node, P.ll, P.sl, P.ge, fun b hb => ?_⟩
  have := hZ b hb
  have := P.b.size
  refine ⟨by omega, by omega, by omega, by omega, fun e => ?_⟩
  have := h3 b (own_ob e)
  omega
theorem PZ.under (P : PZ w0 wr Z o m B L a c S k1 n1 k2 n2 kh sh) (hb : Below wr.heap.size wr w') : PZ w0 w' Z o m B L a c S k1 n1 k2 n2 kh sh :=
  ⟨below_push2 P.b hb (Nat.le_refl _), P.V.under hb, P.blk.below hb, P.kn.keep (Keeps.of_below hb), P.sp.keep (Keeps.of_below hb), P.node, P.ll, P.sl, P.ge, P.z⟩
theorem PZ.call (P : PZ w0 wr Z o m B L a c S k1 n1 k2 n2 kh sh) (F : Fr [o] wr w') {k n : Int} (V : VwAt w' w0.heap.size o m L a c S k n) : PZ w0 w' Z o m B L a c S k n k2 n2 kh sh := by
  have K : Keeps (Z ++ avo o m B a) wr w' := F.keeps.more (by simp)
  exact ⟨F.below P.b (Nat.le_refl _) (by simpa using P.V.lo.1), V, F.blk P.blk (by simpa using P.ge.2.1), P.kn.keep K, P.sp.keep K, P.node, P.ll, P.sl, P.ge, P.z⟩
theorem PZ.box (P : PZ w0 wr Z o m B L a c S k1 n1 k2 n2 kh sh) {T : List Nat} (F : Fr T wr w') (hT : ∀ b ∈ T, b ∈ Z) : PZ w0 w' Z o m B L a c S k1 n1 k2 n2 kh sh := by
  have K : Keeps (Z ++ avo o m B a) wr w' := F.keeps.more (fun b hb => List.mem_append.2 (.inl (hT b hb)))
  exact ⟨F.below P.b (Nat.le_refl _) (fun b hb => (P.z b (hT b hb)).1), P.V.fr F (fun h => (P.z _ (hT _ h)).2.1 rfl) (fun h => (P.z _ (hT _ h)).2.2.1 rfl) (fun g hg h => (P.z g (hT g h)).2.2.2.2 (ob_own hg)), F.blk P.blk (fun h => (P.z _ (hT _ h)).2.2.2.1 rfl), P.kn.keep K, P.sp.keep K, P.node, P.ll, P.sl, P.ge, P.z⟩
theorem PZ.ref (P : PZ w0 wr Z o m B L a c S k1 n1 k2 n2 kh sh) (k n : Int) : PZ w0 (wr.setRow B (rvA kh sh L.length S.length k n)) Z o m B L a c S k1 n1 k n kh sh := by
  have F : Fr [B] wr (wr.setRow B (rvA kh sh L.length S.length k n)) := Fr.row (S := [B]) B _ (by simp)
  have K : Keeps (Z ++ avo o m B a) wr (wr.setRow B (rvA kh sh L.length S.length k n)) := F.keeps.more (by simp)
  refine ⟨below_setRow P.b P.ge.1 _, P.V.fr F (by simp; exact fun e => P.ge.2.1 e.symm) (by simp; exact fun e => P.ge.2.2.1 e.symm) (fun g hg => ?_), Blk.row P.blk _, P.kn.keep K, P.sp.keep K, P.node, P.ll, P.sl, P.ge, P.z⟩
  simp
  exact fun e => P.ge.2.2.2 (by rw [← e]; exact ob_own hg)
theorem PZ.row (P : PZ w0 wr Z o m B L a c S k1 n1 k2 n2 kh sh) {s : Nat} (hs : s ∈ Z) (cs : Array Value) : PZ w0 (wr.setRow s cs) Z o m B L a c S k1 n1 k2 n2 kh sh :=
  P.box (T := [s]) (Fr.row (S := [s]) s cs (by simp)) (by simpa using hs)
theorem PZ.closed (P : PZ w0 wr Z o m B L a c S k0 n0 k0 n0 kh sh) : PS w0 wr o m B L a c S k0 n0 kh sh :=
  ⟨P.b, P.V, P.blk, P.kn.more (fun b hb => .inl (List.mem_append.2 (.inr hb))), P.sp.more (fun b hb => .inl (List.mem_append.2 (.inr hb))), P.node, P.ll, P.sl, P.ge⟩
theorem PZ.rv (P : PZ w0 wr Z o m B L a c S k1 n1 k2 n2 kh sh) : RV wr kh sh L S :=
  ⟨P.kn.more (by simp), P.sp.more (by simp), fun p hp => by
    obtain ⟨q, y, h1, h2, _⟩ := P.node p hp
    rw [h1, ← h2]; rfl, fun p hp => by
    obtain ⟨q, y, h1, _⟩ := P.node p hp
    rw [h1]; exact knA_one q y, P.ll, P.sl⟩
end
theorem Blk.rowFar {w : World} {b s : Nat} {cs : Array Value} {T : TypeId} (k : Blk w b cs T) (h : b ≠ s) (ds : Array Value) : Blk (w.setRow s ds) b cs T := (Fr.row (S := [s]) s ds (by simp)).blk k (by simpa using h)
def atK (L : List Kn) (k0 n : Int) : Int := if (knAt L n).isSome then k0 else missK k0 n
def atN (L : List Kn) (k0 n0 n : Int) : Int := if (knAt L n).isSome then n0 else missN k0 n0 n
theorem at_all {w : World} {base o m : Nat} {L : List Kn} {a : Option Addr} {c : Nat} {S : List Sp} {k0 n0 : Int} (V : VwAt w base o m L a c S k0 n0) (n : Int) (hr : -9223372036854775808 ≤ n ∧ n ≤ 9223372036854775807) :
    Calls Try.prog 30 #[.pointer (some ⟨o, 0, none⟩), .int .i64 n] w fun e w' => e = .returned (.tuple #[.agg ((knAt L n).getD kz), .bool (knAt L n).isSome]) ∧ VwAt w' base o m L a c S (atK L k0 n) (atN L k0 n0 n) ∧ Fr [o] w w' := by
  cases hn : knAt L n with
  | some cs =>
    refine (at_hit V n hr hn).mono ?_
    rintro e w' ⟨rfl, hb⟩
    refine ⟨rfl, ?_, Fr.of_below hb⟩
    rw [atK, atN, hn]
    exact V.under hb
  | none =>
    refine (at_miss V n hr hn).mono ?_
    rintro e w' ⟨rfl, V', F⟩
    refine ⟨rfl, ?_, F⟩
    rw [atK, atN, hn]
    exact V'
theorem rat_all {w : World} {kh sh : Hd} {L : List Kn} {S : List Sp} (H : RV w kh sh L S) (k0 n0 n : Int) : Calls Try.prog 31 #[.agg (rvA kh sh L.length S.length k0 n0), .int .i64 n] w fun e w' => e = .returned (.tuple #[.agg (rvA kh sh L.length S.length (atK L k0 n) (atN L k0 n0 n)), .agg ((knAt L n).getD kz), .bool (knAt L n).isSome]) ∧ Below w.heap.size w w' := by
  cases hn : knAt L n with
  | some cs =>
    refine (rat_hit H k0 n0 n hn).mono ?_
    rintro e w' ⟨rfl, hb⟩
    refine ⟨?_, hb⟩
    rw [atK, atN, hn]
    rfl
  | none =>
    refine (rat_miss H k0 n0 n hn).mono ?_
    rintro e w' ⟨rfl, hb⟩
    refine ⟨?_, hb⟩
    rw [atK, atN, hn]
    rfl
abbrev q00 : NodeH := ⟨Hd.nil, Hd.nil, Hd.nil⟩
abbrev n00 : NodeV := ⟨0, ⟨#[]⟩, ⟨#[]⟩, false, 0, [], [], []⟩
theorem n00_ok (w : World) (S : List Nat) : NodeOk w S q00 n00 := ⟨⟨by decide, by decide⟩, by decide, by decide, ⟨by decide, by decide⟩, HRow.nil _ _ _, HRow.nil _ _ _, HRow.nil _ _ _⟩
theorem PS.found {w0 wr : World} {o m B : Nat} {L : List Kn} {a : Option Addr} {c : Nat} {S : List Sp} {k0 n0 : Int} {kh sh : Hd} (P : PS w0 wr o m B L a c S k0 n0 kh sh) (n : Int) : ∃ q y, (knAt L n).getD kz = knA q y ∧ NodeOk w0 [] q y.2.2.2.1 := by
  cases hn : knAt L n with
  | none => exact ⟨q00, (0, 0, 0, n00, ()), rfl, n00_ok _ _⟩
  | some cs =>
    obtain ⟨q, y, h1, _, h2, _⟩ := P.node _ (knAt_some hn)
    exact ⟨q, y, h1, h2.node⟩
theorem kn_node {w : World} {s : Nat} {q : NodeH} {y : KnV} {T : TypeId} (B : Blk w s (knA q y) T) : w.rangeAt s 3 (nodeA q y.2.2.2.1).toList := fun j v hv => by
  have hj : j < 8 := (List.getElem?_eq_some_iff.1 hv).1
  have e : j = 0 ∨ j = 1 ∨ j = 2 ∨ j = 3 ∨ j = 4 ∨ j = 5 ∨ j = 6 ∨ j = 7 := by omega
  refine B.at (3 + j) ?_
  rcases e with e | e | e | e | e | e | e | e <;> subst e <;> exact hv
theorem wpList_load_midw {P : Program} {ops : Array Oper} {rest : List Oper} {op : Oper} {a : Act} {w : World} {Q : Exit → Act → World → Prop} (hw : Region.wanted op (yielded ops a.tmps) = true) (ty : TypeId) (x : Operand) (ho : op.op = .load ty x)
    (b o : Nat) (hx : a.eval x = .pointer (some ⟨b, o, none⟩)) (cs : List Value) (d : TypeDesc) (hc : w.rangeAt b o cs)
    (hu : P.underlying ty = some d) (hd : d.isRow = true) (hi : (P.info? ty).map (·.size) = some cs.length)
    (h : wpList P ops Q rest (a.put op.dst (.agg cs.toArray)) w) : wpList P ops Q (op :: rest) a w :=
  wpList_step fun K hK => by
    rw [if_pos hw]
    exact wp_load_mid ty x ho b o hx cs d hc hu hd hi (hK _ _ h)
theorem PS.spared {w0 wr w' : World} {o m B : Nat} {L : List Kn} {a a' : Option Addr} {c : Nat} {S : List Sp} {k0 n0 : Int} {kh sh : Hd} (P : PS w0 wr o m B L a c S k0 n0 kh sh) (F : Fr (o :: ob a) wr w') (hg : ∀ g ∈ ob a', g ∈ ob a ∨ wr.heap.size ≤ g) : PA w0 w' o m B L a' S k0 n0 kh sh ∧ B ∉ ob a' := by
  have A := P.after F (fun b hb => by
    simp only [List.mem_cons] at hb ⊢
    rcases hb with e | e
    · exact .inl e
    · exact .inr (.inr e))
  have hm : ∀ b ∈ avo o m B a ++ ob a', b ∈ avo o m B a ∨ wr.heap.size ≤ b := fun b hb => by
    rcases List.mem_append.1 hb with e | e
    · exact .inl e
    · rcases hg b e with k | k
      · exact .inl (by simp only [List.mem_cons]; exact .inr (.inr (.inr k)))
      · exact .inr k
  have hs : ∀ b ∈ avo o m B a', b ∈ avo o m B a ++ ob a' := fun b hb => by
    simp only [List.mem_cons, List.mem_append] at hb ⊢
    rcases hb with e | e | e | e
    · exact .inl (.inl e)
    · exact .inl (.inr (.inl e))
    · exact .inl (.inr (.inr (.inl e)))
    · exact .inr e
  have K : Keeps (avo o m B a ++ ob a') wr w' := F.keeps.more (fun b hb => by
    simp only [List.mem_cons, List.mem_append] at hb ⊢
    rcases hb with e | e
    · exact .inl (.inl e)
    · exact .inl (.inr (.inr (.inr e))))
  have hB := P.blk.lt
  exact ⟨⟨A.b, A.blk, ((P.kn.more hm).keep K).more (fun b hb => .inl (hs b hb)), ((P.sp.more hm).keep K).more (fun b hb => .inl (hs b hb))⟩, fun h => by
    rcases hg B h with k | k
    · exact P.ge.2.2.2 k
    · omega⟩
theorem vspare_no {w : World} {base o m : Nat} {L : List Kn} {a : Option Addr} {c : Nat} {S : List Sp} {k0 n0 : Int} (V : VwAt w base o m L a c S k0 n0) (n v : Int) (hl : S.length ≤ 100) (h : (cellB n && !spHas S n) = false) :
    Calls Try.prog 26 #[.pointer (some ⟨o, 0, none⟩), .agg #[.int .i64 n, .int .u64 v]] w fun e w' => e = .returned (.bool false) ∧ Below w.heap.size w w' := by
  refine (spare_any V n v hl).mono ?_
  intro e w' hx
  unfold VSpareAt at hx
  rw [h] at hx
  exact hx
theorem vspare_yes {w : World} {base o m : Nat} {L : List Kn} {a : Option Addr} {c : Nat} {S : List Sp} {k0 n0 : Int} (V : VwAt w base o m L a c S k0 n0) (n v : Int) (hl : S.length ≤ 100) (h : (cellB n && !spHas S n) = true) :
    Calls Try.prog 26 #[.pointer (some ⟨o, 0, none⟩), .agg #[.int .i64 n, .int .u64 v]] w fun e w' => ∃ a' c', e = .returned (.bool true) ∧ VwAt w' base o m L a' c' (S ++ [(n, v)]) k0 n0 ∧ Fr (o :: ob a) w w' ∧ (∀ g ∈ ob a', g ∈ ob a ∨ w.heap.size ≤ g) := by
  refine (spare_any V n v hl).mono ?_
  intro e w' hx
  unfold VSpareAt at hx
  rw [h] at hx
  exact hx
theorem rspare_no {w : World} {kh sh : Hd} {L : List Kn} {S : List Sp} (H : RV w kh sh L S) (k0 n0 n v : Int) (h0 : I64 n) (h1 : U64 v) (h : (cellB n && !spHas S n) = false) : Calls Try.prog 27 #[.agg (rvA kh sh L.length S.length k0 n0), .agg #[.int .i64 n, .int .u64 v]] w fun e w' => e = .returned (.tuple #[.agg (rvA kh sh L.length S.length k0 n0), .bool false]) ∧ Below w.heap.size w w' := by
  refine (rspare_any H k0 n0 n v h0 h1).mono ?_
  intro e w' hx
  unfold SpareAt at hx
  rw [h] at hx
  exact hx
theorem rspare_yes {w : World} {kh sh : Hd} {L : List Kn} {S : List Sp} (H : RV w kh sh L S) (k0 n0 n v : Int) (h0 : I64 n) (h1 : U64 v) (h : (cellB n && !spHas S n) = true) : Calls Try.prog 27 #[.agg (rvA kh sh L.length S.length k0 n0), .agg #[.int .i64 n, .int .u64 v]] w fun e w' => ∃ a c, e = .returned (.tuple #[.agg (rvA kh ⟨a, c⟩ L.length (S.length + 1) k0 n0), .bool true]) ∧ Below w.heap.size w w' ∧ OwnS w' w.heap.size a c (S ++ [(n, v)]) := by
  refine (rspare_any H k0 n0 n v h0 h1).mono ?_
  intro e w' hx
  unfold SpareAt at hx
  rw [h, List.length_append] at hx
  exact hx
/-- two new boxes -/
theorem two_boxes (w : World) (cs : Array Value) (T : TypeId) : Below w.heap.size w ((w.alloc (.cells cs T)).alloc (.cells cs T)) ∧ Blk ((w.alloc (.cells cs T)).alloc (.cells cs T)) w.heap.size cs T ∧ Blk ((w.alloc (.cells cs T)).alloc (.cells cs T)) (w.heap.size + 1) cs T := by
  have h := Blk.new (w.alloc (.cells cs T)) cs T
  rw [World.size_alloc] at h
  exact ⟨((Below.refl _ _).alloc (Nat.le_refl _) _).alloc (by rw [World.size_alloc]; omega) _, (Blk.new w cs T).alloc _, h⟩
theorem two_free {w : World} : ∀ b ∈ [w.heap.size, w.heap.size + 1], w.heap.size ≤ b := by simp
end Go.Proofs.Ytbemgfpnoeogdaa.FoP
