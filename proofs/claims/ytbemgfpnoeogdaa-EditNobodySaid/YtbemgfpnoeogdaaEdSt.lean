/-
  An edit in memory: what lies where; what calls of its view, and appends to its changes and its taken spares, leave. No walk.
-/
import Derived.Test.YtbemgfpnoeogdaaEdLast
import Derived.Test.YtbemgfpnoeogdaaEdClone
import Derived.Test.YtbemgfpnoeogdaaFPlayZ
namespace Go.Proofs.Ytbemgfpnoeogdaa.EdP
open Go.RowKit RefP FoP Dp
set_option linter.unusedVariables false
set_option linter.unusedSimpArgs false
theorem infoChange : (Try.prog.info? 97).map (fun i => (i.zero, i.size, i.bytes)) = some (some (.agg chz), 14, 168) := by kernel_rfl
theorem tinChange : TIn Try.prog 33 97 14 168 := tin_mk Try.underlying33 infoChange (by simp [Value.cells])
abbrev edA (o : Nat) (ca : Option Addr) (n cc : Nat) (ta : Option Addr) (t tc : Nat) : Array Value := #[.pointer (some ⟨o, 0, none⟩), .slice ca n cc, .slice ta t tc]
abbrev chL (C : List Ch) : List (List Value) := C.map (fun p => (chA p).toList)
def SmallN (x : NodeV) : Prop := x.keys.length ≤ 1000 ∧ x.vals.length ≤ 1000 ∧ x.kids.length ≤ 1000
/-- a change's node lies outside of the blocks M -/
structure ChOk (w : World) (M : List Nat) (p : Ch) : Prop where
  node : NodeOk w M p.1 p.2.node
  small : SmallN p.2.node
theorem node_more {w : World} {S S' : List Nat} {q : NodeH} {x : NodeV} (h : NodeOk w S q x) (k : ∀ b ∈ S', b ∈ S ∨ w.heap.size ≤ b) : NodeOk w S' q x := ⟨h.level, h.low, h.high, h.next, h.keys.more k, h.vals.more k, h.kids.more k⟩
theorem ChOk.keep {w w' : World} {M : List Nat} {p : Ch} (h : ChOk w M p) (k : Keeps M w w') : ChOk w' M p := ⟨h.node.keep k, h.small⟩
theorem ChOk.more {w : World} {M M' : List Nat} {p : Ch} (h : ChOk w M p) (k : ∀ b ∈ M', b ∈ M ∨ w.heap.size ≤ b) : ChOk w M' p := ⟨node_more h.node k, h.small⟩
/-- what an edit writes -/
abbrev mutE (e o : Nat) (ca ta : Option Addr) : List Nat := e :: o :: (ob ca ++ ob ta)
structure EdAt (w0 w : World) (e o m : Nat) (L : List Kn) (a : Option Addr) (c : Nat) (S : List Sp) (k0 n0 : Int) (C : List Ch) (ca : Option Addr) (cc : Nat) (ta : Option Addr) (tc t : Nat) : Prop where
  b : Below w0.heap.size w0 w
  V : VwAt w w0.heap.size o m L a c S k0 n0
  blk : Blk w e (edA o ca C.length cc ta t tc) 36
  ch : OwnV (rawC 14) w [] w w0.heap.size 97 ca cc (chL C)
  tk : OwnS w w0.heap.size ta tc (S.take t)
  node : ∀ p ∈ C, ChOk w (mutE e o ca ta) p
  cl : C.length ≤ 46
  tl : t ≤ S.length
  sl : S.length ≤ 100
  ge : w0.heap.size ≤ e ∧ e ≠ o ∧ e ≠ m ∧ e ∉ ob a ∧ e ∉ ob ca ∧ e ∉ ob ta
  dc : ∀ g ∈ ob ca, g ≠ o ∧ g ≠ m ∧ g ∉ ob a ∧ g ∉ ob ta
  dt : ∀ g ∈ ob ta, g ≠ o ∧ g ≠ m ∧ g ∉ ob a
  si : ∀ p ∈ S, I64 p.1 ∧ U64 p.2
section
variable {w0 w w' : World} {e o m : Nat} {L : List Kn} {a : Option Addr} {c : Nat} {S : List Sp} {k0 n0 : Int} {C : List Ch} {ca : Option Addr} {cc : Nat} {ta : Option Addr} {tc t : Nat}
theorem raw14_any {w w' : World} {S S' : List Nat} {cs : List Value} {x : List Value} (h : (rawC 14).rep w S cs x) : (rawC 14).rep w' S' cs x := h
theorem EdAt.lts (E : EdAt w0 w e o m L a c S k0 n0 C ca cc ta tc t) : ∀ b ∈ mutE e o ca ta, b < w.heap.size := fun b hb => by
  simp only [List.mem_cons, List.mem_append] at hb
  rcases hb with h | h | h | h
  · rw [h]; exact E.blk.lt
  · rw [h]; exact E.V.lts.1
  · exact (OwnV.lt E.ch b h).2
  · exact (OwnV.lt E.tk b h).2
theorem EdAt.ges (E : EdAt w0 w e o m L a c S k0 n0 C ca cc ta tc t) : ∀ b ∈ mutE e o ca ta, w0.heap.size ≤ b := fun b hb => by
  simp only [List.mem_cons, List.mem_append] at hb
  rcases hb with h | h | h | h
  · rw [h]; exact E.ge.1
  · rw [h]; exact E.V.lo.1
  · exact (OwnV.lt E.ch b h).1
  · exact (OwnV.lt E.tk b h).1
theorem EdAt.under (E : EdAt w0 w e o m L a c S k0 n0 C ca cc ta tc t) (hb : Below w.heap.size w w') : EdAt w0 w' e o m L a c S k0 n0 C ca cc ta tc t :=
  ⟨below_push2 E.b hb (Nat.le_refl _), E.V.under hb, E.blk.below hb, (E.ch.below hb).rep (fun _ _ => raw14_any), E.tk.below hb, fun p hp => (E.node p hp).keep (Keeps.of_below hb), E.cl, E.tl, E.sl, E.ge, E.dc, E.dt, E.si⟩
theorem EdAt.view (E : EdAt w0 w e o m L a c S k0 n0 C ca cc ta tc t) (F : Fr [o] w w') {k n : Int} (V : VwAt w' w0.heap.size o m L a c S k n) : EdAt w0 w' e o m L a c S k n C ca cc ta tc t :=
  ⟨F.below E.b (Nat.le_refl _) (by simpa using E.V.lo.1), V, F.blk E.blk (by simpa using E.ge.2.1), (E.ch.fr F (fun g hg => by simpa using (E.dc g hg).1)).rep (fun _ _ => raw14_any), E.tk.fr F (fun g hg => by simpa using (E.dt g hg).1), fun p hp => (E.node p hp).keep (F.keeps.more (by simp)), E.cl, E.tl, E.sl, E.ge, E.dc, E.dt, E.si⟩
theorem EdAt.row (E : EdAt w0 w e o m L a c S k0 n0 C ca cc ta tc t) : HRow (rawC 14) w [] ⟨ca, cc⟩ (chL C) := OwnV.hrow E.ch (by decide) (by simp)
theorem EdAt.chrow (E : EdAt w0 w e o m L a c S k0 n0 C ca cc ta tc t) : ChRow w.heap.size w e C := by
  refine ⟨E.blk.lt, ca, cc, E.blk.at 1 rfl, fun hp => ?_⟩
  obtain ⟨b, off, e1, hb, _⟩ := raw_at E.row 0 (by simpa using hp)
  refine ⟨b, off, e1, hb, fun j hj => ?_⟩
  obtain ⟨b', off', e2, _, hr⟩ := raw_at E.row j (by simpa using hj)
  rw [e1] at e2
  simp only [Option.some.injEq, Addr.mk.injEq, and_true] at e2
  obtain ⟨rfl, rfl⟩ := e2
  simpa using hr
/-- a change more -/
theorem EdAt.added (E : EdAt w0 w e o m L a c S k0 n0 C ca cc ta tc t) {p : Ch} {v : Value} {g cap : Nat} (A : AddedV Try.prog (rawC 14) w [] w w0.heap.size 33 97 ca cc C.length v 1 (chL C ++ [(chA p).toList]) g cap w') (hp : ChOk w (mutE e o ca ta) p) (hcl : C.length < 46) :
    EdAt w0 (w'.setCell ⟨e, 1, none⟩ (.slice (some ⟨g, 0, none⟩) (C.length + 1) cap)) e o m L a c S k0 n0 (C ++ [p]) (some ⟨g, 0, none⟩) cap ta tc t := by
  have F1 := A.fr
  have F2 : Fr [e] w' (w'.setCell ⟨e, 1, none⟩ (.slice (some ⟨g, 0, none⟩) (C.length + 1) cap)) := (Fr.refl _ _).set _ _ (.inl (by simp))
  obtain ⟨h1, h2, h3⟩ := E.V.lts
  have he := E.blk.lt
  have hoc : o ∉ ob ca := fun h => (E.dc o h).1 rfl
  have hmc : m ∉ ob ca := fun h => (E.dc m h).2.1 rfl
  have hac : ∀ q, (Value.slice a S.length c).ownBlock = some q → q ∉ ob ca := fun q hq h => (E.dc q h).2.2.1 (ob_own hq)
  have V1 := E.V.fr F1 hoc hmc hac
  have V2 := V1.fr F2 (by simpa using fun h => E.ge.2.1 h.symm) (by simpa using fun h => E.ge.2.2.1 h.symm) (fun q hq h => by simp at h; subst h; exact E.ge.2.2.2.1 (ob_own hq))
  have hgn : g ≠ e ∧ g ≠ o ∧ g ≠ m ∧ g ∉ ob a ∧ g ∉ ob ta := by
    rcases A.at' with h | h
    · obtain ⟨q1, q2, q3, q4⟩ := E.dc g h
      exact ⟨fun q => E.ge.2.2.2.2.1 (q ▸ h), q1, q2, q3, q4⟩
    · refine ⟨by omega, by omega, by omega, fun q => ?_, fun q => ?_⟩
      · have := h3 g (own_ob q); omega
      · have := (OwnV.lt E.tk g q).2; omega
  have B1 := (F1.blk E.blk E.ge.2.2.2.2.1).set 1 (.slice (some ⟨g, 0, none⟩) (C.length + 1) cap)
  have T1 := E.tk.fr F1 (fun q hq h => (E.dc q h).2.2.2 hq)
  have T2 := T1.fr F2 (fun q hq h => by simp at h; subst h; exact E.ge.2.2.2.2.2 hq)
  have FF : Fr (e :: ob ca) w (w'.setCell ⟨e, 1, none⟩ (.slice (some ⟨g, 0, none⟩) (C.length + 1) cap)) := (F1.more (fun b hb => List.mem_cons_of_mem _ hb)).trans (F2.more (by simp))
  refine ⟨FF.below E.b (Nat.le_refl _) (fun b hb => ?_), V2, by simpa using B1, ?_, T2, fun q hq => ?_, by simp; omega, E.tl, E.sl, ⟨E.ge.1, E.ge.2.1, E.ge.2.2.1, E.ge.2.2.2.1, ?_, E.ge.2.2.2.2.2⟩, ?_, E.dt, E.si⟩
  · simp only [List.mem_cons] at hb
    rcases hb with h | h
    · rw [h]; exact E.ge.1
    · exact (OwnV.lt E.ch b h).1
  · have := (A.own.fr F2 (fun q hq h => by simp [ob] at hq; simp at h; exact hgn.1 (by rw [← hq, h]))).rep (wr' := w'.setCell ⟨e, 1, none⟩ (.slice (some ⟨g, 0, none⟩) (C.length + 1) cap)) (S' := []) (fun _ _ => raw14_any)
    rw [show chL (C ++ [p]) = chL C ++ [(chA p).toList] by simp [chL]]
    exact this
  · have hk : Keeps (e :: o :: (ob ca ++ (ob ta ++ [g]))) w (w'.setCell ⟨e, 1, none⟩ (.slice (some ⟨g, 0, none⟩) (C.length + 1) cap)) := FF.keeps.more (fun b hb => by
      simp only [List.mem_cons, List.mem_append] at hb ⊢
      rcases hb with h | h
      · exact .inl h
      · exact .inr (.inr (.inl h)))
    have hq' : ChOk w (mutE e o ca ta) q := by
      rcases List.mem_append.1 hq with h | h
      · exact E.node q h
      · rw [List.mem_singleton.1 h]; exact hp
    have hq2 : ChOk w (e :: o :: (ob ca ++ (ob ta ++ [g]))) q := hq'.more (fun b hb => by
      simp only [List.mem_cons, List.mem_append, List.not_mem_nil, or_false] at hb ⊢
      rcases hb with h | h | h | h | h
      · exact .inl (.inl h)
      · exact .inl (.inr (.inl h))
      · exact .inl (.inr (.inr (.inl h)))
      · exact .inl (.inr (.inr (.inr h)))
      · rcases A.at' with k | k
        · exact .inl (.inr (.inr (.inl (h ▸ k))))
        · exact .inr (by omega))
    exact (hq2.keep hk).more (fun b hb => .inl (by
      simp only [List.mem_cons, List.mem_append, ob, List.not_mem_nil, or_false] at hb ⊢
      rcases hb with h | h | h | h
      · exact .inl h
      · exact .inr (.inl h)
      · exact .inr (.inr (.inr (.inr h)))
      · exact .inr (.inr (.inr (.inl h)))))
  · simp [ob]; exact fun h => hgn.1 h.symm
  · intro q hq
    simp [ob] at hq
    subst hq
    exact ⟨hgn.2.1, hgn.2.2.1, hgn.2.2.2.1, hgn.2.2.2.2⟩
/-- a spare more is taken -/
theorem EdAt.took (E : EdAt w0 w e o m L a c S k0 n0 C ca cc ta tc t) {v : Value} {g cap : Nat} (ht : t < S.length) (A : AddedV Try.prog spC w [] w w0.heap.size 34 60 ta tc (S.take t).length v 1 (S.take t ++ [S[t]]) g cap w') :
    EdAt w0 (w'.setCell ⟨e, 2, none⟩ (.slice (some ⟨g, 0, none⟩) (t + 1) cap)) e o m L a c S k0 n0 C ca cc (some ⟨g, 0, none⟩) cap (t + 1) := by
  have F1 := A.fr
  have F2 : Fr [e] w' (w'.setCell ⟨e, 2, none⟩ (.slice (some ⟨g, 0, none⟩) (t + 1) cap)) := (Fr.refl _ _).set _ _ (.inl (by simp))
  obtain ⟨h1, h2, h3⟩ := E.V.lts
  have he := E.blk.lt
  have hoc : o ∉ ob ta := fun h => (E.dt o h).1 rfl
  have hmc : m ∉ ob ta := fun h => (E.dt m h).2.1 rfl
  have hac : ∀ q, (Value.slice a S.length c).ownBlock = some q → q ∉ ob ta := fun q hq h => (E.dt q h).2.2 (ob_own hq)
  have V1 := E.V.fr F1 hoc hmc hac
  have V2 := V1.fr F2 (by simpa using fun h => E.ge.2.1 h.symm) (by simpa using fun h => E.ge.2.2.1 h.symm) (fun q hq h => by simp at h; subst h; exact E.ge.2.2.2.1 (ob_own hq))
  have hgn : g ≠ e ∧ g ≠ o ∧ g ≠ m ∧ g ∉ ob a ∧ g ∉ ob ca := by
    rcases A.at' with h | h
    · obtain ⟨q1, q2, q3⟩ := E.dt g h
      exact ⟨fun q => E.ge.2.2.2.2.2 (q ▸ h), q1, q2, q3, fun q => (E.dc g q).2.2.2 h⟩
    · refine ⟨by omega, by omega, by omega, fun q => ?_, fun q => ?_⟩
      · have := h3 g (own_ob q); omega
      · have := (OwnV.lt E.ch g q).2; omega
  have B1 := (F1.blk E.blk E.ge.2.2.2.2.2).set 2 (.slice (some ⟨g, 0, none⟩) (t + 1) cap)
  have T1 := (E.ch.fr F1 (fun q hq h => (E.dc q hq).2.2.2 h)).rep (wr' := w') (S' := []) (fun _ _ => raw14_any)
  have T2 := (T1.fr F2 (fun q hq h => by simp at h; subst h; exact E.ge.2.2.2.2.1 hq)).rep (wr' := w'.setCell ⟨e, 2, none⟩ (.slice (some ⟨g, 0, none⟩) (t + 1) cap)) (S' := []) (fun _ _ => raw14_any)
  have FF : Fr (e :: ob ta) w (w'.setCell ⟨e, 2, none⟩ (.slice (some ⟨g, 0, none⟩) (t + 1) cap)) := (F1.more (fun b hb => List.mem_cons_of_mem _ hb)).trans (F2.more (by simp))
  refine ⟨FF.below E.b (Nat.le_refl _) (fun b hb => ?_), V2, by simpa using B1, T2, ?_, fun q hq => ?_, E.cl, ht, E.sl, ⟨E.ge.1, E.ge.2.1, E.ge.2.2.1, E.ge.2.2.2.1, E.ge.2.2.2.2.1, ?_⟩, fun q hq => ?_, ?_, E.si⟩
  · simp only [List.mem_cons] at hb
    rcases hb with h | h
    · rw [h]; exact E.ge.1
    · exact (OwnV.lt E.tk b h).1
  · have := (A.own.fr F2 (fun q hq h => by simp [ob] at hq; simp at h; exact hgn.1 (by rw [← hq, h]))).rep (wr' := w'.setCell ⟨e, 2, none⟩ (.slice (some ⟨g, 0, none⟩) (t + 1) cap)) (S' := []) (fun _ _ => sp_any)
    rw [List.take_succ_eq_append_getElem ht]
    exact this
  · have hk : Keeps (e :: o :: (ob ca ++ (ob ta ++ [g]))) w (w'.setCell ⟨e, 2, none⟩ (.slice (some ⟨g, 0, none⟩) (t + 1) cap)) := FF.keeps.more (fun b hb => by
      simp only [List.mem_cons, List.mem_append] at hb ⊢
      rcases hb with h | h
      · exact .inl h
      · exact .inr (.inr (.inr (.inl h))))
    have hq2 : ChOk w (e :: o :: (ob ca ++ (ob ta ++ [g]))) q := (E.node q hq).more (fun b hb => by
      simp only [List.mem_cons, List.mem_append, List.not_mem_nil, or_false] at hb ⊢
      rcases hb with h | h | h | h | h
      · exact .inl (.inl h)
      · exact .inl (.inr (.inl h))
      · exact .inl (.inr (.inr (.inl h)))
      · exact .inl (.inr (.inr (.inr h)))
      · rcases A.at' with k | k
        · exact .inl (.inr (.inr (.inr (h ▸ k))))
        · exact .inr (by omega))
    exact (hq2.keep hk).more (fun b hb => .inl (by
      simp only [List.mem_cons, List.mem_append, ob, List.not_mem_nil, or_false] at hb ⊢
      rcases hb with h | h | h | h
      · exact .inl h
      · exact .inr (.inl h)
      · exact .inr (.inr (.inl h))
      · exact .inr (.inr (.inr (.inr h)))))
  · simp [ob]; exact fun h => hgn.1 h.symm
  · obtain ⟨q1, q2, q3, q4⟩ := E.dc q hq
    refine ⟨q1, q2, q3, ?_⟩
    simp [ob]
    exact fun h => hgn.2.2.2.2 (h ▸ hq)
  · intro q hq
    simp [ob] at hq
    subst hq
    exact ⟨hgn.2.1, hgn.2.2.1, hgn.2.2.2.1⟩
end
/-- an edit, whatever lies within -/
structure EdIs (w0 w : World) (e o : Nat) (L : List Kn) (S : List Sp) (C : List Ch) (t : Nat) : Prop where
  ex : ∃ m a c k0 n0 ca cc ta tc, EdAt w0 w e o m L a c S k0 n0 C ca cc ta tc t
theorem EdIs.under {w0 w w' : World} {e o : Nat} {L : List Kn} {S : List Sp} {C : List Ch} {t : Nat} (E : EdIs w0 w e o L S C t) (hb : Below w.heap.size w w') : EdIs w0 w' e o L S C t := by
  obtain ⟨m, a, c, k0, n0, ca, cc, ta, tc, H⟩ := E.ex
  exact ⟨m, a, c, k0, n0, ca, cc, ta, tc, H.under hb⟩
theorem EdIs.b {w0 w : World} {e o : Nat} {L : List Kn} {S : List Sp} {C : List Ch} {t : Nat} (E : EdIs w0 w e o L S C t) : Below w0.heap.size w0 w := by
  obtain ⟨m, a, c, k0, n0, ca, cc, ta, tc, H⟩ := E.ex
  exact H.b
end Go.Proofs.Ytbemgfpnoeogdaa.EdP
