/-
  edit: Begin; law 21's lives.
-/
import Derived.Test.YtbemgfpnoeogdaaEdV
namespace Go.Proofs.Ytbemgfpnoeogdaa.EdP
open Go.RowKit RefP FoP Dp
set_option linter.unusedVariables false
set_option linter.unusedSimpArgs false
abbrev nE : NodeV := ⟨0, ⟨#[]⟩, ⟨#[]⟩, true, -1, [], [], []⟩
theorem nE_ok (w : World) (S : List Nat) : NodeOk w S q00 nE := ⟨⟨by decide, by decide⟩, by decide, by decide, ⟨by decide, by decide⟩, HRow.nil _ _ _, HRow.nil _ _ _, HRow.nil _ _ _⟩
theorem empty21_any (w : World) : Calls Try.prog 42 #[] w fun r w' => r = .returned (.agg (nodeA q00 nE)) ∧ Below w.heap.size w w' := by
  go_enter Try.func42, Try.ntmps42
  go_wp2_with fail
  refine bodyPost_ret (v := .agg (nodeA q00 nE)) (by simp (maxDischargeDepth := 8) [results, Try.results42, go_sem, Hd.nil]) rfl ⟨rfl, by (repeat (first | exact Below.refl _ _ | assumption | refine below_alloc2 ?_ (by first | exact Nat.le_refl _ | omega) _ | refine Below.drew ?_ | refine below_drewN ?_ _ | refine below_push2 ?_ ‹_› (by first | exact Nat.le_refl _ | omega) | refine Below.setCell ?_ (by first | (simp; done) | (simp; omega) | omega) _))⟩
theorem ebegin_any (p : Option Addr) (w : World) : Calls Try.prog 9 #[.pointer p] w fun r w' => r = .returned (.pointer (some ⟨w.heap.size, 0, none⟩)) ∧ w' = w.alloc (.cells #[.pointer p, .slice none 0 0, .slice none 0 0] 36) := by
  go_enter Try.func9, Try.ntmps9
  go_wp2_with fail
  go_ret
  exact ⟨rfl, rfl⟩
theorem EdAt.start {w0 w : World} {o m : Nat} {L : List Kn} {a : Option Addr} {c : Nat} {S : List Sp} {k0 n0 : Int} (b : Below w0.heap.size w0 w) (V : VwAt w w0.heap.size o m L a c S k0 n0) (hs : S.length ≤ 100) (hi : ∀ p ∈ S, I64 p.1 ∧ U64 p.2) :
    EdAt w0 (w.alloc (.cells (edA o none 0 0 none 0 0) 36)) w.heap.size o m L a c S k0 n0 [] none 0 none 0 0 := by
  have hx : Below w.heap.size w (w.alloc (.cells (edA o none 0 0 none 0 0) 36)) := by (repeat (first | exact Below.refl _ _ | assumption | refine below_alloc2 ?_ (by first | exact Nat.le_refl _ | omega) _ | refine Below.drew ?_ | refine below_drewN ?_ _ | refine below_push2 ?_ ‹_› (by first | exact Nat.le_refl _ | omega) | refine Below.setCell ?_ (by first | (simp; done) | (simp; omega) | omega) _))
  obtain ⟨h1, h2, h3⟩ := V.lts
  refine ⟨below_push2 b hx (Nat.le_refl _), V.under hx, Blk.new w _ _, OwnV.nil _ _ _ _ _, OwnV.nil _ _ _ _ _, by simp, by simp, Nat.zero_le _, hs, ⟨b.size, by omega, by omega, fun h => ?_, by simp [ob], by simp [ob]⟩, by simp [ob], by simp [ob], hi⟩
  have := h3 _ (own_ob h)
  omega
theorem RB.one {k : Nat} {w : World} {g : Nat} {T : TypeId} {cs : Array Value} (B : Blk w g cs T) (hs : cs.size = k) (h1 : ∀ v ∈ cs.toList, v.oneCell' = true) : RB k w g T [cs.toList] := by
  refine ⟨⟨cs, B, by simp [hs], fun i hi j v hj => ?_⟩, fun r hr => ?_⟩
  · have : i = 0 := by simpa using hi
    subst this
    simpa using hj
  · rw [List.mem_singleton.1 hr]
    exact ⟨by simpa using hs, h1⟩
def yE : KnV := (0, 1, 5, nE, ())
theorem liveKn (w : World) : KnIs w [knK (q00, yE)] [yE] := ⟨rfl, fun i h h' => by
  have : i = 0 := by simpa using h
  subst this
  exact ⟨q00, rfl, show I64 0 from ⟨by decide, by decide⟩, show U64 1 from ⟨by decide, by decide⟩, show U64 5 from ⟨by decide, by decide⟩, nE_ok _ _⟩⟩
theorem live1 : BgIs [] [yE] [] 0 (cBeg 0 (-1) 1 5) := ⟨by decide, .inr ⟨fun j hj => by simp at hj, .inr ⟨rfl, yE, rfl, rfl⟩⟩⟩
theorem live1' {cv : ChangeV} (h : BgIs [] [yE] [] 0 cv) : cv = cBeg 0 (-1) 1 5 := by
  rcases h.2 with ⟨i, hi, _⟩ | ⟨_, ⟨s, hs, _⟩ | ⟨_, y, hy, e⟩⟩
  · simp at hi
  · cases hs
  · have : y = yE := by
      have : knFind [yE] 0 = some yE := rfl
      rw [this] at hy
      exact (Option.some.inj hy).symm
    subst this
    exact e
theorem live2 (q : NodeH) : BgIs [(q, cNode (cBeg 0 (-1) 1 5) nE false)] [yE] [] 0 (cBeg 0 0 0 6) := ⟨by simp, .inl ⟨0, by simp, rfl, fun j hj h => by simp at hj; omega, rfl, rfl⟩⟩
theorem live2' {q : NodeH} {cv : ChangeV} (h : BgIs [(q, cNode (cBeg 0 (-1) 1 5) nE false)] [yE] [] 0 cv) : cv = cBeg 0 0 0 6 := by
  rcases h.2 with ⟨i, hi, _, _, _, e⟩ | ⟨hno, _⟩
  · have : i = 0 := by simpa using hi
    subst this
    exact e
  · exact absurd rfl (hno 0 (by simp))
theorem step_yes {C : List Ch} {l : List KnV} {T : List Sp} {cell : Int} {f : ChangeV → ChangeV} {C' : List Ch} {bit : Bool} (h : StepIs C l T cell f C' bit) {cv : ChangeV} (hB : BgIs C l T cell cv) (hu : ∀ cv', BgIs C l T cell cv' → cv' = cv) : bit = true ∧ ∃ q, C' = C ++ [(q, f cv)] := by
  rcases h with ⟨_, _, hn⟩ | ⟨h1, cv', q, h2, _, h3⟩
  · exact absurd hB (hn cv)
  · exact ⟨h1, q, by rw [h3, hu cv' h2]⟩
set_option maxRecDepth 100000 in
set_option maxHeartbeats 3200000 in
theorem lives21_any (w : World) : Calls Try.prog 8 #[] w fun r w' => r = .returned (.bool true) ∧ Below w.heap.size w w' := by
  go_enter Try.func8, Try.ntmps8
  go_wp2_with fail
  refine (empty21_any _).mono ?_
  rintro r w1 ⟨rfl, hb1⟩
  have hbx : Below w1.heap.size w1 (w1.alloc (.cells (knA q00 yE) 53)) := by (repeat (first | exact Below.refl _ _ | assumption | refine below_alloc2 ?_ (by first | exact Nat.le_refl _ | omega) _ | refine Below.drew ?_ | refine below_drewN ?_ _ | refine below_push2 ?_ ‹_› (by first | exact Nat.le_refl _ | omega) | refine Below.setCell ?_ (by first | (simp; done) | (simp; omega) | omega) _))
  have BX := Blk.new w1 (knA q00 yE) 53
  go_wp2_with fail
  have hB2 := below_push2 hb1 hbx (Nat.le_refl _)
  have HR : HRow (rawC 11) (w1.alloc (.cells (knA q00 yE) 53)) [] ⟨some ⟨w1.heap.size, 0, none⟩, 1⟩ (kpL [(q00, yE)]) := (RB.one BX rfl (by intro v hv; simp at hv; rcases hv with e | e | e | e | e | e | e | e | e | e | e <;> subst e <;> rfl)).hrow 1 (by simp) (by decide) [] (by simp)
  refine (show Calls _ _ _ _ _ from view19_any (ps := [(q00, yE)]) HR (by simp [cellB, yE]) (by simp) (by simp)).mono ?_
  clear HR BX
  generalize w1.alloc (.cells (knA q00 yE) 53) = w2 at hB2 hbx
  rintro r w3 ⟨o, m, rfl, V3, hb3⟩
  go_wp2_with fail
  refine (ebegin_any _ w3).mono ?_
  rintro r w4 ⟨rfl, rfl⟩
  have H4 : EdIs w2 (w3.alloc (.cells (edA o none 0 0 none 0 0) 36)) w3.heap.size o [knK (q00, yE)] [] [] 0 := ⟨m, none, 0, 0, 0, none, 0, none, 0, EdAt.start hb3 V3 (by simp) (by simp)⟩
  obtain ⟨e, he⟩ : ∃ e, e = w3.heap.size := ⟨_, rfl⟩
  rw [← he] at H4 ⊢
  replace he := Lib.hid he
  generalize w3.alloc (.cells (edA o none 0 0 none 0 0) 36) = w4 at H4 ⊢
  go_wp2_with fail
  refine (empty21_any _).mono ?_
  rintro r w5 ⟨rfl, hb5⟩
  go_wp2_with fail
  refine (set_any (H4.under hb5) (liveKn w2) 0 ⟨by decide, by decide⟩ q00 nE (nE_ok _ _) ⟨by decide, by decide, by decide⟩ false).mono ?_
  rintro r w6 ⟨C1, bit1, rfl, H6, hs1⟩
  obtain ⟨rfl, q1, rfl⟩ := step_yes hs1 live1 (fun _ => live1')
  clear hs1
  go_wp2_with fail
  refine (empty21_any _).mono ?_
  rintro r w7 ⟨rfl, hb7⟩
  go_wp2_with fail
  refine (set_any (H6.under hb7) (liveKn w2) 0 ⟨by decide, by decide⟩ q00 nE (nE_ok _ _) ⟨by decide, by decide, by decide⟩ true).mono ?_
  rintro r w8 ⟨C2, bit2, rfl, H8, hs2⟩
  obtain ⟨rfl, q2, rfl⟩ := step_yes hs2 (live2 q1) (fun _ => live2')
  clear hs2
  go_wp2_with fail
  refine (changes_any H8).mono ?_
  rintro r w9 ⟨g, C', rfl, P⟩
  obtain ⟨p1, p2, rfl, h1, h2⟩ : ∃ p1 p2 : Ch, C' = [p1, p2] ∧ p1.2 = cNode (cBeg 0 (-1) 1 5) nE false ∧ p2.2 = cNode (cBeg 0 0 0 6) nE true := by
    have h := P.eq
    match C', h with
    | [p1, p2], h =>
      simp at h
      exact ⟨p1, p2, rfl, h.1, h.2⟩
    | [], h => simp at h
    | [_], h => simp at h
    | _ :: _ :: _ :: _, h => simp at h
  have r0 := P.row.range 0 (by simp)
  have r1 := P.row.range 1 (by simp)
  have a1 : w9.cell? ⟨g, 1, none⟩ = some (.int .i64 (-1)) := by have := r0 1 _ rfl; rw [h1] at this; exact this
  have a3 : w9.cell? ⟨g, 3, none⟩ = some (.int .u64 5) := by have := r0 3 _ rfl; rw [h1] at this; exact this
  have b1 : w9.cell? ⟨g, 15, none⟩ = some (.int .i64 0) := by have := r1 1 _ rfl; rw [h2] at this; exact this
  have b3 : w9.cell? ⟨g, 17, none⟩ = some (.int .u64 6) := by have := r1 3 _ rfl; rw [h2] at this; exact this
  have b5 : w9.cell? ⟨g, 19, none⟩ = some (.bool true) := by have := r1 5 _ rfl; rw [h2] at this; exact this
  have hb9 := below_push2 H8.b P.b (Nat.le_refl _)
  have hbt := below_push2 hB2 hb9 (Nat.le_refl _)
  go_wp2_with fail
  go_ret
  exact ⟨rfl, hbt⟩
end Go.Proofs.Ytbemgfpnoeogdaa.EdP
