/-
  edit: Begin; law 21's lives.
-/
import Derived.Test.YtbemgfpnoeogdaaEditGoesPack3

namespace Go.Proofs.Ytbemgfpnoeogdaa.EdP
open Go.RowKit RefP FoP Dp
set_option linter.unusedVariables false
set_option linter.unusedSimpArgs false
abbrev nE : NodeV := ⟨0, ⟨#[]⟩, ⟨#[]⟩, true, -1, [], [], []⟩
theorem nE_ok (w : World) (S : List Nat) : NodeOk w S q00 nE := ⟨⟨by decide, by decide⟩, by decide, by decide, ⟨by decide, by decide⟩, HRow.nil _ _ _, HRow.nil _ _ _, HRow.nil _ _ _⟩
theorem empty21_any (w : World) : Calls Try.prog 42 #[] w fun r w' => r = .returned (.agg (nodeA q00 nE)) ∧ Below w.heap.size w w' := by
  go_enter Try.func42, Try.ntmps42
  go_wp2_with fail
  refine bodyPost_ret (v := .agg (nodeA q00 nE)) (by simp (maxDischargeDepth := 8) [results, Try.results42, go_sem, Hd.nil]) rfl ⟨rfl, by (repeat (first | exact Below.refl _ _ | assumption | refine below_alloc2 ?_ (by first | exact Nat.le_refl _ | omega) _ | refine Below.drew ?_ | refine below_drewN ?_ _ | refine below_push2 ?_ ‹_› (by first | exact Nat.le_refl _ | omega) | refine Below.setCell ?_ (by first | (simp; done) | (simp; omega) | omega) _))⟩
theorem ebegin_any (p : Option Addr) (w : World) : Calls Try.prog 9 #[.pointer p] w fun r w' => r = .returned (.pointer (some ⟨w.heap.size, 0, none⟩)) ∧ w' = w.alloc (.cells #[.pointer p, .slice none 0 0, .slice none 0 0] 36) := by
  go_enter Try.func9, Try.ntmps9
  go_wp2_with fail
  go_ret
  exact ⟨rfl, rfl⟩
theorem EdAt.start {w0 w : World} {o m : Nat} {L : List Kn} {a : Option Addr} {c : Nat} {S : List Sp} {k0 n0 : Int} (b : Below w0.heap.size w0 w) (V : VwAt w w0.heap.size o m L a c S k0 n0) (hs : S.length ≤ 100) (hi : ∀ p ∈ S, I64 p.1 ∧ U64 p.2) :
    EdAt w0 (w.alloc (.cells (edA o none 0 0 none 0 0) 36)) w.heap.size o m L a c S k0 n0 [] none 0 none 0 0 := by
  have hx : Below w.heap.size w (w.alloc (.cells (edA o none 0 0 none 0 0) 36)) := by (repeat (first | exact Below.refl _ _ | assumption | refine below_alloc2 ?_ (by first | exact Nat.le_refl _ | omega) _ | refine Below.drew ?_ | refine below_drewN ?_ _ | refine below_push2 ?_ ‹_› (by first | exact Nat.le_refl _ | omega) | refine Below.setCell ?_ (by first | (simp; done) | (simp; omega) | omega) _))
  obtain ⟨h1, h2, h3⟩ := V.lts
  refine ⟨below_push2 b hx (Nat.le_refl _), V.under hx, Blk.new w _ _, OwnV.nil _ _ _ _ _, OwnV.nil _ _ _ _ _, by simp, by simp, Nat.zero_le _, hs, ⟨b.size, by omega, by omega, fun h => ?_, by simp [ob], by simp [ob]⟩, by simp [ob], by simp [ob], hi⟩
  have := h3 _ (own_ob h)
  omega
theorem RB.one {k : Nat} {w : World} {g : Nat} {T : TypeId} {cs : Array Value} (B : Blk w g cs T) (hs : cs.size = k) (h1 : ∀ v ∈ cs.toList, v.oneCell' = true) : RB k w g T [cs.toList] := by
  refine ⟨⟨cs, B, by simp [hs], fun i hi j v hj => ?_⟩, fun r hr => ?_⟩
  · have : i = 0 := by simpa using hi
    subst this
    simpa using hj
  · rw [List.mem_singleton.1 hr]
    exact ⟨by simpa using hs, h1⟩
def yE : KnV := (0, 1, 5, nE, ())
theorem liveKn (w : World) : KnIs w [knK (q00, yE)] [yE] := ⟨rfl, fun i h h' => by
  have : i = 0 := by simpa using h
  subst this
  exact ⟨q00, rfl, show I64 0 from ⟨by decide, by decide⟩, show U64 1 from ⟨by decide, by decide⟩, show U64 5 from ⟨by decide, by decide⟩, nE_ok _ _⟩⟩
theorem live1 : BgIs [] [yE] [] 0 (cBeg 0 (-1) 1 5) := ⟨by decide, .inr ⟨fun j hj => by simp at hj, .inr ⟨rfl, yE, rfl, rfl⟩⟩⟩
theorem live1' {cv : ChangeV} (h : BgIs [] [yE] [] 0 cv) : cv = cBeg 0 (-1) 1 5 := by
  rcases h.2 with ⟨i, hi, _⟩ | ⟨_, ⟨s, hs, _⟩ | ⟨_, y, hy, e⟩⟩
  · simp at hi
  · cases hs
  · have : y = yE := by
      have : knFind [yE] 0 = some yE := rfl
      rw [this] at hy
      exact (Option.some.inj hy).symm
    subst this
    exact e
theorem live2 (q : NodeH) : BgIs [(q, cNode (cBeg 0 (-1) 1 5) nE false)] [yE] [] 0 (cBeg 0 0 0 6) := ⟨by simp, .inl ⟨0, by simp, rfl, fun j hj h => by simp at hj; omega, rfl, rfl⟩⟩
theorem live2' {q : NodeH} {cv : ChangeV} (h : BgIs [(q, cNode (cBeg 0 (-1) 1 5) nE false)] [yE] [] 0 cv) : cv = cBeg 0 0 0 6 := by
  rcases h.2 with ⟨i, hi, _, _, _, e⟩ | ⟨hno, _⟩
  · have : i = 0 := by simpa using hi
    subst this
    exact e
  · exact absurd rfl (hno 0 (by simp))
theorem step_yes {C : List Ch} {l : List KnV} {T : List Sp} {cell : Int} {f : ChangeV → ChangeV} {C' : List Ch} {bit : Bool} (h : StepIs C l T cell f C' bit) {cv : ChangeV} (hB : BgIs C l T cell cv) (hu : ∀ cv', BgIs C l T cell cv' → cv' = cv) : bit = true ∧ ∃ q, C' = C ++ [(q, f cv)] := by
  rcases h with ⟨_, _, hn⟩ | ⟨h1, cv', q, h2, _, h3⟩
  · exact absurd hB (hn cv)
  · exact ⟨h1, q, by rw [h3, hu cv' h2]⟩
set_option maxRecDepth 100000 in
set_option maxHeartbeats 3200000 in
theorem lives21_any (w : World) : Calls Try.prog 8 #[] w fun r w' => r = .returned (.bool true) ∧ Below w.heap.size w w' := by
  go_enter Try.func8, Try.ntmps8
  go_wp2_with fail
  refine (empty21_any _).mono ?_
  rintro r w1 ⟨rfl, hb1⟩
  have hbx : Below w1.heap.size w1 (w1.alloc (.cells (knA q00 yE) 53)) := by (repeat (first | exact Below.refl _ _ | assumption | refine below_alloc2 ?_ (by first | exact Nat.le_refl _ | omega) _ | refine Below.drew ?_ | refine below_drewN ?_ _ | refine below_push2 ?_ ‹_› (by first | exact Nat.le_refl _ | omega) | refine Below.setCell ?_ (by first | (simp; done) | (simp; omega) | omega) _))
  have BX := Blk.new w1 (knA q00 yE) 53
  go_wp2_with fail
  have hB2 := below_push2 hb1 hbx (Nat.le_refl _)
  have HR : HRow (rawC 11) (w1.alloc (.cells (knA q00 yE) 53)) [] ⟨some ⟨w1.heap.size, 0, none⟩, 1⟩ (kpL [(q00, yE)]) := (RB.one BX rfl (by intro v hv; simp at hv; rcases hv with e | e | e | e | e | e | e | e | e | e | e <;> subst e <;> rfl)).hrow 1 (by simp) (by decide) [] (by simp)
  refine (show Calls _ _ _ _ _ from view19_any (ps := [(q00, yE)]) HR (by simp [cellB, yE]) (by simp) (by simp)).mono ?_
  clear HR BX
  generalize w1.alloc (.cells (knA q00 yE) 53) = w2 at hB2 hbx
  rintro r w3 ⟨o, m, rfl, V3, hb3⟩
  go_wp2_with fail
  refine (ebegin_any _ w3).mono ?_
  rintro r w4 ⟨rfl, rfl⟩
  have H4 : EdIs w2 (w3.alloc (.cells (edA o none 0 0 none 0 0) 36)) w3.heap.size o [knK (q00, yE)] [] [] 0 := ⟨m, none, 0, 0, 0, none, 0, none, 0, EdAt.start hb3 V3 (by simp) (by simp)⟩
  obtain ⟨e, he⟩ : ∃ e, e = w3.heap.size := ⟨_, rfl⟩
  rw [← he] at H4 ⊢
  replace he := Lib.hid he
  generalize w3.alloc (.cells (edA o none 0 0 none 0 0) 36) = w4 at H4 ⊢
  go_wp2_with fail
  refine (empty21_any _).mono ?_
  rintro r w5 ⟨rfl, hb5⟩
  go_wp2_with fail
  refine (set_any (H4.under hb5) (liveKn w2) 0 ⟨by decide, by decide⟩ q00 nE (nE_ok _ _) ⟨by decide, by decide, by decide⟩ false).mono ?_
  rintro r w6 ⟨C1, bit1, rfl, H6, hs1⟩
  obtain ⟨rfl, q1, rfl⟩ := step_yes hs1 live1 (fun _ => live1')
  clear hs1
  go_wp2_with fail
  refine (empty21_any _).mono ?_
  rintro r w7 ⟨rfl, hb7⟩
  go_wp2_with fail
  refine (set_any (H6.under hb7) (liveKn w2) 0 ⟨by decide, by decide⟩ q00 nE (nE_ok _ _) ⟨by decide, by decide, by decide⟩ true).mono ?_
  rintro r w8 ⟨C2, bit2, rfl, H8, hs2⟩
  obtain ⟨rfl, q2, rfl⟩ := step_yes hs2 (live2 q1) (fun _ => live2')
  clear hs2
  go_wp2_with fail
  refine (changes_any H8).mono ?_
  rintro r w9 ⟨g, C', rfl, P⟩
  obtain ⟨p1, p2, rfl, h1, h2⟩ : ∃ p1 p2 : Ch, C' = [p1, p2] ∧ p1.2 = cNode (cBeg 0 (-1) 1 5) nE false ∧ p2.2 = cNode (cBeg 0 0 0 6) nE true := by
    have h := P.eq
    match C', h with
    | [p1, p2], h =>
      simp at h
      exact ⟨p1, p2, rfl, h.1, h.2⟩
    | [], h => simp at h
    | [_], h => simp at h
    | _ :: _ :: _ :: _, h => simp at h
  have r0 := P.row.range 0 (by simp)
  have r1 := P.row.range 1 (by simp)
  have a1 : w9.cell? ⟨g, 1, none⟩ = some (.int .i64 (-1)) := by have := r0 1 _ rfl; rw [h1] at this; exact this
  have a3 : w9.cell? ⟨g, 3, none⟩ = some (.int .u64 5) := by have := r0 3 _ rfl; rw [h1] at this; exact this
  have b1 : w9.cell? ⟨g, 15, none⟩ = some (.int .i64 0) := by have := r1 1 _ rfl; rw [h2] at this; exact this
  have b3 : w9.cell? ⟨g, 17, none⟩ = some (.int .u64 6) := by have := r1 3 _ rfl; rw [h2] at this; exact this
  have b5 : w9.cell? ⟨g, 19, none⟩ = some (.bool true) := by have := r1 5 _ rfl; rw [h2] at this; exact this
  have hb9 := below_push2 H8.b P.b (Nat.le_refl _)
  have hbt := below_push2 hB2 hb9 (Nat.le_refl _)
  go_wp2_with fail
  go_ret
  exact ⟨rfl, hbt⟩
end Go.Proofs.Ytbemgfpnoeogdaa.EdP

/-
  edit: an edit that is nil, or of no view: contracts.
-/
namespace Go.Proofs.Ytbemgfpnoeogdaa.EdP
open Go.RowKit RefP FoP Dp
set_option linter.unusedVariables false
set_option linter.unusedSimpArgs false
def NoE (w : World) (v : Value) : Prop := v = .pointer none ∨ ∃ e, v = .pointer (some ⟨e, 0, none⟩) ∧ Blk w e #[.pointer none, .slice none 0 0, .slice none 0 0] 36
theorem NoE.under {w w' : World} {v : Value} (h : NoE w v) (hb : Below w.heap.size w w') : NoE w' v := by
  rcases h with h | ⟨e, h, B⟩
  · exact .inl h
  · exact .inr ⟨e, h, B.below hb⟩
theorem nobody_no (w : World) (v : Value) (N : NoE w v) : Calls Try.prog 43 #[v] w fun r w' => r = .returned (.bool true) ∧ w' = w := by
  rcases N with rfl | ⟨e, rfl, B⟩
  · go_enter Try.func43, Try.ntmps43
    go_wp2_with fail
    go_ret
    exact ⟨rfl, rfl⟩
  · have c0 := B.at 0 rfl
    go_enter Try.func43, Try.ntmps43
    go_wp2_with fail
    go_ret
    exact ⟨rfl, rfl⟩
set_option maxHeartbeats 800000 in
theorem eat_no (w : World) (v : Value) (N : NoE w v) (cell : Int) : Calls Try.prog 10 #[v, .int .i64 cell] w fun r w' => r = .returned (.tuple #[.agg nd0, .bool false]) ∧ Below w.heap.size w w' := by
  have hb : Below w.heap.size w (w.alloc (.cells nd0 26)) := by (repeat (first | exact Below.refl _ _ | assumption | refine below_alloc2 ?_ (by first | exact Nat.le_refl _ | omega) _ | refine Below.drew ?_ | refine below_drewN ?_ _ | refine below_push2 ?_ ‹_› (by first | exact Nat.le_refl _ | omega) | refine Below.setCell ?_ (by first | (simp; done) | (simp; omega) | omega) _))
  have BR := Blk.new w nd0 26
  have N1 := N.under hb
  go_enter Try.func10, Try.ntmps10
  go_upto_region 1 with (fail)
  generalize w.alloc (.cells nd0 26) = w1 at hb BR N1 ⊢
  go_wp2_with fail
  refine (nobody_no _ _ N1).mono ?_
  rintro r w2 ⟨rfl, rfl⟩
  go_wp2_with (refine wpList_store_row rfl 26 _ _ rfl w.heap.size _ rfl rfl 26 _ BR.h (by kernel_rfl) (by rfl) (by kernel_rfl) ?_)
  exact bodyPost_ret (v := .tuple #[.agg nd0, .bool false]) (FoP.results_cell_tmp rfl _ _ w.heap.size 26 nd0 (0, 0) _ (.bool false) rfl rfl (FoP.Blk.row BR _).h Try.underlying26 rfl (by kernel_rfl)) rfl ⟨rfl, below_setRow hb (Nat.le_refl _) _⟩
theorem espare_no (w : World) (v : Value) (N : NoE w v) : Calls Try.prog 11 #[v] w fun r w' => r = .returned (.tuple #[.int .i64 (-1), .bool false]) ∧ w' = w := by
  go_enter Try.func11, Try.ntmps11
  go_wp2_with fail
  refine (nobody_no _ _ N).mono ?_
  rintro r w2 ⟨rfl, rfl⟩
  go_wp2_with fail
  refine bodyPost_ret (results_tmp2 rfl _ _ _) rfl ?_
  exact ⟨rfl, rfl⟩
set_option maxHeartbeats 800000 in
theorem begin_no (w : World) (v : Value) (N : NoE w v) (cell : Int) : Calls Try.prog 46 #[v, .int .i64 cell] w fun r w' => r = .returned (.tuple #[.agg chz, .bool false]) ∧ Below w.heap.size w w' := by
  have hb : Below w.heap.size w (w.alloc (.cells chz 97)) := by (repeat (first | exact Below.refl _ _ | assumption | refine below_alloc2 ?_ (by first | exact Nat.le_refl _ | omega) _ | refine Below.drew ?_ | refine below_drewN ?_ _ | refine below_push2 ?_ ‹_› (by first | exact Nat.le_refl _ | omega) | refine Below.setCell ?_ (by first | (simp; done) | (simp; omega) | omega) _))
  have BR := Blk.new w chz 97
  have N1 := N.under hb
  go_enter Try.func46, Try.ntmps46
  go_upto_region 1 with (fail)
  generalize w.alloc (.cells chz 97) = w1 at hb BR N1 ⊢
  go_wp2_with fail
  refine (nobody_no _ _ N1).mono ?_
  rintro r w2 ⟨rfl, rfl⟩
  go_wp2_with (refine wpList_store_row rfl 97 _ _ rfl w.heap.size _ rfl rfl 97 _ BR.h (by kernel_rfl) (by rfl) (by kernel_rfl) ?_)
  exact bodyPost_ret (v := .tuple #[.agg chz, .bool false]) (FoP.results_cell_tmp rfl _ _ w.heap.size 97 chz (0, 0) _ (.bool false) rfl rfl (FoP.Blk.row BR _).h Try.underlying97 rfl (by kernel_rfl)) rfl ⟨rfl, below_setRow hb (Nat.le_refl _) _⟩
set_option maxHeartbeats 800000 in
theorem set_no (w : World) (v : Value) (N : NoE w v) (cell : Int) (q : NodeH) (x : NodeV) (lin : Bool) : Calls Try.prog 12 #[v, .int .i64 cell, .agg (nodeA q x), .bool lin] w fun r w' => r = .returned (.bool false) ∧ Below w.heap.size w w' := by
  have hb : Below w.heap.size w (w.alloc (.cells (nodeA q x) 26)) := by (repeat (first | exact Below.refl _ _ | assumption | refine below_alloc2 ?_ (by first | exact Nat.le_refl _ | omega) _ | refine Below.drew ?_ | refine below_drewN ?_ _ | refine below_push2 ?_ ‹_› (by first | exact Nat.le_refl _ | omega) | refine Below.setCell ?_ (by first | (simp; done) | (simp; omega) | omega) _))
  have N1 := N.under hb
  go_enter Try.func12, Try.ntmps12
  go_upto_region 1 with (fail)
  generalize w.alloc (.cells (nodeA q x) 26) = w1 at hb N1 ⊢
  go_wp2_with fail
  refine (begin_no _ _ N1 cell).mono ?_
  rintro r w2 ⟨rfl, hb2⟩
  have hbx : Below w2.heap.size w2 (w2.alloc (.cells chz 97)) := by (repeat (first | exact Below.refl _ _ | assumption | refine below_alloc2 ?_ (by first | exact Nat.le_refl _ | omega) _ | refine Below.drew ?_ | refine below_drewN ?_ _ | refine below_push2 ?_ ‹_› (by first | exact Nat.le_refl _ | omega) | refine Below.setCell ?_ (by first | (simp; done) | (simp; omega) | omega) _))
  have hbt := below_push2 (below_push2 hb hb2 (Nat.le_refl _)) hbx (Nat.le_refl _)
  go_wp2_with (refine wpList_store_row rfl 97 _ _ rfl _ _ rfl rfl 97 _ (Blk.new w2 _ _).h (by kernel_rfl) (by rfl) (by kernel_rfl) ?_; rw [World.setRow_alloc_new])
  go_ret
  exact ⟨rfl, hbt⟩
set_option maxHeartbeats 800000 in
theorem clear_no (w : World) (v : Value) (N : NoE w v) (cell : Int) : Calls Try.prog 13 #[v, .int .i64 cell] w fun r w' => r = .returned (.bool false) ∧ Below w.heap.size w w' := by
  go_enter Try.func13, Try.ntmps13
  go_wp2_with fail
  refine (begin_no _ _ N cell).mono ?_
  rintro r w2 ⟨rfl, hb2⟩
  have hbx : Below w2.heap.size w2 (w2.alloc (.cells chz 97)) := by (repeat (first | exact Below.refl _ _ | assumption | refine below_alloc2 ?_ (by first | exact Nat.le_refl _ | omega) _ | refine Below.drew ?_ | refine below_drewN ?_ _ | refine below_push2 ?_ ‹_› (by first | exact Nat.le_refl _ | omega) | refine Below.setCell ?_ (by first | (simp; done) | (simp; omega) | omega) _))
  have hbt := below_push2 hb2 hbx (Nat.le_refl _)
  go_wp2_with (refine wpList_store_row rfl 97 _ _ rfl _ _ rfl rfl 97 _ (Blk.new w2 _ _).h (by kernel_rfl) (by rfl) (by kernel_rfl) ?_; rw [World.setRow_alloc_new])
  go_ret
  exact ⟨rfl, hbt⟩
theorem changes_no (w : World) (v : Value) (N : NoE w v) : Calls Try.prog 14 #[v] w fun r w' => r = .returned (.slice none 0 0) ∧ w' = w := by
  go_enter Try.func14, Try.ntmps14
  go_wp2_with fail
  refine (nobody_no _ _ N).mono ?_
  rintro r w2 ⟨rfl, rfl⟩
  go_wp2_with fail
  go_ret
  exact ⟨rfl, rfl⟩
theorem view_no (w : World) (v : Value) (N : NoE w v) : Calls Try.prog 15 #[v] w fun r w' => r = .returned (.pointer none) ∧ w' = w := by
  rcases N with rfl | ⟨e, rfl, B⟩
  · go_enter Try.func15, Try.ntmps15
    go_wp2_with fail
    go_ret
    exact ⟨rfl, rfl⟩
  · have c0 := B.at 0 rfl
    go_enter Try.func15, Try.ntmps15
    go_wp2_with fail
    go_ret
    exact ⟨rfl, rfl⟩
/-- an act -/
abbrev EAct := Int × Int × NodeV × Bool × Unit
def eactT : Cod EAct := pairC i64C (pairC i64C (pairC nodeT (pairC boolC unitC)))
abbrev eactA (kd n : Int) (q : NodeH) (x : NodeV) (b : Bool) : Array Value := #[.int .i64 kd, .int .i64 n, .int .i64 x.level, .string x.low, .string x.high, .bool x.last, .int .i64 x.next, .slice q.keys.a x.keys.length q.keys.c, .slice q.vals.a x.vals.length q.vals.c, .slice q.kids.a x.kids.length q.kids.c, .bool b]
theorem op_eact : Ox Try.prog 28 eactT := ox_struct Try.underlying28 (by kernel_rfl) (ox_cons rfl (by kernel_rfl) op_i64 (ox_cons rfl (by kernel_rfl) op_i64 (ox_cons rfl (by kernel_rfl) op_node (ox_cons rfl (by kernel_rfl) op_bool ox_nil))))
theorem eact_of {w : World} {S : List Nat} {cs : List Value} {x : EAct} (h : eactT.rep w S cs x) : ∃ q, cs = (eactA x.1 x.2.1 q x.2.2.1 x.2.2.2.1).toList ∧ I64 x.1 ∧ I64 x.2.1 ∧ NodeOk w S q x.2.2.1 := by
  obtain ⟨_, _, rfl, ⟨rfl, h0⟩, _, _, rfl, ⟨rfl, h1⟩, _, _, rfl, h2, _, _, rfl, h3, rfl⟩ := h
  obtain ⟨q, rfl, hn⟩ := nodeT_of h2
  refine ⟨q, ?_, I64.of h0, I64.of h1, hn⟩
  obtain rfl := h3
  rfl
theorem eact_node {w : World} {s : Nat} {kd n : Int} {q : NodeH} {x : NodeV} {b : Bool} {T : TypeId} (B : Blk w s (eactA kd n q x b) T) : w.rangeAt s 2 (nodeA q x).toList := fun j v hv => by
  have hj : j < 8 := (List.getElem?_eq_some_iff.1 hv).1
  have e : j = 0 ∨ j = 1 ∨ j = 2 ∨ j = 3 ∨ j = 4 ∨ j = 5 ∨ j = 6 ∨ j = 7 := by omega
  refine B.at (2 + j) ?_
  rcases e with e | e | e | e | e | e | e | e <;> subst e <;> exact hv
end Go.Proofs.Ytbemgfpnoeogdaa.EdP

/-
  Law 21's arguments as rows; law 15's and law 21's light: contracts.
-/
namespace Go.Proofs.Ytbemgfpnoeogdaa.EdP
open Go.RowKit RefP FoP Dp
set_option linter.unusedVariables false
set_option linter.unusedSimpArgs false
theorem kp_rows {w : World} {S : List Nat} {h : Hd} {xs : List KnV} (H : HRow knT w S h xs) : ∃ ps : List KP, ps.map (·.2) = xs ∧ HRow (rawC 11) w S h (kpL ps) ∧ ∀ p ∈ ps, KnOk w S p.1 p.2 := by
  by_cases h0 : 0 < xs.length
  · obtain ⟨b, off, ha, hb, hs, hc⟩ := H.row h0
    obtain ⟨ps, hl, hp⟩ := list_of_get xs.length (fun i (p : KP) => xs[i]? = some p.2 ∧ KnOk w S p.1 p.2 ∧ w.rangeAt b (off + i * 11) (knA p.1 p.2).toList) (fun i hi => by
      obtain ⟨cs, hr, hv⟩ := hc i xs[i] (List.getElem?_eq_getElem hi)
      obtain ⟨q, rfl, hk⟩ := kn_of hr
      exact ⟨(q, xs[i]), List.getElem?_eq_getElem hi, hk, hv⟩)
    refine ⟨ps, ?_, ⟨by simpa [hl] using H.le, H.cap, fun _ => ⟨b, off, ha, hb, hs, fun i x hx => ?_⟩⟩, fun p hp' => ?_⟩
    · apply List.ext_getElem?
      intro i
      rw [List.getElem?_map]
      by_cases hi : i < ps.length
      · rw [List.getElem?_eq_getElem hi, (hp i _ (List.getElem?_eq_getElem hi)).1]; rfl
      · rw [List.getElem?_eq_none (by omega), List.getElem?_eq_none (by omega)]; rfl
    · rw [List.getElem?_map] at hx
      cases hq : ps[i]? with
      | none => rw [hq] at hx; cases hx
      | some p =>
        rw [hq] at hx
        obtain rfl := (Option.some.inj hx).symm
        exact ⟨_, ⟨rfl, rfl, raw11_one p⟩, (hp i p hq).2.2⟩
    · obtain ⟨i, hi, rfl⟩ := List.getElem_of_mem hp'
      exact (hp i _ (List.getElem?_eq_getElem hi)).2.1
  · have e : xs = [] := List.eq_nil_of_length_eq_zero (by omega)
    subst e
    exact ⟨[], rfl, ⟨H.le, H.cap, RowRep.nil _ _ _ _⟩, by simp⟩
abbrev EP := NodeH × EAct
abbrev eaA (p : EP) : Array Value := eactA p.2.1 p.2.2.1 p.1 p.2.2.2.1 p.2.2.2.2.1
abbrev eaL (es : List EP) : List (List Value) := es.map (fun p => (eaA p).toList)
theorem raw11_ea (p : EP) : ∀ v ∈ (eaA p).toList, v.oneCell' = true := fun v hv => by
  simp at hv
  rcases hv with e | e | e | e | e | e | e | e | e | e | e <;> subst e <;> rfl
theorem ea_rows {w : World} {S : List Nat} {h : Hd} {xs : List EAct} (H : HRow eactT w S h xs) : ∃ es : List EP, es.length = xs.length ∧ HRow (rawC 11) w S h (eaL es) ∧ ∀ p ∈ es, I64 p.2.1 ∧ I64 p.2.2.1 ∧ NodeOk w S p.1 p.2.2.2.1 := by
  by_cases h0 : 0 < xs.length
  · obtain ⟨b, off, ha, hb, hs, hc⟩ := H.row h0
    obtain ⟨es, hl, hp⟩ := list_of_get xs.length (fun i (p : EP) => (I64 p.2.1 ∧ I64 p.2.2.1 ∧ NodeOk w S p.1 p.2.2.2.1) ∧ w.rangeAt b (off + i * 11) (eaA p).toList) (fun i hi => by
      obtain ⟨cs, hr, hv⟩ := hc i xs[i] (List.getElem?_eq_getElem hi)
      obtain ⟨q, rfl, h1, h2, hk⟩ := eact_of hr
      exact ⟨(q, xs[i]), ⟨h1, h2, hk⟩, hv⟩)
    refine ⟨es, hl, ⟨by simpa [hl] using H.le, H.cap, fun _ => ⟨b, off, ha, hb, hs, fun i x hx => ?_⟩⟩, fun p hp' => ?_⟩
    · rw [List.getElem?_map] at hx
      cases hq : es[i]? with
      | none => rw [hq] at hx; cases hx
      | some p =>
        rw [hq] at hx
        obtain rfl := (Option.some.inj hx).symm
        exact ⟨_, ⟨rfl, rfl, raw11_ea p⟩, (hp i p hq).2⟩
    · obtain ⟨i, hi, rfl⟩ := List.getElem_of_mem hp'
      exact (hp i _ (List.getElem?_eq_getElem hi)).1
  · have e : xs = [] := List.eq_nil_of_length_eq_zero (by omega)
    subst e
    exact ⟨[], rfl, ⟨H.le, H.cap, RowRep.nil _ _ _ _⟩, by simp⟩
theorem ea_at {w : World} {S : List Nat} {h : Hd} {es : List EP} (H : HRow (rawC 11) w S h (eaL es)) (i : Nat) (hi : i < es.length) : ∃ b off, h.a = some ⟨b, off, none⟩ ∧ b < w.heap.size ∧ w.rangeAt b (off + i * 11) (eaA es[i]).toList := by
  obtain ⟨b, off, e, hb, hr⟩ := raw_at H i (by simpa using hi)
  exact ⟨b, off, e, hb, by simpa using hr⟩
def light15 (ps : List KP) : Bool := ps.all (fun p => lightN p.2.2.2.2.1) && decide (ps.length ≤ 40)
def lightE (es : List EP) : Bool := es.all (fun p => lightN p.2.2.2.1)
theorem all_not {α : Type} {f : α → Bool} {l : List α} (k : Nat) (hk : k < l.length) (h : f l[k] = false) : l.all f = false := by
  rw [List.all_eq_false]
  exact ⟨l[k], List.getElem_mem hk, by simp [h]⟩
theorem all_yes {α : Type} {f : α → Bool} {l : List α} (h : ∀ j (hj : j < l.length), f l[j] = true) : l.all f = true := by
  rw [List.all_eq_true]
  intro x hx
  obtain ⟨j, hj, rfl⟩ := List.getElem_of_mem hx
  exact h j hj
set_option maxRecDepth 100000 in
set_option maxHeartbeats 1600000 in
theorem light15_any {w : World} {S : List Nat} {h : Hd} {ps : List KP} (H : HRow (rawC 11) w S h (kpL ps)) (hn : ∀ p ∈ ps, NodeOk w [] p.1 p.2.2.2.2.1) : Calls Try.prog 47 #[.slice h.a ps.length h.c] w fun r w' => r = .returned (.bool (light15 ps)) ∧ Below w.heap.size w w' := by
  have hmx : ps.length ≤ 9223372036854775807 := by
    have h1 := H.le
    have h2 := H.cap
    have h3 : (maxLen : Nat) = 9223372036854775807 := by unfold maxLen; rfl
    rw [List.length_map] at h1
    omega
  go_enter Try.func47, Try.ntmps47
  go_wp2_with fail
  go_loopg [7] ps.length (fun gg i wr => ∃ k : Nat, k ≤ ps.length ∧ ps.length ≤ k + gg ∧ i = .int .i64 k ∧ Below w.heap.size w wr ∧ Hid (∀ j (hj : j < ps.length), j < k → lightN ps[j].2.2.2.2.1 = true))
  case atStart => exact ⟨0, Nat.zero_le _, by omega, rfl, Below.refl _ _, Lib.hid fun j _ h => absurd h (by omega)⟩
  case round =>
    obtain ⟨k, hk, hkg, rfl, hb, hall⟩ := hrel
    by_cases hlt : k < ps.length
    · have hlt' : (k : Int) < (ps.length : Int) := by omega
      obtain ⟨b, off, ha, hbl, hcs0⟩ := kp_at H k hlt
      have hcs := raw_keep hcs0 hb hbl
      obtain ⟨ha', hc'⟩ := h
      simp only at ha
      subst ha
      have hbx : Below wr.heap.size wr (wr.alloc (.cells (knA ps[k].1 ps[k].2) 53)) := by (repeat (first | exact Below.refl _ _ | assumption | refine below_alloc2 ?_ (by first | exact Nat.le_refl _ | omega) _ | refine Below.drew ?_ | refine below_drewN ?_ _ | refine below_push2 ?_ ‹_› (by first | exact Nat.le_refl _ | omega) | refine Below.setCell ?_ (by first | (simp; done) | (simp; omega) | omega) _))
      have BX := Blk.new wr (knA ps[k].1 ps[k].2) 53
      have hB2 := below_push2 hb hbx (Nat.le_refl _)
      have hnk := (hn _ (List.getElem_mem hlt)).keep (Keeps.of_below hB2)
      go_upto_region 4 with (first
        | (refine wpList_load_mid rfl 53 _ rfl b (off + k * 11) rfl (knA ps[k].1 ps[k].2).toList _ hcs Try.underlying53 rfl (by kernel_rfl) ?_)
        | (refine wpList_store_row rfl 53 _ _ rfl _ _ rfl rfl 53 _ (Blk.new wr _ _).h (by kernel_rfl) (by rfl) (by kernel_rfl) ?_; rw [World.setRow_alloc_new]))
      obtain ⟨X, hX⟩ : ∃ x, x = wr.heap.size := ⟨_, rfl⟩
      rw [← hX] at BX ⊢
      replace hX := Lib.hid hX
      generalize wr.alloc (.cells (knA ps[k].1 ps[k].2) 53) = w2 at hbx BX hB2 hnk ⊢
      go_wp2_with (refine wpList_load_mid rfl 26 _ rfl X 3 rfl (nodeA ps[k].1 ps[k].2.2.2.2.1).toList _ (kn_node BX) Try.underlying26 rfl (by kernel_rfl) ?_)
      refine (light10_any [] ps[k].1 ps[k].2.2.2.2.1 w2 hnk).mono ?_
      rintro r w3 ⟨rfl, hb3⟩
      have hB3 := below_push2 hB2 hb3 (Nat.le_refl _)
      cases hl : lightN ps[k].2.2.2.2.1
      · go_wp2_with fail
        go_ret
        refine ⟨?_, hB3⟩
        unfold light15
        rw [all_not k hlt hl]
        rfl
      · have hl' := Lib.hid hl
        clear hl
        go_wp2_with fail
        go_roundg (ps.length - (k + 1))
        case measure => omega
        case rel => exact ⟨k + 1, by omega, by omega, by go_num, hB3, Lib.hid fun j hj hjk => by
          by_cases e : j = k
          · subst e; exact hl'.out
          · exact hall.out j hj (by omega)⟩
    · obtain rfl : k = ps.length := by omega
      have h1 : light15 ps = decide (ps.length ≤ 40) := by
        unfold light15
        rw [all_yes (fun j hj => hall.out j hj hj)]
        rfl
      by_cases h40 : ps.length ≤ 40
      · have h40' : (ps.length : Int) ≤ 40 := by omega
        rw [decide_eq_true h40] at h1
        replace h1 := Lib.hid h1
        go_wp2_with fail
        go_ret
        exact ⟨by rw [h1.out]; rfl, hb⟩
      · have h40' : ¬ ((ps.length : Int) ≤ 40) := by omega
        rw [decide_eq_false h40] at h1
        replace h1 := Lib.hid h1
        go_wp2_with fail
        go_ret
        exact ⟨by rw [h1.out]; rfl, hb⟩
def light21 (ps : List KP) (S : List Sp) (es : List EP) : Bool := lightE es && (light15 ps && (decide (S.length ≤ 40) && decide (es.length ≤ 60)))
set_option maxRecDepth 100000 in
set_option maxHeartbeats 3200000 in
theorem light21_any {w : World} {h hs he : Hd} {ps : List KP} {S : List Sp} {es : List EP} (H : HRow (rawC 11) w [] h (kpL ps)) (hn : ∀ p ∈ ps, NodeOk w [] p.1 p.2.2.2.2.1) (HE : HRow (rawC 11) w [] he (eaL es)) (hne : ∀ p ∈ es, NodeOk w [] p.1 p.2.2.2.1) : Calls Try.prog 16 #[.slice h.a ps.length h.c, .slice hs.a S.length hs.c, .slice he.a es.length he.c] w fun r w' => r = .returned (.bool (light21 ps S es)) ∧ Below w.heap.size w w' := by
  have hmx : es.length ≤ 9223372036854775807 := by
    have h1 := HE.le
    have h2 := HE.cap
    have h3 : (maxLen : Nat) = 9223372036854775807 := by unfold maxLen; rfl
    rw [List.length_map] at h1
    omega
  go_enter Try.func16, Try.ntmps16
  go_wp2_with fail
  go_loopg [11] es.length (fun gg i wr => ∃ k : Nat, k ≤ es.length ∧ es.length ≤ k + gg ∧ i = .int .i64 k ∧ Below w.heap.size w wr ∧ Hid (∀ j (hj : j < es.length), j < k → lightN es[j].2.2.2.1 = true))
  case atStart => exact ⟨0, Nat.zero_le _, by omega, rfl, Below.refl _ _, Lib.hid fun j _ h => absurd h (by omega)⟩
  case round =>
    obtain ⟨k, hk, hkg, rfl, hb, hall⟩ := hrel
    by_cases hlt : k < es.length
    · have hlt' : (k : Int) < (es.length : Int) := by omega
      obtain ⟨b, off, ha, hbl, hcs0⟩ := ea_at HE k hlt
      have hcs := raw_keep hcs0 hb hbl
      obtain ⟨ha', hc'⟩ := he
      simp only at ha
      subst ha
      have hbx : Below wr.heap.size wr (wr.alloc (.cells (eaA es[k]) 28)) := by (repeat (first | exact Below.refl _ _ | assumption | refine below_alloc2 ?_ (by first | exact Nat.le_refl _ | omega) _ | refine Below.drew ?_ | refine below_drewN ?_ _ | refine below_push2 ?_ ‹_› (by first | exact Nat.le_refl _ | omega) | refine Below.setCell ?_ (by first | (simp; done) | (simp; omega) | omega) _))
      have BX := Blk.new wr (eaA es[k]) 28
      have hB2 := below_push2 hb hbx (Nat.le_refl _)
      have hnk := (hne _ (List.getElem_mem hlt)).keep (Keeps.of_below hB2)
      go_upto_region 4 with (first
        | (refine wpList_load_mid rfl 28 _ rfl b (off + k * 11) rfl (eaA es[k]).toList _ hcs Try.underlying28 rfl (by kernel_rfl) ?_)
        | (refine wpList_store_row rfl 28 _ _ rfl _ _ rfl rfl 28 _ (Blk.new wr _ _).h (by kernel_rfl) (by rfl) (by kernel_rfl) ?_; rw [World.setRow_alloc_new]))
      obtain ⟨X, hX⟩ : ∃ x, x = wr.heap.size := ⟨_, rfl⟩
      rw [← hX] at BX ⊢
      replace hX := Lib.hid hX
      generalize wr.alloc (.cells (eaA es[k]) 28) = w2 at hbx BX hB2 hnk ⊢
      go_wp2_with (refine wpList_load_mid rfl 26 _ rfl X 2 rfl (nodeA es[k].1 es[k].2.2.2.1).toList _ (eact_node BX) Try.underlying26 rfl (by kernel_rfl) ?_)
      refine (light10_any [] es[k].1 es[k].2.2.2.1 w2 hnk).mono ?_
      rintro r w3 ⟨rfl, hb3⟩
      have hB3 := below_push2 hB2 hb3 (Nat.le_refl _)
      cases hl : lightN es[k].2.2.2.1
      · go_wp2_with fail
        go_ret
        refine ⟨?_, hB3⟩
        unfold light21 lightE
        rw [all_not k hlt hl]
        rfl
      · have hl' := Lib.hid hl
        clear hl
        go_wp2_with fail
        go_roundg (es.length - (k + 1))
        case measure => omega
        case rel => exact ⟨k + 1, by omega, by omega, by go_num, hB3, Lib.hid fun j hj hjk => by
          by_cases e : j = k
          · subst e; exact hl'.out
          · exact hall.out j hj (by omega)⟩
    · obtain rfl : k = es.length := by omega
      have h1 : light21 ps S es = (light15 ps && (decide (S.length ≤ 40) && decide (es.length ≤ 60))) := by
        unfold light21 lightE
        rw [all_yes (fun j hj => hall.out j hj hj)]
        rfl
      go_wp2_with fail
      refine (light15_any (H.keep (Keeps.of_below hb)) (fun p hp => (hn p hp).keep (Keeps.of_below hb))).mono ?_
      rintro r w3 ⟨rfl, hb3⟩
      have hB3 := below_push2 hb hb3 (Nat.le_refl _)
      cases h15 : light15 ps
      · rw [h15] at h1
        replace h1 := Lib.hid h1
        go_wp2_with fail
        go_ret
        exact ⟨by rw [h1.out]; rfl, hB3⟩
      · rw [h15] at h1
        by_cases h40 : S.length ≤ 40
        · have h40' : (S.length : Int) ≤ 40 := by omega
          rw [decide_eq_true h40] at h1
          have hd60 : decide ((es.length : Int) ≤ 60) = decide (es.length ≤ 60) := decide_eq_decide.2 (by omega)
          replace h1 := Lib.hid h1
          replace hd60 := Lib.hid hd60
          go_wp2_with fail
          go_ret
          refine ⟨?_, hB3⟩
          show Ending.returned (.bool (decide ((es.length : Int) ≤ 60))) = _
          rw [h1.out, hd60.out]
          rfl
        · have h40' : ¬ ((S.length : Int) ≤ 40) := by omega
          rw [decide_eq_false h40] at h1
          replace h1 := Lib.hid h1
          go_wp2_with fail
          go_ret
          exact ⟨by rw [h1.out]; rfl, hB3⟩
end Go.Proofs.Ytbemgfpnoeogdaa.EdP

/-
  The document's View of known nodes: the contract.
-/
namespace Go.Proofs.Ytbemgfpnoeogdaa.EdP
open Go.RowKit RefP FoP Dp
set_option linter.unusedVariables false
set_option linter.unusedSimpArgs false
/-- the document's view of the first k -/
structure RW (w wr : World) (ps : List KP) (k : Nat) : Prop where
  ex : ∃ a c, OwnK wr (w.heap.size + 2) a c ((ps.take k).map knK) ∧ Blk wr (w.heap.size + 1) (rvA ⟨a, c⟩ Hd.nil k 0 0 0) 58
  r : Blk wr w.heap.size rz 58
  b : Below w.heap.size w wr
theorem rv_of {w : World} {base : Nat} {a : Option Addr} {c : Nat} {ps : List KP} (O : OwnK w base a c (ps.map knK)) (hl : ps.length ≤ 100) : RV w ⟨a, c⟩ Hd.nil (ps.map knK) [] :=
  ⟨OwnV.hrow O (by decide) (by simp), HRow.nil _ _ _, fun p hp => by
    obtain ⟨x, _, rfl⟩ := List.mem_map.1 hp
    rfl, fun p hp => by
    obtain ⟨x, _, rfl⟩ := List.mem_map.1 hp
    exact knA_one _ _, by simpa using hl, by simp⟩
theorem rlearn_next {W : World} {a : Option Addr} {c : Nat} {ps : List KP} {k : Nat} (hk : k < ps.length) (R : RV W ⟨a, c⟩ Hd.nil ((ps.take k).map knK) []) (hd : (ps.map (·.2.1)).Nodup) (hck : cellB ps[k].2.1 = true) :
    Calls Try.prog 25 #[.agg (rvA ⟨a, c⟩ Hd.nil k 0 0 0), .agg (knA ps[k].1 ps[k].2)] W fun r w' => ∃ a' c', r = .returned (.tuple #[.agg (rvA ⟨a', c'⟩ Hd.nil (k + 1) 0 0 0), .bool true]) ∧ Below W.heap.size W w' ∧ OwnK w' W.heap.size a' c' ((ps.take (k + 1)).map knK) := by
  have hl1 : ((ps.take k).map knK).length = k := by simp; omega
  have hnew := knDel_new hd k hk
  have h := rlearn_any R 0 0 ps[k].2.1 _ _ _ _ _ _ _ _ _ _ (knA_one ps[k].1 ps[k].2).2 hck
  rw [hl1] at h
  refine h.mono ?_
  rintro r w' ⟨a', c', rfl, hb, O⟩
  have O' : OwnK w' W.heap.size a' c' (knDel ((ps.take k).map knK) ps[k].2.1 ++ [knK ps[k]]) := O
  have hl2 : (knDel ((ps.take k).map knK) ps[k].2.1 ++ [knK ps[k]]).length = k + 1 := by rw [hnew]; simp; omega
  rw [hnew] at O'
  exact ⟨a', c', congrArg (fun n => Ending.returned (.tuple #[.agg (rvA ⟨a', c'⟩ Hd.nil n 0 0 0), .bool true])) hl2, hb, O'⟩
set_option maxRecDepth 100000 in
set_option maxHeartbeats 3200000 in
theorem rview_any {w : World} {h : Hd} {ps : List KP} (H : HRow (rawC 11) w [] h (kpL ps)) (hc : ∀ p ∈ ps, cellB p.2.1 = true) (hd : (ps.map (·.2.1)).Nodup) (hl : ps.length ≤ 100) :
    Calls Try.prog 48 #[.slice h.a ps.length h.c] w fun r w' => ∃ a c, r = .returned (.agg (rvA ⟨a, c⟩ Hd.nil ps.length 0 0 0)) ∧ OwnK w' (w.heap.size + 2) a c (ps.map knK) ∧ Below w.heap.size w w' := by
  have hb : Below w.heap.size w ((w.alloc (.cells rz 58)).alloc (.cells rz 58)) := by (repeat (first | exact Below.refl _ _ | assumption | refine below_alloc2 ?_ (by first | exact Nat.le_refl _ | omega) _ | refine Below.drew ?_ | refine below_drewN ?_ _ | refine below_push2 ?_ ‹_› (by first | exact Nat.le_refl _ | omega) | refine Below.setCell ?_ (by first | (simp; done) | (simp; omega) | omega) _))
  have BR := (Blk.new w rz 58).alloc (.cells rz 58)
  have BV := Blk.new (w.alloc (.cells rz 58)) rz 58
  simp only [World.size_alloc] at BV
  go_enter Try.func48, Try.ntmps48
  go_upto_region 2 with (fail)
  generalize (w.alloc (.cells rz 58)).alloc (.cells rz 58) = w1 at hb BR BV ⊢
  have P0 : RW w w1 ps 0 := ⟨⟨none, 0, OwnV.nil _ _ _ _ _, BV⟩, BR, hb⟩
  clear hb BR BV
  go_wp2_with fail
  go_loopg [4] ps.length (fun gg i wr => ∃ k : Nat, k ≤ ps.length ∧ ps.length ≤ k + gg ∧ i = .int .i64 k ∧ RW w wr ps k)
  case atStart => exact ⟨0, Nat.zero_le _, by omega, rfl, P0⟩
  case round =>
    clear P0
    obtain ⟨k, hk, hkg, rfl, P⟩ := hrel
    by_cases hlt : k < ps.length
    · have hlt' : (k : Int) < (ps.length : Int) := by omega
      obtain ⟨b, off, ha, hbl, hcs0⟩ := kp_at H k hlt
      have hcs := raw_keep hcs0 P.b hbl
      obtain ⟨ha', hc'⟩ := h
      simp only at ha
      subst ha
      obtain ⟨a, c, O, B⟩ := P.ex
      have hnew := knDel_new hd k hlt
      have hck := hc _ (List.getElem_mem hlt)
      have hbw := P.b
      have hR := P.r
      go_upto_region 5 with (fail)
      have hVl := B.lt
      have hblr : b < wr.heap.size := Nat.lt_of_lt_of_le hbl hbw.size
      have hlk : ((ps.take k).map knK).length ≤ 100 := by simp; omega
      have hRV : ∀ W, Below wr.heap.size wr W → RV W ⟨a, c⟩ Hd.nil ((ps.take k).map knK) [] := fun W hW => by
        have := rv_of (ps := ps.take k) O (by rw [List.length_take]; omega)
        exact this.below hW
      have hOl := OwnV.lt O
      go_cut [5, 6] (fun v5 v6 W => ∃ X a' c', v5 = .pointer (some ⟨X, 0, none⟩) ∧ v6 = .bool true ∧ X ≠ w.heap.size + 1 ∧ X ≠ w.heap.size ∧ X ∉ ob a' ∧ Blk W X (rvA ⟨a', c'⟩ Hd.nil (k + 1) 0 0 0) 58 ∧ OwnK W (w.heap.size + 2) a' c' ((ps.take (k + 1)).map knK) ∧ Blk W (w.heap.size + 1) (rvA ⟨a, c⟩ Hd.nil k 0 0 0) 58 ∧ Blk W w.heap.size rz 58 ∧ Below w.heap.size w W)
      case first =>
        refine wp_region_held_drew (S := fun w' => w'.rangeAt (w.heap.size + 1) 0 (rvA ⟨a, c⟩ Hd.nil k 0 0 0).toList ∧ w'.rangeAt b (off + k * 11) (knA ps[k].1 ps[k].2).toList) (by kernel_rfl) ?_ (fun hHeld => ?_)
        · exact ⟨blk_range' B.drew, fun j v hv => hcs j v hv⟩
        have hb0 : Below wr.heap.size wr wr.drew := (Below.refl _ _).drew
        refine wpAnyH_take (i := 0) (oi := ⟨_, _, _, _, _, _⟩) (v := .agg (rvA ⟨a, c⟩ Hd.nil k 0 0 0)) rfl (by kernel_rfl) (by kernel_rfl) (by kernel_rfl) (fun _ _ _ h => h) (yieldsIf_load_mid (by rfl) 58 _ rfl (w.heap.size + 1) (0) rfl (rvA ⟨a, c⟩ Hd.nil k 0 0 0).toList _ (fun w h => h.1) Try.underlying58 rfl (by kernel_rfl)) (by assumption) ?_
        try simp only [Act.put, List.setIfInBounds_toArray, List.set_cons_zero, List.set_cons_succ]
        refine wpAnyH_take (i := 1) (oi := ⟨_, _, _, _, _, _⟩) (v := ?_) rfl (by kernel_rfl) (by kernel_rfl) (by kernel_rfl) (fun _ _ _ h => h) (Or.inl ⟨by rfl, ?_⟩) (by assumption) ?_
        rotate_left
        · intro wS hSw
          try dsimp only at hSw
          go_simp
          try with_reducible rfl
        try simp only [Act.put, List.setIfInBounds_toArray, List.set_cons_zero, List.set_cons_succ]
        refine wpAnyH_take (i := 2) (oi := ⟨_, _, _, _, _, _⟩) (v := ?_) rfl (by kernel_rfl) (by kernel_rfl) (by kernel_rfl) (fun _ _ _ h => h) (Or.inl ⟨by rfl, ?_⟩) (by assumption) ?_
        rotate_left
        · intro wS hSw
          try dsimp only at hSw
          go_simp
          try with_reducible rfl
        try simp only [Act.put, List.setIfInBounds_toArray, List.set_cons_zero, List.set_cons_succ]
        refine wpAnyH_take (i := 3) (oi := ⟨_, _, _, _, _, _⟩) (v := ?_) rfl (by kernel_rfl) (by kernel_rfl) (by kernel_rfl) (fun _ _ _ h => h) (Or.inl ⟨by rfl, ?_⟩) (by assumption) ?_
        rotate_left
        · intro wS hSw
          try dsimp only at hSw
          go_simp
          try with_reducible rfl
        try simp only [Act.put, List.setIfInBounds_toArray, List.set_cons_zero, List.set_cons_succ]
        refine wpAnyH_take (i := 4) (oi := ⟨_, _, _, _, _, _⟩) (v := .agg (knA ps[k].1 ps[k].2)) rfl (by kernel_rfl) (by kernel_rfl) (by kernel_rfl) (fun _ _ _ h => h) (yieldsIf_load_mid (by rfl) 53 _ rfl b ((off + k * 11)) rfl (knA ps[k].1 ps[k].2).toList _ (fun w h => h.2) Try.underlying53 rfl (by kernel_rfl)) (by assumption) ?_
        try simp only [Act.put, List.setIfInBounds_toArray, List.set_cons_zero, List.set_cons_succ]
        refine wpAnyH_ready (rs := [5, 9]) (by kernel_rfl) (by simp) ?_
        refine AllReadyH.cons rfl (fun K hK => ?_) (AllReadyH.cons rfl (fun K hK => ?_) AllReadyH.nil)
        · go_simp
          refine (rlearn_next hlt (hRV _ hb0) hd hck).mono ?_
          rintro r w3 ⟨a', c', rfl, hb3, O3⟩
          have hb13 := below_push2 hb0 hb3 (Nat.le_refl _)
          refine hK.out _ _ ⟨blk_range' (B.below hb13), raw_keep hcs hb13 hblr⟩ (fun hHeld => ?_)
          clear hK K
          refine wpAnyH_take (i := 6) (oi := ⟨_, _, _, _, _, _⟩) (v := ?_) rfl (by kernel_rfl) (by kernel_rfl) (by kernel_rfl) (fun _ _ _ h => h) (Or.inl ⟨by rfl, ?_⟩) (by assumption) ?_
          rotate_left
          · intro wS hSw
            try dsimp only at hSw
            go_simp
            try with_reducible rfl
          try simp only [Act.put, List.setIfInBounds_toArray, List.set_cons_zero, List.set_cons_succ]
          refine wpAnyH_take (i := 7) (oi := ⟨_, _, _, _, _, _⟩) (v := ?_) rfl (by kernel_rfl) (by kernel_rfl) (by kernel_rfl) (fun _ _ _ h => h) (Or.inl ⟨by rfl, ?_⟩) (by assumption) ?_
          rotate_left
          · intro wS hSw
            try dsimp only at hSw
            go_simp
            try with_reducible rfl
          try simp only [Act.put, List.setIfInBounds_toArray, List.set_cons_zero, List.set_cons_succ]
          refine wpAnyH_take (i := 8) (oi := ⟨_, _, _, _, _, _⟩) (v := ?_) rfl (by kernel_rfl) (by kernel_rfl) (by kernel_rfl) (fun _ _ _ h => h) (Or.inl ⟨by rfl, ?_⟩) (by assumption) ?_
          rotate_left
          · intro wS hSw
            try dsimp only at hSw
            go_simp
            try with_reducible rfl
          try simp only [Act.put, List.setIfInBounds_toArray, List.set_cons_zero, List.set_cons_succ]
          refine wpAnyH_ready (rs := [9]) (by kernel_rfl) (by simp) ?_
          refine AllReadyH.cons rfl (fun K hK => ?_) AllReadyH.nil
          go_simp
          have hbx : Below w3.heap.size w3 (w3.alloc (.cells rz 58)) := by (repeat (first | exact Below.refl _ _ | assumption | refine below_alloc2 ?_ (by first | exact Nat.le_refl _ | omega) _ | refine Below.drew ?_ | refine below_drewN ?_ _ | refine below_push2 ?_ ‹_› (by first | exact Nat.le_refl _ | omega) | refine Below.setCell ?_ (by first | (simp; done) | (simp; omega) | omega) _))
          have BX := Blk.new w3 rz 58
          have hb14 := below_push2 hb13 hbx (Nat.le_refl _)
          have hz3 := hb13.size
          have hz0 : wr.drew.heap.size = wr.heap.size := rfl
          have O4 := (O3.below hbx).rep (wr' := w3.alloc (.cells rz 58)) (S' := []) (fun _ _ h => h)
          have O5 := OwnV.lower (b' := w.heap.size + 2) O4 (by omega)
          have hOx := fun g hg => (OwnV.lt O3 g hg).2
          refine hK.out _ _ ⟨blk_range' (B.below hb14), raw_keep hcs hb14 hblr⟩ (fun hHeld => ?_)
          clear hK K
          refine wpAnyH_ready (rs := [10]) (by kernel_rfl) (by simp) ?_
          refine AllReadyH.cons rfl (fun K hK => ?_) AllReadyH.nil
          rw [if_pos (by rfl)]
          refine wp_store_row 58 _ _ rfl (w3.heap.size) _ rfl rfl 58 _ (BX).h (by kernel_rfl) (by rfl) (by kernel_rfl) ?_
          have BXf := FoP.Blk.row BX (rvA ⟨a', c'⟩ Hd.nil (k + 1) 0 0 0)
          have Ff := Fr.row (S := [w3.heap.size]) (w := w3.alloc (.cells rz 58)) (w3.heap.size) (rvA ⟨a', c'⟩ Hd.nil (k + 1) 0 0 0) (by simp)
          have BVf := Ff.blk (B.below hb14) (by simp; omega)
          have BRf := Ff.blk (hR.below hb14) (by simp; omega)
          have Of := ((O5).fr Ff (fun g hg e => by have := hOx g hg; simp at e; omega)).rep (wr' := (w3.alloc (.cells rz 58)).setRow (w3.heap.size) (rvA ⟨a', c'⟩ Hd.nil (k + 1) 0 0 0)) (S' := []) (fun _ _ h => h)
          have hbf := below_setRow (below_push2 hbw hb14 (Nat.le_refl _)) (show w.heap.size ≤ w3.heap.size by omega) (rvA ⟨a', c'⟩ Hd.nil (k + 1) 0 0 0)
          refine hK.out _ _ ⟨blk_range' BVf, fun j v hv => (World.cell?_of_block (Ff.block b (Nat.lt_of_lt_of_le hblr (hb14).size) (by simp; omega))).trans (raw_keep hcs hb14 hblr j v hv)⟩ (fun hHeld => ?_)
          clear hK K
          refine wpAnyH_take (i := 11) (oi := ⟨_, _, _, _, _, _⟩) (v := ?_) rfl (by kernel_rfl) (by kernel_rfl) (by kernel_rfl) (fun _ _ _ h => h) (Or.inl ⟨by rfl, ?_⟩) (by assumption) ?_
          rotate_left
          · intro wS hSw
            try dsimp only at hSw
            go_simp
            try with_reducible rfl
          try simp only [Act.put, List.setIfInBounds_toArray, List.set_cons_zero, List.set_cons_succ]
          refine wpAnyH_done (by kernel_rfl) ?_ _
          go_wp2_with fail
          go_meet
          exact ⟨w3.heap.size, a', c', rfl, rfl, by omega, by omega, (fun hg => by have := hOx _ hg; omega), BXf, Of, BVf, BRf, hbf⟩
        · go_simp
          have hbx : Below wr.heap.size wr (wr.alloc (.cells rz 58)).drew := ((Below.refl _ _).alloc (Nat.le_refl _) _).drew
          have BX := (Blk.new wr rz 58).drew
          have hlx := BX.lt
          refine hK.out _ _ ⟨blk_range' (B.below hbx), raw_keep hcs hbx hblr⟩ (fun hHeld => ?_)
          clear hK K
          generalize (wr.alloc (.cells rz 58)).drew = w3 at hbx BX hlx ⊢
          refine wpAnyH_ready (rs := [5]) (by kernel_rfl) (by simp) ?_
          refine AllReadyH.cons rfl (fun K hK => ?_) AllReadyH.nil
          go_simp
          refine (rlearn_next hlt (hRV _ hbx) hd hck).mono ?_
          rintro r w4 ⟨a', c', rfl, hb4, O4⟩
          have hb14 := below_push2 hbx hb4 (Nat.le_refl _)
          have BX4 := BX.below hb4
          have O5 := OwnV.lower (b' := w.heap.size + 2) O4 (by omega)
          have hOx := fun g hg => (OwnV.lt O4 g hg).1
          refine hK.out _ _ ⟨blk_range' (B.below hb14), raw_keep hcs hb14 hblr⟩ (fun hHeld => ?_)
          clear hK K
          refine wpAnyH_take (i := 6) (oi := ⟨_, _, _, _, _, _⟩) (v := ?_) rfl (by kernel_rfl) (by kernel_rfl) (by kernel_rfl) (fun _ _ _ h => h) (Or.inl ⟨by rfl, ?_⟩) (by assumption) ?_
          rotate_left
          · intro wS hSw
            try dsimp only at hSw
            go_simp
            try with_reducible rfl
          try simp only [Act.put, List.setIfInBounds_toArray, List.set_cons_zero, List.set_cons_succ]
          refine wpAnyH_take (i := 7) (oi := ⟨_, _, _, _, _, _⟩) (v := ?_) rfl (by kernel_rfl) (by kernel_rfl) (by kernel_rfl) (fun _ _ _ h => h) (Or.inl ⟨by rfl, ?_⟩) (by assumption) ?_
          rotate_left
          · intro wS hSw
            try dsimp only at hSw
            go_simp
            try with_reducible rfl
          try simp only [Act.put, List.setIfInBounds_toArray, List.set_cons_zero, List.set_cons_succ]
          refine wpAnyH_take (i := 8) (oi := ⟨_, _, _, _, _, _⟩) (v := ?_) rfl (by kernel_rfl) (by kernel_rfl) (by kernel_rfl) (fun _ _ _ h => h) (Or.inl ⟨by rfl, ?_⟩) (by assumption) ?_
          rotate_left
          · intro wS hSw
            try dsimp only at hSw
            go_simp
            try with_reducible rfl
          try simp only [Act.put, List.setIfInBounds_toArray, List.set_cons_zero, List.set_cons_succ]
          refine wpAnyH_ready (rs := [10]) (by kernel_rfl) (by simp) ?_
          refine AllReadyH.cons rfl (fun K hK => ?_) AllReadyH.nil
          rw [if_pos (by rfl)]
          refine wp_store_row 58 _ _ rfl (wr.heap.size) _ rfl rfl 58 _ (BX4).h (by kernel_rfl) (by rfl) (by kernel_rfl) ?_
          have BXf := FoP.Blk.row BX4 (rvA ⟨a', c'⟩ Hd.nil (k + 1) 0 0 0)
          have Ff := Fr.row (S := [wr.heap.size]) (w := w4) (wr.heap.size) (rvA ⟨a', c'⟩ Hd.nil (k + 1) 0 0 0) (by simp)
          have BVf := Ff.blk (B.below hb14) (by simp; omega)
          have BRf := Ff.blk (hR.below hb14) (by simp; omega)
          have Of := ((O5).fr Ff (fun g hg e => by have := hOx g hg; simp at e; omega)).rep (wr' := (w4).setRow (wr.heap.size) (rvA ⟨a', c'⟩ Hd.nil (k + 1) 0 0 0)) (S' := []) (fun _ _ h => h)
          have hbf := below_setRow (below_push2 hbw hb14 (Nat.le_refl _)) (show w.heap.size ≤ wr.heap.size by omega) (rvA ⟨a', c'⟩ Hd.nil (k + 1) 0 0 0)
          refine hK.out _ _ ⟨blk_range' BVf, fun j v hv => (World.cell?_of_block (Ff.block b (Nat.lt_of_lt_of_le hblr (hb14).size) (by simp; omega))).trans (raw_keep hcs hb14 hblr j v hv)⟩ (fun hHeld => ?_)
          clear hK K
          refine wpAnyH_take (i := 11) (oi := ⟨_, _, _, _, _, _⟩) (v := ?_) rfl (by kernel_rfl) (by kernel_rfl) (by kernel_rfl) (fun _ _ _ h => h) (Or.inl ⟨by rfl, ?_⟩) (by assumption) ?_
          rotate_left
          · intro wS hSw
            try dsimp only at hSw
            go_simp
            try with_reducible rfl
          try simp only [Act.put, List.setIfInBounds_toArray, List.set_cons_zero, List.set_cons_succ]
          refine wpAnyH_done (by kernel_rfl) ?_ _
          go_wp2_with fail
          go_meet
          exact ⟨wr.heap.size, a', c', rfl, rfl, by omega, by omega, (fun hg => by have := hOx _ hg; omega), BXf, Of, BVf, BRf, hbf⟩
      case rest =>
        obtain ⟨X, a', c', rfl, rfl, hX1, hX2, hX3, BX, O', BV', BR', hb'⟩ := hcut
        have Ff := Fr.row (S := [w.heap.size + 1]) (w := wc) (w.heap.size + 1) (rvA ⟨a', c'⟩ Hd.nil (k + 1) 0 0 0) (by simp)
        have P' : RW w (wc.setRow (w.heap.size + 1) (rvA ⟨a', c'⟩ Hd.nil (k + 1) 0 0 0)) ps (k + 1) := ⟨⟨a', c', (O'.fr Ff (fun g hg e => by have := (OwnV.lt O' g hg).1; simp at e; omega)).rep (fun _ _ h => h), FoP.Blk.row BV' _⟩, Ff.blk BR' (by simp), below_setRow hb' (show w.heap.size ≤ w.heap.size + 1 by omega) _⟩
        replace P' := Lib.hid P'
        apply_assumption
        go_wp2_with (first
          | (refine wpList_load_row rfl 58 _ rfl X rfl 58 _ (0, 0) _ BX.h Try.underlying58 rfl (by kernel_rfl) ?_)
          | (refine wpList_store_row rfl 58 _ _ rfl (w.heap.size + 1) _ rfl rfl 58 _ BV'.h (by kernel_rfl) (by rfl) (by kernel_rfl) ?_))
        go_roundg (ps.length - (k + 1))
        case measure => omega
        case rel => exact ⟨k + 1, by omega, by omega, by go_num, P'.out⟩
    · obtain rfl : k = ps.length := by omega
      obtain ⟨a, c, O, B⟩ := P.ex
      rw [List.take_length] at O
      have hR := P.r
      have hbw := P.b
      go_wp2_with (first
        | (refine wpList_load_row rfl 58 _ rfl (w.heap.size + 1) rfl 58 _ (0, 0) _ B.h Try.underlying58 rfl (by kernel_rfl) ?_)
        | (refine wpList_store_row rfl 58 _ _ rfl w.heap.size _ rfl rfl 58 _ hR.h (by kernel_rfl) (by rfl) (by kernel_rfl) ?_))
      exact bodyPost_ret (v := .agg (rvA ⟨a, c⟩ Hd.nil ps.length 0 0 0)) (results_cell_row rfl _ _ w.heap.size 58 (rvA ⟨a, c⟩ Hd.nil ps.length 0 0 0) (0, 0) _ rfl (FoP.Blk.row hR _).h Try.underlying58 rfl (by kernel_rfl)) rfl ⟨a, c, rfl, (O.fr (Fr.row (S := [w.heap.size]) w.heap.size _ (by simp)) (fun g hg e => by have := (OwnV.lt O g hg).1; simp at e; omega)).rep (fun _ _ h => h), below_setRow hbw (Nat.le_refl _) _⟩
end Go.Proofs.Ytbemgfpnoeogdaa.EdP

/-
  Law 21's views: the contract.
-/
namespace Go.Proofs.Ytbemgfpnoeogdaa.EdP
open Go.RowKit RefP FoP Dp
set_option linter.unusedVariables false
set_option linter.unusedSimpArgs false
theorem results_tmp_row {P : Program} {fn : Func} {p q : Tmp} {ty : TypeId} (h : fn.results = #[.tmp q, .cell p ty]) (tmps : Array Value) (w : World) (g : Nat) (t : TypeId) (cs : Array Value) (fr : Nat × Nat) (d : TypeDesc)
    (v : Value) (hv : tmps.getD q undef = v) (hp : tmps.getD p undef = .pointer (some ⟨g, 0, none⟩)) (hg : w.heap[g]? = some (.cells cs t fr))
    (hu : P.underlying ty = some d) (hd : (match d with | .struct _ | .array _ _ => true | _ => false) = true) (hi : (P.info? ty).map (·.size) = some cs.size) :
    (results fn tmps).run P w = .ok (.tuple #[v, .agg cs]) w := by
  subst hv
  have hp' : tmps[p]?.getD undef = .pointer (some ⟨g, 0, none⟩) := by simpa using hp
  simp [results, h, hp', asAddr, run_loadVar_row w g t ty cs fr d hg hu hd hi]
theorem vw_lower {w : World} {base b' o m : Nat} {L : List Kn} {a : Option Addr} {c : Nat} {S : List Sp} {k n : Int} (V : VwAt w base o m L a c S k n) (h : b' ≤ base) : VwAt w b' o m L a c S k n :=
  ⟨V.head, V.map, V.spares.lower h, by have := V.lo.1; omega, by have := V.lo.2.1; omega, V.lo.2.2⟩
theorem spHas_take {S : List Sp} (hd : (S.map (·.1)).Nodup) (k : Nat) (hk : k < S.length) : spHas (S.take k) S[k].1 = false :=
  spHas_no (fun j hj => by
    have hjk : j < k := by rw [List.length_take] at hj; omega
    rw [List.getElem_take]
    have := (List.pairwise_iff_getElem.1 hd) j k (by simp; omega) (by simpa using hk) hjk
    exact fun e => this (by rw [List.getElem_map, List.getElem_map]; exact e))
/-- what views answers -/
def ViAt (w : World) (L : List Kn) (S : List Sp) (r : Ending) (w' : World) : Prop :=
  ∃ o m a c kh sh, ∃ n1 n2 : Nat, r = .returned (.tuple #[.pointer (some ⟨o, 0, none⟩), .agg (rvA kh sh n1 n2 0 0)]) ∧ VwAt w' w.heap.size o m L a c S 0 0 ∧ Below w.heap.size w w'
set_option maxRecDepth 100000 in
set_option maxHeartbeats 1000000 in
theorem views_any {w : World} {h hs : Hd} {ps : List KP} {S : List Sp} (H : HRow (rawC 11) w [] h (kpL ps)) (hk : ∀ p ∈ ps, KnOk w [] p.1 p.2 ∧ cellB p.2.1 = true) (hd : (ps.map (·.2.1)).Nodup) (hl : ps.length ≤ 100) (HS : HRow spC w [] hs S) (hsc : ∀ s ∈ S, cellB s.1 = true) (hsd : (S.map (·.1)).Nodup) (hsl : S.length ≤ 100) :
    Calls Try.prog 19 #[.slice h.a ps.length h.c, .slice hs.a S.length hs.c] w (ViAt w (ps.map knK) S) := by
  have hb : Below w.heap.size w (w.alloc (.cells rz 58)) := by (repeat (first | exact Below.refl _ _ | assumption | refine below_alloc2 ?_ (by first | exact Nat.le_refl _ | omega) _ | refine Below.drew ?_ | refine below_drewN ?_ _ | refine below_push2 ?_ ‹_› (by first | exact Nat.le_refl _ | omega) | refine Below.setCell ?_ (by first | (simp; done) | (simp; omega) | omega) _))
  have BR := Blk.new w rz 58
  have hz1 : (w.alloc (.cells rz 58)).heap.size = w.heap.size + 1 := World.size_alloc _ _
  go_enter Try.func19, Try.ntmps19
  go_upto_region 1 with (fail)
  generalize w.alloc (.cells rz 58) = w1 at hb BR hz1 ⊢
  have H1 := H.keep (Keeps.of_below hb)
  have hk1 : ∀ p ∈ ps, KnOk w1 [] p.1 p.2 ∧ cellB p.2.1 = true := fun p hp => ⟨⟨(hk p hp).1.cell, (hk p hp).1.word, (hk p hp).1.ver, (hk p hp).1.node.keep (Keeps.of_below hb)⟩, (hk p hp).2⟩
  go_wp2_with fail
  refine (view19_any H1 (fun p hp => (hk p hp).2) hd hl).mono ?_
  rintro r w2 ⟨o, m, rfl, V2, hb2⟩
  go_wp2_with fail
  refine (rview_any (H1.keep (Keeps.of_below hb2)) (fun p hp => (hk p hp).2) hd hl).mono ?_
  rintro r w3 ⟨a3, c3, rfl, O3, hb3⟩
  have V3 := V2.under hb3
  have hbx : Below w3.heap.size w3 (w3.alloc (.cells (rvA ⟨a3, c3⟩ Hd.nil ps.length 0 0 0) 58)) := by (repeat (first | exact Below.refl _ _ | assumption | refine below_alloc2 ?_ (by first | exact Nat.le_refl _ | omega) _ | refine Below.drew ?_ | refine below_drewN ?_ _ | refine below_push2 ?_ ‹_› (by first | exact Nat.le_refl _ | omega) | refine Below.setCell ?_ (by first | (simp; done) | (simp; omega) | omega) _))
  go_upto_region 2 with (refine wpList_store_row rfl 58 _ _ rfl _ _ rfl rfl 58 _ (Blk.new w3 _ _).h (by kernel_rfl) (by rfl) (by kernel_rfl) ?_; rw [World.setRow_alloc_new])
  have hb13 := below_push2 hb2 hb3 (Nat.le_refl _)
  have hoz := V2.lts
  have hz3 := hb3.size
  have hz2 := hb2.size
  have P0 : PS w1 (w3.alloc (.cells (rvA ⟨a3, c3⟩ Hd.nil ps.length 0 0 0) 58)) o m w3.heap.size (ps.map knK) none 0 (S.take 0) 0 0 ⟨a3, c3⟩ Hd.nil := by
    have BB := Blk.new w3 (rvA ⟨a3, c3⟩ Hd.nil ps.length 0 0 0) 58
    have hlen : (ps.map knK).length = ps.length := List.length_map _
    have hO := OwnV.lt O3
    refine ⟨below_push2 hb13 hbx (Nat.le_refl _), V3.under hbx, by rw [hlen]; exact BB, ?_, HRow.nil _ _ _, fun p hp => ?_, by omega, by simp, hb13.size, by omega, by omega, by simp [ob]⟩
    · refine OwnV.hrow ((O3.below hbx).rep (wr' := w3.alloc (.cells (rvA ⟨a3, c3⟩ Hd.nil ps.length 0 0 0) 58)) (S' := avo o m w3.heap.size none) (fun _ _ h => h)) (by decide) (fun g hg hm => ?_)
      have := hO g hg
      simp [ob] at hm
      omega
    · obtain ⟨x, hx, rfl⟩ := List.mem_map.1 hp
      exact ⟨x.1, x.2, rfl, rfl, (hk1 x hx).1, (hk1 x hx).2⟩
  generalize w3.heap.size = B at P0 ⊢
  generalize w3.alloc (.cells (rvA ⟨a3, c3⟩ Hd.nil ps.length 0 0 0) 58) = w4 at P0 ⊢
  clear O3 V3 hbx V2 hoz hz3 hz2 hb13 hb3 hb2
  obtain ⟨L, hL⟩ : ∃ L, L = ps.map knK := ⟨_, rfl⟩
  rw [← hL] at P0
  replace hL := Lib.hid hL
  try simp only [Act.put]
  go_wp2_with fail
  go_loopg [16] S.length (fun gg i wr => ∃ (k : Nat) (a : Option Addr) (c : Nat) (kh sh : Hd), k ≤ S.length ∧ S.length ≤ k + gg ∧ i = .int .i64 k ∧ PS w1 wr o m B L a c (S.take k) 0 0 kh sh)
  case atStart => exact ⟨0, none, 0, _, _, Nat.zero_le _, by omega, rfl, P0⟩
  case round =>
    clear P0
    obtain ⟨k, a, c, kh, sh, hk', hkg, rfl, P4⟩ := hrel
    by_cases hlt : k < S.length
    · have hlt' : (k : Int) < (S.length : Int) := by omega
      obtain ⟨b, off, ha, hbl, y0, y1, i0, i1⟩ := sp_at (HS.keep (Keeps.of_below (below_push2 hb P4.b (Nat.le_refl _)))) k hlt
      obtain ⟨ha', hc'⟩ := hs
      simp only at ha
      subst ha
      have hyes : (cellB S[k].1 && !spHas (S.take k) S[k].1) = true := by rw [hsc _ (List.getElem_mem hlt), spHas_take hsd k hlt]; rfl
      have htk : S.take k ++ [(S[k].1, S[k].2)] = S.take (k + 1) := by rw [List.take_succ_eq_append_getElem hlt]
      have hTl : (S.take k).length ≤ 100 := by rw [List.length_take]; omega
      obtain ⟨T, hT⟩ : ∃ T, T = S.take k := ⟨_, rfl⟩
      rw [← hT] at P4 hyes htk
      replace hT := Lib.hid hT
      clear hTl
      generalize S[k].1 = s0 at y0 i0 hyes htk
      generalize S[k].2 = s1 at y1 i1 htk
      have hb5 : Below wr.heap.size wr (wr.alloc (.cells #[.int .i64 s0, .int .u64 s1] 60)) := by (repeat (first | exact Below.refl _ _ | assumption | refine below_alloc2 ?_ (by first | exact Nat.le_refl _ | omega) _ | refine Below.drew ?_ | refine below_drewN ?_ _ | refine below_push2 ?_ ‹_› (by first | exact Nat.le_refl _ | omega) | refine Below.setCell ?_ (by first | (simp; done) | (simp; omega) | omega) _))
      have P5 := P4.under hb5
      have BS5 := Blk.new wr #[.int .i64 s0, .int .u64 s1] 60
      obtain ⟨X, hX⟩ : ∃ s, s = wr.heap.size := ⟨_, rfl⟩
      have hXA : X ∉ avo o m B a := fun h => by have := P4.old X h; omega
      go_upto_region 5 with (refine wpList_store_row rfl 60 _ _ rfl _ _ rfl rfl 60 _ (Blk.new wr _ _).h (by kernel_rfl) (by rfl) (by kernel_rfl) ?_; rw [World.setRow_alloc_new])
      rw [← hX] at BS5 ⊢
      replace hX := Lib.hid hX
      replace htk := Lib.hid htk
      clear hb5 y0 y1
      generalize wr.alloc (.cells #[.int .i64 s0, .int .u64 s1] 60) = w5 at BS5 P5 ⊢
      go_wp2_with (refine wpList_load_row rfl 60 _ rfl X rfl 60 _ (0, 0) _ BS5.h Try.underlying60 rfl (by kernel_rfl) ?_)
      refine (vspare_yes P5.V s0 s1 P5.sl hyes).mono ?_
      rintro e w6 ⟨a6, c6, rfl, V6, F6, hg6⟩
      obtain ⟨A6, hB6⟩ := P5.spared F6 hg6
      have BS6 := F6.blk BS5 (fun h => hXA (by
        simp only [List.mem_cons] at h ⊢
        rcases h with e | e
        · exact .inl e
        · exact .inr (.inr (.inr e))))
      go_wp2_with (first
        | (refine wpList_load_row rfl 58 _ rfl B rfl 58 _ (0, 0) _ A6.blk.h Try.underlying58 rfl (by kernel_rfl) ?_)
        | (refine wpList_load_row rfl 60 _ rfl X rfl 60 _ (0, 0) _ BS6.h Try.underlying60 rfl (by kernel_rfl) ?_))
      refine (rspare_yes (A6.rv P5.rv) 0 0 s0 s1 i0 i1 hyes).mono ?_
      rintro e w7 ⟨a7, c7, rfl, hb7, O7⟩
      have A7 := A6.under hb7
      have hz6 : ∀ b ∈ avo o m B a6, b < w6.heap.size := fun b hb => by
        obtain ⟨h1, h2, h3⟩ := V6.lts
        simp only [List.mem_cons] at hb
        rcases hb with e | e | e | e
        · omega
        · omega
        · rw [e]; exact A6.blk.lt
        · exact h3 b (own_ob e)
      have hll : (T ++ [(s0, s1)]).length ≤ 100 := by rw [htk.out, List.length_take]; omega
      have P7 := PS.store (kh := kh) (sh := ⟨a7, c7⟩) A7.b (V6.under hb7) A7.blk A7.kn (own_avo O7 (by decide) (fun _ _ h => sp_any h) hz6) P5.node P5.ll hll ⟨P5.ge.1, P5.ge.2.1, P5.ge.2.2.1, hB6⟩
      rw [show (T ++ [(s0, s1)]).length = T.length + 1 by rw [List.length_append]; rfl] at P7
      go_wp2_with (refine wpList_store_row rfl 58 _ _ rfl B _ rfl rfl 58 _ A7.blk.h (by kernel_rfl) (by rfl) (by kernel_rfl) ?_)
      go_roundg (S.length - (k + 1))
      case measure => omega
      case rel => exact ⟨k + 1, a6, c6, kh, ⟨a7, c7⟩, by omega, by omega, by go_num, htk.out ▸ P7⟩
    · obtain rfl : k = S.length := by omega
      rw [List.take_length] at P4
      have BRr := BR.below P4.b
      have hBl := P4.blk
      go_upto_region 8 with (fail)
      refine wp_region_held_drew (S := fun w' => w'.rangeAt B 0 (rvA kh sh L.length S.length 0 0).toList) (by kernel_rfl) ?_ (fun hHeld => ?_)
      · exact blk_range' hBl.drew
      refine wpAnyH_take (i := 0) (oi := ⟨_, _, _, _, _, _⟩) (v := ?_) rfl (by kernel_rfl) (by kernel_rfl) (by kernel_rfl) (fun _ _ _ h => h) (Or.inl ⟨by rfl, ?_⟩) (by assumption) ?_
      rotate_left
      · intro wS hSw
        try dsimp only at hSw
        go_simp
        try with_reducible rfl
      try simp only [Act.put, List.setIfInBounds_toArray, List.set_cons_zero, List.set_cons_succ]
      refine wpAnyH_take (i := 1) (oi := ⟨_, _, _, _, _, _⟩) (v := .agg (rvA kh sh L.length S.length 0 0)) rfl (by kernel_rfl) (by kernel_rfl) (by kernel_rfl) (fun _ _ _ h => h) (yieldsIf_load_mid (by rfl) 58 _ rfl B (0) rfl (rvA kh sh L.length S.length 0 0).toList _ (fun w h => h) Try.underlying58 rfl (by kernel_rfl)) (by assumption) ?_
      try simp only [Act.put, List.setIfInBounds_toArray, List.set_cons_zero, List.set_cons_succ]
      refine wpAnyH_take (i := 2) (oi := ⟨_, _, _, _, _, _⟩) (v := ?_) rfl (by kernel_rfl) (by kernel_rfl) (by kernel_rfl) (fun _ _ _ h => h) (Or.inl ⟨by rfl, ?_⟩) (by assumption) ?_
      rotate_left
      · intro wS hSw
        try dsimp only at hSw
        go_simp
        try with_reducible rfl
      try simp only [Act.put, List.setIfInBounds_toArray, List.set_cons_zero, List.set_cons_succ]
      have hBw := P4.ge.1
      have BRd := BRr.drew
      have Ff := Fr.row (S := [w.heap.size]) (w := wr.drew) w.heap.size (rvA kh sh L.length S.length 0 0) (by simp)
      have hbf : Below w.heap.size w (wr.drew.setRow w.heap.size (rvA kh sh L.length S.length 0 0)) := below_setRow (below_push2 hb P4.b (Nat.le_refl _)).drew (Nat.le_refl _) _
      have hV := (P4.V.under (Below.refl wr.heap.size wr).drew).fr Ff (by have := P4.V.lo.1; simp; omega) (by have := P4.V.lo.2.1; simp; omega) (fun g hg e => by have := (OwnR.lt P4.V.spares g hg).1; simp at e; omega)
      refine wpAnyH_ready (rs := [3]) (by kernel_rfl) (by simp) ?_
      refine AllReadyH.cons rfl (fun K hK => ?_) AllReadyH.nil
      rw [if_pos (by rfl)]
      refine wp_store_row 58 _ _ rfl w.heap.size _ rfl rfl 58 _ BRd.h (by kernel_rfl) (by rfl) (by kernel_rfl) ?_
      refine hK.out _ _ (blk_range' (Ff.blk hBl.drew (by simp; omega))) (fun hHeld => ?_)
      clear hK K
      refine wpAnyH_done (by kernel_rfl) ?_ _
      go_wp2_with fail
      have hV' : VwAt (wr.drew.setRow w.heap.size (rvA kh sh L.length S.length 0 0)) w.heap.size o m (ps.map knK) a c S 0 0 := by
        rw [← hL.out]
        exact vw_lower hV (by omega)
      exact bodyPost_ret (v := .tuple #[.pointer (some ⟨o, 0, none⟩), .agg (rvA kh sh L.length S.length 0 0)]) (results_tmp_row rfl _ _ w.heap.size 58 (rvA kh sh L.length S.length 0 0) (0, 0) _ _ rfl rfl (FoP.Blk.row BRd _).h Try.underlying58 rfl (by kernel_rfl)) rfl ⟨o, m, a, c, kh, sh, _, _, rfl, hV', hbf⟩
end Go.Proofs.Ytbemgfpnoeogdaa.EdP

/-
  EditGoes: what the walk uses: the cells' row, finding, changes told again.
-/
namespace Go.Proofs.Ytbemgfpnoeogdaa.EdP
open Go.RowKit RefP FoP Dp
set_option linter.unusedVariables false
set_option linter.unusedSimpArgs false
abbrev sK (s : Sp) : KP := (q00, (s.1, 0, s.2, n00, ()))
/-- all cells, with heads -/
def qsL (ps : List KP) (S : List Sp) : List KP := ps ++ S.map sK
theorem qsL_snd (ps : List KP) (S : List Sp) : (qsL ps S).map (·.2) = cellsL (ps.map (·.2)) S := by simp [qsL, cellsL, Function.comp_def]
theorem qsL_len (ps : List KP) (S : List Sp) : (qsL ps S).length = ps.length + S.length := by simp [qsL]
theorem qsL_ps (ps : List KP) (S : List Sp) (k : Nat) (hk : k < ps.length) : (qsL ps S)[k]'(by rw [qsL_len]; omega) = ps[k] := by simp [qsL, List.getElem_append, hk]
theorem qsL_S (ps : List KP) (S : List Sp) (k : Nat) (hk : k < S.length) : (qsL ps S)[ps.length + k]'(by rw [qsL_len]; omega) = sK S[k] := by simp [qsL, List.getElem_append]
theorem find_next {W : World} {a : Option Addr} {c base k : Nat} {qs : List KP} (O : OwnK W base a c ((qs.take k).map knK)) (hk : k ≤ qs.length) (hl : qs.length ≤ 100) (n : Int) :
    Calls Try.prog 18 #[.agg (rvA ⟨a, c⟩ Hd.nil k 0 0 0), .int .i64 n] W fun r w' => ∃ i : Int, r = .returned (.int .i64 i) ∧ Below W.heap.size W w' ∧ ((i < 0 ∧ ∀ j (hj : j < qs.length), j < k → qs[j].2.1 ≠ n) ∨ 0 ≤ i) := by
  have hl1 : ((qs.take k).map knK).length = k := by simp; omega
  have h := rfind_any (rv_of O (by rw [List.length_take]; omega)) 0 0 n
  rw [hl1] at h
  refine h.mono ?_
  rintro r w' ⟨i, rfl, hf, hb⟩
  refine ⟨i, rfl, hb, ?_⟩
  rcases hf with ⟨rfl, h1⟩ | ⟨i, hi, rfl, _, _⟩
  · refine .inl ⟨by decide, fun j hj hjk e => ?_⟩
    unfold knAt at h1
    rw [Option.map_eq_none_iff, List.find?_eq_none] at h1
    refine h1 (knK qs[j]) (List.mem_map.2 ⟨qs[j], List.mem_take_iff_getElem.2 ⟨j, by omega, rfl⟩, rfl⟩) (by simpa using e)
  · exact .inr (by omega)
theorem nodup_snoc {qs : List KP} {k : Nat} (hk : k < qs.length) (h : ((qs.take k).map (·.2.1)).Nodup) (hn : ∀ j (hj : j < qs.length), j < k → qs[j].2.1 ≠ qs[k].2.1) : ((qs.take (k + 1)).map (·.2.1)).Nodup := by
  rw [List.take_succ_eq_append_getElem hk, List.map_append, List.nodup_append]
  refine ⟨h, by simp, fun x hx y hy => ?_⟩
  obtain ⟨p, hp, rfl⟩ := List.mem_map.1 hx
  obtain ⟨j, hj, rfl⟩ := List.mem_take_iff_getElem.1 hp
  simp at hy
  subst hy
  exact hn j (by omega) (by omega)
/-- a cell more -/
theorem add_next {W : World} {a : Option Addr} {c base k : Nat} {qs : List KP} (O : OwnK W base a c ((qs.take k).map knK)) (hk : k < qs.length) (hl : qs.length ≤ 100) {b : Nat} {T : TypeId} (B : Blk W b (knA qs[k].1 qs[k].2) T) (hb : base ≤ W.heap.size) :
    ∃ g cap w', Hid (∀ ty, (Builtin.append_ #[48, 48] ty #[.slice a k c, .slice (some ⟨b, 0, none⟩) 1 1]).run Try.prog W = .ok (.slice (some ⟨g, 0, none⟩) (k + 1) cap) w') ∧
      OwnK w' base (some ⟨g, 0, none⟩) cap ((qs.take (k + 1)).map knK) ∧ Fr (ob a) W w' := by
  have hl1 : (knL ((qs.take k).map knK)).length = k := by simp; omega
  obtain ⟨g, cap, w', A⟩ := OwnV.addLit tinKnown (by decide) O B (x := (knA qs[k].1 qs[k].2).toList) (show (rawC 11).rep _ _ _ _ from ⟨rfl, rfl, raw11_one qs[k]⟩) (by omega) (by decide) hb
  have hr := A.run
  rw [hl1] at hr
  refine ⟨g, cap, w', Lib.hid hr, ?_, A.fr⟩
  have := A.own.rep (wr' := w') (S' := []) (fun _ _ h => h)
  show OwnV (rawC 11) w' [] w' base 53 _ _ (knL ((qs.take (k + 1)).map knK))
  rw [show knL ((qs.take (k + 1)).map knK) = knL ((qs.take k).map knK) ++ [(knA qs[k].1 qs[k].2).toList] by rw [List.take_succ_eq_append_getElem hk]; simp only [knL, List.map_append, List.map_cons, List.map_nil]]
  exact this
theorem stY_congr {C C' : List Ch} (h : C'.map (·.2) = C.map (·.2)) (k : Nat) (y : KnV) : stY C' k y = stY C k y := by
  have hg : ∀ i, (C'.getD i ch0).2 = (C.getD i ch0).2 := fun i => by
    have := congrArg (fun l => l[i]?) h
    simp only [List.getElem?_map] at this
    rw [List.getD_eq_getElem?_getD, List.getD_eq_getElem?_getD]
    cases h1 : C'[i]? <;> cases h2 : C[i]? <;> simp [h1, h2] at this <;> simp [this]
  induction k with
  | zero => rfl
  | succ k ih => unfold stY; rw [hg k, ih]
theorem NC_congr {l : List KnV} {S : List Sp} {C C' : List Ch} (h : C'.map (·.2) = C.map (·.2)) (k : Nat) : NC l S C' k = NC l S C k := by
  unfold NC
  exact List.map_congr_left (fun y _ => stY_congr h k y)
theorem GI.congr {l : List KnV} {S : List Sp} {C C' : List Ch} (h : C'.map (·.2) = C.map (·.2)) (G : GI l S C) : GI l S C' := fun k hk => by
  have hl : C'.length = C.length := by simpa using congrArg List.length h
  have hg : ∀ i (hi : i < C'.length), C'[i].2 = (C[i]'(by omega)).2 := fun i hi => by
    have := congrArg (fun l => l[i]?) h
    simp only [List.getElem?_map, List.getElem?_eq_getElem hi, List.getElem?_eq_getElem (show i < C.length by omega), Option.map_some] at this
    exact Option.some.inj this
  rcases G k (by omega) with ⟨j, hj, a1, a2, a3, a4, a5, a6⟩ | ⟨a1, a2, a3⟩
  · exact .inl ⟨j, by omega, a1, by rw [hg j (by omega), hg k hk]; exact a2, fun i hi q1 q2 => by rw [hg i hi, hg k hk]; exact a3 i (by omega) q1 q2, by rw [hg j (by omega)]; exact a4, by rw [hg k hk]; exact a5, by rw [hg j (by omega), hg k hk]; exact a6⟩
  · exact .inr ⟨fun j hj q => by rw [hg j hj, hg k hk]; exact a1 j (by omega) q, by rw [hg k hk]; exact a2, by rw [hg k hk]; exact a3⟩
/-- the cells are unlike, and cells -/
structure Gath (ps : List KP) (S : List Sp) : Prop where
  nd : ((qsL ps S).map (·.2.1)).Nodup
  cell : ∀ p ∈ qsL ps S, cellB p.2.1 = true
theorem Gath.parts {ps : List KP} {S : List Sp} (G : Gath ps S) : (ps.map (·.2.1)).Nodup ∧ (S.map (·.1)).Nodup ∧ (∀ p ∈ ps, cellB p.2.1 = true) ∧ (∀ s ∈ S, cellB s.1 = true) := by
  have h := G.nd
  rw [qsL, List.map_append, List.map_map, List.nodup_append] at h
  refine ⟨h.1, ?_, fun p hp => G.cell p (List.mem_append.2 (.inl hp)), fun s hs => G.cell (sK s) (List.mem_append.2 (.inr (List.mem_map.2 ⟨s, hs, rfl⟩)))⟩
  have := h.2.1
  simpa [Function.comp_def] using this
theorem Gath.cells {ps : List KP} {S : List Sp} (G : Gath ps S) (hw : ∀ p ∈ ps, p.2.2.1 ≠ 0) : Cells (ps.map (·.2)) S := by
  refine ⟨?_, fun y hy => ?_⟩
  · rw [← qsL_snd, List.map_map]
    exact G.nd
  · obtain ⟨p, hp, rfl⟩ := List.mem_map.1 hy
    exact hw p hp
theorem sp_si {w : World} {S' : List Nat} {h : Hd} {S : List Sp} (H : HRow spC w S' h S) : ∀ p ∈ S, I64 p.1 ∧ U64 p.2 := fun p hp => by
  obtain ⟨i, hi, rfl⟩ := List.getElem_of_mem hp
  obtain ⟨_, _, _, _, _, _, h1, h2⟩ := sp_at H i hi
  exact ⟨h1, h2⟩
theorem kn_is {w : World} {ps : List KP} (hk : ∀ p ∈ ps, KnOk w [] p.1 p.2) : KnIs w (ps.map knK) (ps.map (·.2)) := ⟨by simp, fun i h h' => by
  have hi : i < ps.length := by simpa using h
  exact ⟨ps[i].1, by simp, by simpa using hk _ (List.getElem_mem hi)⟩⟩
theorem knok_keep {w w' : World} {q : NodeH} {y : KnV} (h : KnOk w [] q y) (hb : Below w.heap.size w w') : KnOk w' [] q y := ⟨h.cell, h.word, h.ver, h.node.keep (Keeps.of_below hb)⟩
theorem light_small {x : NodeV} (h : lightN x = true) : SmallN x := by
  simp [lightN] at h
  exact ⟨by omega, by omega, by omega⟩
theorem BgIs.empty {C : List Ch} {l : List KnV} {T : List Sp} {cell : Int} {cv : ChangeV} (h : BgIs C l T cell cv) : cv.empty = false := by
  rcases h.2 with ⟨i, hi, _, _, _, e⟩ | ⟨_, ⟨s, _, e⟩ | ⟨_, y, _, e⟩⟩ <;> (rw [e]; rfl)
theorem GI.set {l : List KnV} {S : List Sp} {C C' : List Ch} (H : Cells l S) (G : GI l S C) {t : Nat} {cell : Int} {x : NodeV} {lin bit : Bool} (hs : StepIs C l (S.take t) cell (fun cv => cNode cv x lin) C' bit) : GI l S C' := by
  rcases hs with ⟨_, e, _⟩ | ⟨_, cv, q, hB, _, e⟩
  · rw [e]; exact G
  · rw [e]
    exact G.snoc H hB (p := (q, cNode cv x lin)) rfl rfl rfl rfl (fun h => by
      have := hB.empty
      simp [cNode] at h
      rw [this] at h; cases h)
theorem GI.clear {l : List KnV} {S : List Sp} {C C' : List Ch} (H : Cells l S) (G : GI l S C) {t : Nat} {cell : Int} {bit : Bool} {x : NodeV} (hA : AtIs C l cell x true) (hs : StepIs C l (S.take t) cell cEmp C' bit) : GI l S C' := by
  rcases hs with ⟨_, e, _⟩ | ⟨_, cv, q, hB, _, e⟩
  · rw [e]; exact G
  · rw [e]
    exact G.snoc H hB (p := (q, cEmp cv)) rfl rfl rfl rfl (fun _ => ⟨x, hA⟩)
theorem lightE_at {es : List EP} (h : lightE es = true) (k : Nat) (hk : k < es.length) : lightN es[k].2.2.2.1 = true := by
  unfold lightE at h
  rw [List.all_eq_true] at h
  exact h _ (List.getElem_mem hk)
end Go.Proofs.Ytbemgfpnoeogdaa.EdP

/-
  EditGoes: the walk.
-/
namespace Go.Proofs.Ytbemgfpnoeogdaa.EdP
open Go.RowKit RefP FoP Dp
set_option linter.unusedVariables false
set_option linter.unusedSimpArgs false
abbrev kbS (s0 s1 : Int) : Array Value := #[.int .i64 s0, .int .u64 0, .int .u64 s1, .int .i64 0, .string ⟨#[]⟩, .string ⟨#[]⟩, .bool false, .int .i64 0, .slice none 0 0, .slice none 0 0, .slice none 0 0]
/-- while the cells are gathered -/
structure CG (w wr : World) (qs : List KP) (a : Option Addr) (c k : Nat) : Prop where
  b : Below w.heap.size w wr
  own : OwnK wr w.heap.size a c ((qs.take k).map knK)
  nd : ((qs.take k).map (·.2.1)).Nodup
  cell : ∀ j (hj : j < qs.length), j < k → cellB qs[j].2.1 = true
theorem node_at {w : World} {s : Nat} {q : NodeH} {x : NodeV} {T : TypeId} (B : Blk w s (nodeA q x) T) : w.rangeAt s 0 (nodeA q x).toList := fun j v hv => by
  have hj : j < 8 := (List.getElem?_eq_some_iff.1 hv).1
  have e : j = 0 ∨ j = 1 ∨ j = 2 ∨ j = 3 ∨ j = 4 ∨ j = 5 ∨ j = 6 ∨ j = 7 := by omega
  refine B.at (0 + j) ?_
  rcases e with e | e | e | e | e | e | e | e <;> subst e <;> exact hv
theorem nc_at {l : List KnV} {S : List Sp} {C : List Ch} {cur : List KP} (he : cur.map (·.2) = NC l S C C.length) (k : Nat) (hk : k < cur.length) (hk' : k < (NC l S C C.length).length) : (NC l S C C.length)[k] = cur[k].2 := by
  have h := congrArg (fun l => l[k]?) he
  simp only [List.getElem?_map, List.getElem?_eq_getElem hk, List.getElem?_eq_getElem hk', Option.map_some] at h
  exact (Option.some.inj h).symm
theorem tells_at {l : List KnV} {S : List Sp} {C : List Ch} (H : Cells l S) {cur : List KP} (he : cur.map (·.2) = NC l S C C.length) (k : Nat) (hk : k < cur.length) {x : NodeV} {bit : Bool} (hA : AtIs C l cur[k].2.1 x bit) : (k < l.length → bit = decide (cur[k].2.2.1 ≠ 0)) ∧ (bit = true → cur[k].2.2.1 ≠ 0 → x = cur[k].2.2.2.2.1) := by
  have hk' : k < (NC l S C C.length).length := by rw [← he]; simpa using hk
  have e := nc_at he k hk hk'
  have h := GI.tells H k hk' (x := x) (bit := bit) (by rw [e]; exact hA)
  rwa [e] at h
theorem cell_at {l : List KnV} {S : List Sp} {C : List Ch} (hI : ∀ y ∈ cellsL l S, I64 y.1) {cur : List KP} (he : cur.map (·.2) = NC l S C C.length) (k : Nat) (hk : k < cur.length) : I64 cur[k].2.1 := by
  have hk' : k < (NC l S C C.length).length := by rw [← he]; simpa using hk
  have e := nc_at he k hk hk'
  have hc : k < (cellsL l S).length := by simpa [NC] using hk'
  have h2 : (NC l S C C.length)[k].1 = (cellsL l S)[k].1 := by simp [NC, stY_cell]
  rw [← e, h2]
  exact hI _ (List.getElem_mem hc)
set_option maxRecDepth 100000 in
set_option maxHeartbeats 3200000 in
theorem goes_walk {w : World} {h hs he : Hd} {ps : List KP} {S : List Sp} {es : List EP} (H : HRow (rawC 11) w [] h (kpL ps)) (hk : ∀ p ∈ ps, KnOk w [] p.1 p.2) (HS : HRow spC w [] hs S) (HE : HRow (rawC 11) w [] he (eaL es)) (hke : ∀ p ∈ es, I64 p.2.1 ∧ I64 p.2.2.1 ∧ NodeOk w [] p.1 p.2.2.2.1) :
    Calls Try.prog 4 #[.slice h.a ps.length h.c, .slice hs.a S.length hs.c, .slice he.a es.length he.c] w fun r w' => r = .returned (.bool true) ∧ Below w.heap.size w w' := by
  go_enter Try.func4, Try.ntmps4
  go_wp2_with fail
  refine (light21_any H (fun p hp => (hk p hp).node) HE (fun p hp => (hke p hp).2.2)).mono ?_
  rintro r w1 ⟨rfl, hb1⟩
  cases hl : light21 ps S es
  · go_wp2_with fail
    refine (lives21_any _).mono ?_
    rintro r w99 ⟨rfl, hb99⟩
    go_wp2_with fail
    go_ret
    exact ⟨rfl, below_push2 hb1 hb99 (Nat.le_refl _)⟩
  have hL : Hid (lightE es = true ∧ light15 ps = true ∧ ps.length ≤ 40 ∧ S.length ≤ 40 ∧ es.length ≤ 60) := Lib.hid (by
    have h1 : lightE es = true ∧ light15 ps = true ∧ S.length ≤ 40 ∧ es.length ≤ 60 := by simpa [light21] using hl
    have h2 : ps.length ≤ 40 := by
      have := h1.2.1
      simp [light15] at this
      exact this.2
    exact ⟨h1.1, h1.2.1, h2, h1.2.2.1, h1.2.2.2⟩)
  clear hl
  have hps := hL.out.2.2.1
  have hSl := hL.out.2.2.2.1
  have hel := hL.out.2.2.2.2
  have hql := qsL_len ps S
  have hq80 : (qsL ps S).length ≤ 100 := by omega
  go_wp2_with fail
  have P0 : CG w w1 (qsL ps S) none 0 0 := ⟨hb1, OwnV.nil _ _ _ _ _, by simp, fun j _ h => absurd h (by omega)⟩
  go_loopg [7, 33] ps.length (fun gg v7 i wr => ∃ (k : Nat) (a : Option Addr) (c : Nat), k ≤ ps.length ∧ ps.length ≤ k + gg ∧ i = .int .i64 k ∧ v7 = .slice a k c ∧ CG w wr (qsL ps S) a c k ∧ Hid (∀ j (hj : j < ps.length), j < k → ps[j].2.2.1 ≠ 0))
  case atStart => exact ⟨0, none, 0, Nat.zero_le _, by omega, rfl, rfl, P0, Lib.hid fun j _ h => absurd h (by omega)⟩
  case round =>
    clear P0 hb1
    obtain ⟨k, a, c, hkl, hkg, rfl, rfl, P, hwz⟩ := hrel
    by_cases hlt : k < ps.length
    · have hlt' : (k : Int) < (ps.length : Int) := by omega
      obtain ⟨b, off, ha, hbl, hcs0⟩ := kp_at H k hlt
      have hcs := raw_keep hcs0 P.b hbl
      obtain ⟨ha', hc'⟩ := h
      simp only at ha
      subst ha
      have hkq : k < (qsL ps S).length := by omega
      have hqk := qsL_ps ps S k hlt
      have hbx : Below wr.heap.size wr (wr.alloc (.cells (knA ps[k].1 ps[k].2) 53)) := by (repeat (first | exact Below.refl _ _ | assumption | refine below_alloc2 ?_ (by first | exact Nat.le_refl _ | omega) _ | refine Below.drew ?_ | refine below_drewN ?_ _ | refine below_push2 ?_ ‹_› (by first | exact Nat.le_refl _ | omega) | refine Below.setCell ?_ (by first | (simp; done) | (simp; omega) | omega) _))
      have BX := Blk.new wr (knA ps[k].1 ps[k].2) 53
      have hB2 := below_push2 P.b hbx (Nat.le_refl _)
      have O2 := (P.own.below hbx).rep (wr' := wr.alloc (.cells (knA ps[k].1 ps[k].2) 53)) (S' := []) (fun _ _ h => h)
      go_upto_region 7 with (first
        | (refine wpList_load_mid rfl 53 _ rfl b (off + k * 11) rfl (knA ps[k].1 ps[k].2).toList _ hcs Try.underlying53 rfl (by kernel_rfl) ?_)
        | (refine wpList_store_row rfl 53 _ _ rfl _ _ rfl rfl 53 _ (Blk.new wr _ _).h (by kernel_rfl) (by rfl) (by kernel_rfl) ?_; rw [World.setRow_alloc_new]))
      obtain ⟨X, hX⟩ : ∃ x, x = wr.heap.size := ⟨_, rfl⟩
      rw [← hX] at BX ⊢
      replace hX := Lib.hid hX
      generalize wr.alloc (.cells (knA ps[k].1 ps[k].2) 53) = w2 at hbx BX hB2 O2 ⊢
      have x0 : w2.cell? ⟨X, 0, none⟩ = some (.int .i64 ps[k].2.1) := BX.at 0 rfl
      have x1 : w2.cell? ⟨X, 1, none⟩ = some (.int .u64 ps[k].2.2.1) := BX.at 1 rfl
      go_wp2_with fail
      refine (rcell_any _ ps[k].2.1).mono ?_
      rintro r w3 ⟨rfl, rfl⟩
      cases hcb : cellB ps[k].2.1
      · go_wp2_with fail
        refine (lives21_any _).mono ?_
        rintro r w99 ⟨rfl, hb99⟩
        go_wp2_with fail
        go_ret
        exact ⟨rfl, below_push2 hB2 hb99 (Nat.le_refl _)⟩
      · replace hcb := Lib.hid hcb
        by_cases hw0 : ps[k].2.2.1 = 0
        · rw [hw0] at x1
          go_wp2_with fail
          refine (lives21_any _).mono ?_
          rintro r w99 ⟨rfl, hb99⟩
          go_wp2_with fail
          go_ret
          exact ⟨rfl, below_push2 hB2 hb99 (Nat.le_refl _)⟩
        · have hwb : (ps[k].2.2.1 == 0) = false := by simpa using hw0
          replace hw0 := Lib.hid hw0
          go_wp2_with fail
          refine (find_next O2 (by omega) hq80 ps[k].2.1).mono ?_
          rintro r w4 ⟨i, rfl, hb4, hfi⟩
          have hB4 := below_push2 hB2 hb4 (Nat.le_refl _)
          rcases hfi with ⟨hneg, hno⟩ | hpos
          · have hneg' : ¬ (0 ≤ i) := by omega
            have BX4 := BX.below hb4
            have O4 := (O2.below hb4).rep (wr' := w4) (S' := []) (fun _ _ h => h)
            have hbL : Below w4.heap.size w4 (w4.alloc (.cells (knA ps[k].1 ps[k].2) 53)) := by (repeat (first | exact Below.refl _ _ | assumption | refine below_alloc2 ?_ (by first | exact Nat.le_refl _ | omega) _ | refine Below.drew ?_ | refine below_drewN ?_ _ | refine below_push2 ?_ ‹_› (by first | exact Nat.le_refl _ | omega) | refine Below.setCell ?_ (by first | (simp; done) | (simp; omega) | omega) _))
            have BL := Blk.new w4 (knA ps[k].1 ps[k].2) 53
            have O5 := (O4.below hbL).rep (wr' := w4.alloc (.cells (knA ps[k].1 ps[k].2) 53)) (S' := []) (fun _ _ h => h)
            have hB5 := below_push2 hB4 hbL (Nat.le_refl _)
            rw [← hqk] at BL O5 hB5
            obtain ⟨g, cap, w6, hr, O6, F6⟩ := add_next O5 hkq hq80 BL hB5.size
            rw [hqk] at hr F6
            have P6 : CG w w6 (qsL ps S) (some ⟨g, 0, none⟩) cap (k + 1) := ⟨F6.below (hqk ▸ hB5) (Nat.le_refl _) (fun q hq => (OwnV.lt P.own q hq).1), O6, nodup_snoc hkq P.nd (by rw [hqk]; exact hno), fun j hj hjk => by
              by_cases e : j = k
              · subst e; rw [hqk]; exact hcb.out
              · exact P.cell j hj (by omega)⟩
            have hwz' : Hid (∀ j (hj : j < ps.length), j < k + 1 → ps[j].2.2.1 ≠ 0) := Lib.hid fun j hj hjk => by
              by_cases e : j = k
              · subst e; exact hw0.out
              · exact hwz.out j hj (by omega)
            replace P6 := Lib.hid P6
            clear hneg hno O5 O6 F6 BL hbL hB5 x0 x1 hqk
            go_upto_region 10 with (first
              | (refine wpList_load_row rfl 53 _ rfl X rfl 53 _ (0, 0) _ BX4.h Try.underlying53 rfl (by kernel_rfl) ?_)
              | (at_builtin; refine wpList_append_run hr.out rfl (by rfl) (by rfl) (by rfl) ?_))
            go_wp2_with fail
            go_roundg (ps.length - (k + 1))
            case measure => omega
            case rel => exact ⟨k + 1, some ⟨g, 0, none⟩, cap, by omega, by omega, by go_num, by simp, P6.out, hwz'⟩
          · go_wp2_with fail
            refine (lives21_any _).mono ?_
            rintro r w99 ⟨rfl, hb99⟩
            go_wp2_with fail
            go_ret
            exact ⟨rfl, below_push2 hB4 hb99 (Nat.le_refl _)⟩
    · obtain rfl : k = ps.length := by omega
      go_wp2_with fail
      go_loopg [7, 62] S.length (fun gg v7 i wr => ∃ (k : Nat) (a : Option Addr) (c : Nat), k ≤ S.length ∧ S.length ≤ k + gg ∧ i = .int .i64 k ∧ v7 = .slice a (ps.length + k) c ∧ CG w wr (qsL ps S) a c (ps.length + k))
      case atStart => exact ⟨0, a, c, Nat.zero_le _, by omega, rfl, rfl, P⟩
      case round =>
        clear P a c
        obtain ⟨k, a, c, hkl, hkg, rfl, rfl, P⟩ := hrel
        by_cases hlt : k < S.length
        · have hlt' : (k : Int) < (S.length : Int) := by omega
          obtain ⟨b, off, ha, hbl, y0, y1, i0, i1⟩ := sp_at (HS.keep (Keeps.of_below P.b)) k hlt
          obtain ⟨ha', hc'⟩ := hs
          simp only at ha
          subst ha
          have hkq : ps.length + k < (qsL ps S).length := by omega
          have hqk : (qsL ps S)[ps.length + k] = (q00, (S[k].1, 0, S[k].2, n00, ())) := qsL_S ps S k hlt
          obtain ⟨s0, hs0⟩ : ∃ x, x = S[k].1 := ⟨_, rfl⟩
          obtain ⟨s1, hs1⟩ : ∃ x, x = S[k].2 := ⟨_, rfl⟩
          rw [← hs0] at y0 i0
          rw [← hs1] at y1 i1
          rw [← hs0, ← hs1] at hqk
          replace hs0 := Lib.hid hs0
          replace hs1 := Lib.hid hs1
          have hbx : Below wr.heap.size wr (wr.alloc (.cells #[.int .i64 s0, .int .u64 s1] 60)) := by (repeat (first | exact Below.refl _ _ | assumption | refine below_alloc2 ?_ (by first | exact Nat.le_refl _ | omega) _ | refine Below.drew ?_ | refine below_drewN ?_ _ | refine below_push2 ?_ ‹_› (by first | exact Nat.le_refl _ | omega) | refine Below.setCell ?_ (by first | (simp; done) | (simp; omega) | omega) _))
          have BX := Blk.new wr #[.int .i64 s0, .int .u64 s1] 60
          have hB2 := below_push2 P.b hbx (Nat.le_refl _)
          have O2 := (P.own.below hbx).rep (wr' := wr.alloc (.cells #[.int .i64 s0, .int .u64 s1] 60)) (S' := []) (fun _ _ h => h)
          go_upto_region 14 with (refine wpList_store_row rfl 60 _ _ rfl _ _ rfl rfl 60 _ (Blk.new wr _ _).h (by kernel_rfl) (by rfl) (by kernel_rfl) ?_; rw [World.setRow_alloc_new])
          obtain ⟨X, hX⟩ : ∃ x, x = wr.heap.size := ⟨_, rfl⟩
          rw [← hX] at BX ⊢
          replace hX := Lib.hid hX
          generalize wr.alloc (.cells #[.int .i64 s0, .int .u64 s1] 60) = w2 at hbx BX hB2 O2 ⊢
          have x0 := BX.at 0 rfl
          go_wp2_with fail
          refine (rcell_any _ s0).mono ?_
          rintro r w3 ⟨rfl, rfl⟩
          cases hcb : cellB s0
          · go_wp2_with fail
            refine (lives21_any _).mono ?_
            rintro r w99 ⟨rfl, hb99⟩
            go_wp2_with fail
            go_ret
            exact ⟨rfl, below_push2 hB2 hb99 (Nat.le_refl _)⟩
          · replace hcb := Lib.hid hcb
            go_wp2_with fail
            refine (find_next O2 (by omega) hq80 s0).mono ?_
            rintro r w4 ⟨i, rfl, hb4, hfi⟩
            have hB4 := below_push2 hB2 hb4 (Nat.le_refl _)
            rcases hfi with ⟨hneg, hno⟩ | hpos
            · have hneg' : ¬ (0 ≤ i) := by omega
              have BX4 := BX.below hb4
              have z0 := BX4.at 0 rfl
              have z1 := BX4.at 1 rfl
              have O4 := (O2.below hb4).rep (wr' := w4) (S' := []) (fun _ _ h => h)
              have hbL : Below w4.heap.size w4 (w4.alloc (.cells (kbS s0 s1) 53)) := by (repeat (first | exact Below.refl _ _ | assumption | refine below_alloc2 ?_ (by first | exact Nat.le_refl _ | omega) _ | refine Below.drew ?_ | refine below_drewN ?_ _ | refine below_push2 ?_ ‹_› (by first | exact Nat.le_refl _ | omega) | refine Below.setCell ?_ (by first | (simp; done) | (simp; omega) | omega) _))
              have BL : Blk (w4.alloc (.cells (kbS s0 s1) 53)) w4.heap.size (knA (qsL ps S)[ps.length + k].1 (qsL ps S)[ps.length + k].2) 53 := by rw [hqk]; exact Blk.new w4 (kbS s0 s1) 53
              have O5 := (O4.below hbL).rep (wr' := w4.alloc (.cells (kbS s0 s1) 53)) (S' := []) (fun _ _ h => h)
              have hB5 := below_push2 hB4 hbL (Nat.le_refl _)
              obtain ⟨g, cap, w6, hr, O6, F6⟩ := add_next O5 hkq hq80 BL hB5.size
              have P6 : CG w w6 (qsL ps S) (some ⟨g, 0, none⟩) cap (ps.length + k + 1) := ⟨F6.below hB5 (Nat.le_refl _) (fun q hq => (OwnV.lt P.own q hq).1), O6, nodup_snoc hkq P.nd (by rw [hqk]; exact hno), fun j hj hjk => by
                by_cases e : j = ps.length + k
                · subst e; rw [hqk]; exact hcb.out
                · exact P.cell j hj (by omega)⟩
              replace P6 := Lib.hid P6
              clear hneg hno O5 O6 F6 BL hbL hB5 x0 hqk
              go_upto_region 17 with (at_builtin; refine wpList_append_run hr.out rfl (by rfl) (by rfl) (by rfl) ?_)
              go_wp2_with fail
              go_roundg (S.length - (k + 1))
              case measure => omega
              case rel => exact ⟨k + 1, some ⟨g, 0, none⟩, cap, by omega, by omega, by go_num, by simp; omega, P6.out⟩
            · go_wp2_with fail
              refine (lives21_any _).mono ?_
              rintro r w99 ⟨rfl, hb99⟩
              go_wp2_with fail
              go_ret
              exact ⟨rfl, below_push2 hB4 hb99 (Nat.le_refl _)⟩
        · obtain rfl : k = S.length := by omega
          have hwzA : ∀ p ∈ ps, p.2.2.1 ≠ 0 := fun p hp => by
            obtain ⟨j, hj, rfl⟩ := List.getElem_of_mem hp
            exact hwz.out j hj hj
          clear hwz
          obtain ⟨wb, hwb⟩ : ∃ x : World, x = wr := ⟨wr, rfl⟩
          subst hwb
          have htk : (qsL ps S).take (ps.length + S.length) = qsL ps S := List.take_of_length_le (by omega)
          have G : Gath ps S := ⟨by have := P.nd; rwa [htk] at this, fun p hp => by
            obtain ⟨j, hj, rfl⟩ := List.getElem_of_mem hp
            exact P.cell j hj (by omega)⟩
          have HQ : HRow (rawC 11) wb [] ⟨a, c⟩ (kpL (qsL ps S)) := by
            have := P.own
            rw [htk] at this
            rw [← kpL_knL]
            exact OwnV.hrow this (by decide) (by simp)
          have hkr : ∀ p ∈ ps, KnOk wb [] p.1 p.2 := fun p hp => knok_keep (hk p hp) P.b
          obtain ⟨d1, d2, d3, d4⟩ := G.parts
          have hbw := P.b
          clear P htk hk
          go_wp2_with fail
          refine (views_any (H.keep (Keeps.of_below hbw)) (fun p hp => ⟨hkr p hp, d3 p hp⟩) d1 (by omega) (HS.keep (Keeps.of_below hbw)) d4 d2 (by omega)).mono ?_
          rintro r w2 ⟨o, m, a2, c2, kh, sh, n1, n2, rfl, V2, hb2⟩
          clear d1 d2 d3 d4
          have hbv : Below w2.heap.size w2 (w2.alloc (.cells (rvA kh sh n1 n2 0 0) 58)) := by (repeat (first | exact Below.refl _ _ | assumption | refine below_alloc2 ?_ (by first | exact Nat.le_refl _ | omega) _ | refine Below.drew ?_ | refine below_drewN ?_ _ | refine below_push2 ?_ ‹_› (by first | exact Nat.le_refl _ | omega) | refine Below.setCell ?_ (by first | (simp; done) | (simp; omega) | omega) _))
          have V3 := V2.under hbv
          have hb3 := below_push2 hb2 hbv (Nat.le_refl _)
          go_upto_region 20 with (refine wpList_store_row rfl 58 _ _ rfl _ _ rfl rfl 58 _ (Blk.new w2 _ _).h (by kernel_rfl) (by rfl) (by kernel_rfl) ?_; rw [World.setRow_alloc_new])
          generalize w2.alloc (.cells (rvA kh sh n1 n2 0 0) 58) = w3 at V3 hb3 ⊢
          clear V2 hbv hb2
          try simp only [Act.put]
          go_wp2_with fail
          refine (ebegin_any _ w3).mono ?_
          rintro r w4 ⟨rfl, rfl⟩
          have E3 : EdIs wb (w3.alloc (.cells (edA o none 0 0 none 0 0) 36)) w3.heap.size o (ps.map knK) S [] 0 := ⟨m, a2, c2, 0, 0, none, 0, none, 0, EdAt.start hb3 V3 (by omega) (sp_si HS)⟩
          obtain ⟨e, hee⟩ : ∃ e, e = w3.heap.size := ⟨_, rfl⟩
          rw [← hee] at E3 ⊢
          replace hee := Lib.hid hee
          generalize w3.alloc (.cells (edA o none 0 0 none 0 0) 36) = w4 at E3 ⊢
          have KI := kn_is hkr
          have HCl := G.cells hwzA
          clear V3 hb3 hwzA G
          go_wp2_with fail
          go_loopg [98] es.length (fun gg i wr => ∃ (k : Nat) (C : List Ch) (t : Nat), k ≤ es.length ∧ es.length ≤ k + gg ∧ i = .int .i64 k ∧ EdIs wb wr e o (ps.map knK) S C t ∧ GI (ps.map (·.2)) S C)
          case atStart => exact ⟨0, [], 0, Nat.zero_le _, by omega, rfl, E3, GI.nil _ _⟩
          case round =>
            clear E3
            obtain ⟨k, C, t, hkl, hkg, rfl, E, GC⟩ := hrel
            have hwr := below_push2 hbw E.b (Nat.le_refl _)
            by_cases hlt : k < es.length
            · have hlt' : (k : Int) < (es.length : Int) := by omega
              obtain ⟨b, off, ha, hbl, hcs0⟩ := ea_at HE k hlt
              have hcs := raw_keep hcs0 hwr hbl
              obtain ⟨ha', hc'⟩ := he
              simp only at ha
              subst ha
              obtain ⟨hi0, hi1, hnk⟩ := hke _ (List.getElem_mem hlt)
              have hsm := light_small (lightE_at hL.out.1 k hlt)
              have hnb := hnk.keep (Keeps.of_below hbw)
              have hbx : Below wr.heap.size wr (wr.alloc (.cells (eaA es[k]) 28)) := by (repeat (first | exact Below.refl _ _ | assumption | refine below_alloc2 ?_ (by first | exact Nat.le_refl _ | omega) _ | refine Below.drew ?_ | refine below_drewN ?_ _ | refine below_push2 ?_ ‹_› (by first | exact Nat.le_refl _ | omega) | refine Below.setCell ?_ (by first | (simp; done) | (simp; omega) | omega) _))
              have BX := Blk.new wr (eaA es[k]) 28
              have E2 := E.under hbx
              go_upto_region 23 with (first
                | (refine wpList_load_mid rfl 28 _ rfl b (off + k * 11) rfl (eaA es[k]).toList _ hcs Try.underlying28 rfl (by kernel_rfl) ?_)
                | (refine wpList_store_row rfl 28 _ _ rfl _ _ rfl rfl 28 _ (Blk.new wr _ _).h (by kernel_rfl) (by rfl) (by kernel_rfl) ?_; rw [World.setRow_alloc_new]))
              obtain ⟨X, hX⟩ : ∃ x, x = wr.heap.size := ⟨_, rfl⟩
              rw [← hX] at BX ⊢
              replace hX := Lib.hid hX
              generalize wr.alloc (.cells (eaA es[k]) 28) = w5 at hbx BX E2 ⊢
              change Blk _ _ (eactA es[k].2.1 es[k].2.2.1 es[k].1 es[k].2.2.2.1 es[k].2.2.2.2.1) _ at BX
              generalize es[k].2.1 = kd at BX hi0
              generalize es[k].2.2.1 = n at BX hi1
              generalize es[k].2.2.2.1 = x at BX hnk hnb hsm
              generalize es[k].2.2.2.2.1 = lin at BX
              generalize es[k].1 = q at BX hnk hnb
              have x0 := BX.at 0 rfl
              have x1 := BX.at 1 rfl
              have x10 := BX.at 10 rfl
              clear hnk hcs hcs0 hbl
              by_cases h0 : kd = 0
              · subst h0
                go_wp2_with (refine wpList_load_mid rfl 26 _ rfl X 2 rfl (nodeA q x).toList _ (eact_node BX) Try.underlying26 rfl (by kernel_rfl) ?_)
                refine (set_any E2 KI n hi1 q x hnb hsm lin).mono ?_
                rintro r w6 ⟨C', bit, rfl, E6, hst⟩
                have G6 := GC.set HCl hst
                go_wp2_with fail
                go_roundg (es.length - (k + 1))
                case measure => omega
                case rel => exact ⟨k + 1, C', t, by omega, by omega, by go_num, E6, G6⟩
              · by_cases h1 : kd = 1
                · subst h1
                  clear h0
                  go_wp2_with fail
                  refine (eat_any E2 KI n hi1).mono ?_
                  rintro r w6 ⟨qn, xn, bit, rfl, hN6, E6, F6, hAt⟩
                  have hXo : X ≠ o := by
                    have := hX.out
                    obtain ⟨_, _, _, _, _, _, _, _, _, Hx⟩ := E.ex
                    have := Hx.V.lts.1
                    omega
                  have BX6 := F6.blk BX (by simpa using hXo)
                  have hbn : Below w6.heap.size w6 (w6.alloc (.cells (nodeA qn xn) 26)) := by (repeat (first | exact Below.refl _ _ | assumption | refine below_alloc2 ?_ (by first | exact Nat.le_refl _ | omega) _ | refine Below.drew ?_ | refine below_drewN ?_ _ | refine below_push2 ?_ ‹_› (by first | exact Nat.le_refl _ | omega) | refine Below.setCell ?_ (by first | (simp; done) | (simp; omega) | omega) _))
                  have BN := Blk.new w6 (nodeA qn xn) 26
                  have E7 := E6.under hbn
                  have BX7 := BX6.below hbn
                  go_upto_region 28 with (refine wpList_store_row rfl 26 _ _ rfl _ _ rfl rfl 26 _ (Blk.new w6 _ _).h (by kernel_rfl) (by rfl) (by kernel_rfl) ?_; rw [World.setRow_alloc_new])
                  obtain ⟨Y, hY⟩ : ∃ y, y = w6.heap.size := ⟨_, rfl⟩
                  rw [← hY] at BN ⊢
                  replace hY := Lib.hid hY
                  generalize w6.alloc (.cells (nodeA qn xn) 26) = w7 at hbn BN E7 BX7 ⊢
                  have n5 : w7.cell? ⟨Y, 5, none⟩ = some (.slice qn.keys.a xn.keys.length qn.keys.c) := BN.at 5 rfl
                  have x1' := BX7.at 1 rfl
                  have hk0 : (0 : Int) ≤ (xn.keys.length : Int) := by omega
                  clear x0 x1 x10
                  cases bit
                  · go_wp2_with fail
                    go_roundg (es.length - (k + 1))
                    case measure => omega
                    case rel => exact ⟨k + 1, C, t, by omega, by omega, by go_num, E7, GC⟩
                  · go_wp2_with fail
                    refine (clear_any E7 KI n hi1).mono ?_
                    rintro r w8 ⟨C', bit, rfl, E8, hst⟩
                    have G8 := GC.clear HCl hAt hst
                    go_wp2_with fail
                    go_roundg (es.length - (k + 1))
                    case measure => omega
                    case rel => exact ⟨k + 1, C', t, by omega, by omega, by go_num, E8, G8⟩
                · by_cases h2 : kd = 2
                  · subst h2
                    clear h0 h1
                    go_wp2_with fail
                    refine (espare_any E2).mono ?_
                    rintro r w6 ⟨n', bit, rfl, E6⟩
                    go_wp2_with fail
                    go_roundg (es.length - (k + 1))
                    case measure => omega
                    case rel => exact ⟨k + 1, C, _, by omega, by omega, by go_num, E6, GC⟩
                  · have e0 : (kd == 0) = false := by simpa using h0
                    have e1 : (kd == 1) = false := by simpa using h1
                    have e2 : (kd == 2) = false := by simpa using h2
                    clear h0 h1 h2
                    go_wp2_with fail
                    go_roundg (es.length - (k + 1))
                    case measure => omega
                    case rel => exact ⟨k + 1, C, t, by omega, by omega, by go_num, E2, GC⟩
            · obtain rfl : k = es.length := by omega
              go_wp2_with fail
              refine (changes_any E).mono ?_
              rintro r w5 ⟨g, C', rfl, P5⟩
              have hoz : wb.heap.size ≤ o ∧ o < wr.heap.size := by
                obtain ⟨_, _, _, _, _, _, _, _, _, Hx⟩ := E.ex
                exact ⟨Hx.V.lo.1, Hx.V.lts.1⟩
              have hc46 : C.length ≤ 46 := by
                obtain ⟨_, _, _, _, _, _, _, _, _, Hx⟩ := E.ex
                exact Hx.cl
              have hlenC : C'.length = C.length := by simpa using congrArg List.length P5.eq
              have hb5 := below_push2 E.b P5.b (Nat.le_refl _)
              have hz5 := P5.b.size
              have hmore : ∀ b ∈ [o], b ∈ ([] : List Nat) ∨ wb.heap.size ≤ b := fun b hb => by simp at hb; subst hb; exact .inr hoz.1
              have HA := apply_any (w := w5) (T := [o]) (h := ⟨a, c⟩) (hc := ⟨some ⟨g, 0, none⟩, C.length⟩) (ps := qsL ps S) (C := C') ((HQ.more hmore).keep (Keeps.of_below hb5)) (fun p hp => by
                rcases List.mem_append.1 hp with h | h
                · exact (node_more (hkr p h).node hmore).keep (Keeps.of_below hb5)
                · obtain ⟨s, _, rfl⟩ := List.mem_map.1 h
                  exact n00_ok _ _) (fun b hb => by simp at hb; omega) (P5.row.hrow C.length (by simp; omega) (by simp [maxLen]; omega) [] (by simp)) (fun p hp => (P5.ok p hp).more (by simp)) hq80 (by omega) (NC (ps.map (·.2)) S C') (by rw [qsL_snd]; exact List.map_id'' (fun _ => rfl) _) (fun k hk => GI.fits HCl (GC.congr P5.eq) k hk)
              rw [qsL_len, hlenC] at HA
              go_wp2_with fail
              refine HA.mono ?_
              rintro r w6 ⟨g2, cur, rfl, hcur, A6⟩
              have E6 := E.under (below_push2 P5.b A6.b (Nat.le_refl _))
              have hR6 := A6.row
              have hN6 : ∀ p ∈ cur, NodeOk w6 [o] p.1 p.2.2.2.2.1 := fun p hp => node_more (A6.ok p hp) (fun b hb => .inl (List.mem_cons_of_mem _ hb))
              have hEq6 := A6.eq
              rw [NC_congr P5.eq] at hEq6
              have hgo : g2 ≠ o := by have := A6.ge; omega
              have hI : ∀ y ∈ cellsL (ps.map (·.2)) S, I64 y.1 := fun y hy => by
                rcases List.mem_append.1 hy with h | h
                · obtain ⟨p, hp, rfl⟩ := List.mem_map.1 h
                  exact (hkr p hp).cell
                · obtain ⟨s, hs, rfl⟩ := List.mem_map.1 h
                  exact (sp_si HS s hs).1
              replace hI := Lib.hid hI
              clear HA A6 P5 hb5 hmore E HQ hkr
              go_wp2_with fail
              go_loopg [157] (ps.length + S.length) (fun gg i wr => ∃ (k : Nat), k ≤ ps.length + S.length ∧ ps.length + S.length ≤ k + gg ∧ i = .int .i64 k ∧ EdIs wb wr e o (ps.map knK) S C t ∧ RB 11 wr g2 53 (kpL cur) ∧ Hid (∀ p ∈ cur, NodeOk wr [o] p.1 p.2.2.2.2.1))
              case atStart => exact ⟨0, Nat.zero_le _, by omega, rfl, E6, hR6, Lib.hid hN6⟩
              case round =>
                clear E6 hR6 hN6
                obtain ⟨k, hkl, hkg, rfl, E, R, hN⟩ := hrel
                have hwr := below_push2 hbw E.b (Nat.le_refl _)
                by_cases hlt : k < ps.length + S.length
                · have hlt' : (k : Int) < ((ps.length + S.length : Nat) : Int) := by omega
                  have hlt'' : (k : Int) < (ps.length : Int) + (S.length : Int) := by omega
                  have hkc : k < cur.length := by rw [hcur]; exact hlt
                  have hcs := rb_known R k hkc
                  have hI0 := cell_at hI.out hEq6 k hkc
                  have hTl : Hid (∀ (x : NodeV) (bit : Bool), AtIs C (ps.map (·.2)) cur[k].2.1 x bit → (k < ps.length → bit = decide (cur[k].2.2.1 ≠ 0)) ∧ (bit = true → cur[k].2.2.1 ≠ 0 → x = cur[k].2.2.2.2.1)) := Lib.hid fun x bit hA => by
                    have := tells_at HCl hEq6 k hkc hA
                    simpa using this
                  have hnk := hN.out _ (List.getElem_mem hkc)
                  have hbx : Below wr.heap.size wr (wr.alloc (.cells (knA cur[k].1 cur[k].2) 53)) := by (repeat (first | exact Below.refl _ _ | assumption | refine below_alloc2 ?_ (by first | exact Nat.le_refl _ | omega) _ | refine Below.drew ?_ | refine below_drewN ?_ _ | refine below_push2 ?_ ‹_› (by first | exact Nat.le_refl _ | omega) | refine Below.setCell ?_ (by first | (simp; done) | (simp; omega) | omega) _))
                  have BX := Blk.new wr (knA cur[k].1 cur[k].2) 53
                  have E2 := E.under hbx
                  have R2 := R.below hbx
                  go_upto_region 39 with (first
                    | (refine wpList_load_mid rfl 53 _ rfl g2 (k * 11) rfl (knA cur[k].1 cur[k].2).toList _ hcs Try.underlying53 rfl (by kernel_rfl) ?_)
                    | (refine wpList_store_row rfl 53 _ _ rfl _ _ rfl rfl 53 _ (Blk.new wr _ _).h (by kernel_rfl) (by rfl) (by kernel_rfl) ?_; rw [World.setRow_alloc_new]))
                  obtain ⟨X, hX⟩ : ∃ x, x = wr.heap.size := ⟨_, rfl⟩
                  rw [← hX] at BX ⊢
                  replace hX := Lib.hid hX
                  generalize wr.alloc (.cells (knA cur[k].1 cur[k].2) 53) = w5 at hbx BX E2 R2 ⊢
                  generalize cur[k].1 = q at BX hnk
                  generalize cur[k].2 = y at BX hnk hI0 hTl
                  have x0 : w5.cell? ⟨X, 0, none⟩ = some (.int .i64 y.1) := BX.at 0 rfl
                  clear hcs
                  go_wp2_with fail
                  refine (eat_any E2 KI y.1 hI0).mono ?_
                  rintro r w6 ⟨qn, xn, bit, rfl, hN6, E6, F6, hAt⟩
                  have hT := Lib.hid (hTl.out _ _ hAt)
                  have hXo : X ≠ o := by
                    have := hX.out
                    obtain ⟨_, _, _, _, _, _, _, _, _, Hx⟩ := E.ex
                    have := Hx.V.lts.1
                    omega
                  have BX6 := F6.blk BX (by simpa using hXo)
                  have R6 := R2.fr F6 (by simpa using hgo)
                  have hnk6 := (hnk.keep (Keeps.of_below hbx)).keep F6.keeps
                  have hK6 := F6.keeps
                  have hbn : Below w6.heap.size w6 (w6.alloc (.cells (nodeA qn xn) 26)) := by (repeat (first | exact Below.refl _ _ | assumption | refine below_alloc2 ?_ (by first | exact Nat.le_refl _ | omega) _ | refine Below.drew ?_ | refine below_drewN ?_ _ | refine below_push2 ?_ ‹_› (by first | exact Nat.le_refl _ | omega) | refine Below.setCell ?_ (by first | (simp; done) | (simp; omega) | omega) _))
                  have BN := Blk.new w6 (nodeA qn xn) 26
                  have E7 := E6.under hbn
                  have BX7 := BX6.below hbn
                  have R7 := R6.below hbn
                  have hN7 : Hid (∀ p ∈ cur, NodeOk (w6.alloc (.cells (nodeA qn xn) 26)) [o] p.1 p.2.2.2.2.1) := Lib.hid fun p hp => (((hN.out p hp).keep (Keeps.of_below hbx)).keep hK6).keep (Keeps.of_below hbn)
                  have hnk7 := hnk6.keep (Keeps.of_below hbn)
                  have hnn7 := hN6.keep (Keeps.of_below hbn)
                  clear hAt hTl F6 hK6 hnk hnk6 hN6 R6 R2 E2 E6 BX BX6 x0 hbx hI0
                  go_upto_region 40 with (refine wpList_store_row rfl 26 _ _ rfl _ _ rfl rfl 26 _ (Blk.new w6 _ _).h (by kernel_rfl) (by rfl) (by kernel_rfl) ?_; rw [World.setRow_alloc_new])
                  obtain ⟨Y, hY⟩ : ∃ y, y = w6.heap.size := ⟨_, rfl⟩
                  rw [← hY] at BN ⊢
                  replace hY := Lib.hid hY
                  generalize w6.alloc (.cells (nodeA qn xn) 26) = w7 at hbn BN E7 BX7 R7 hN7 hnk7 hnn7 ⊢
                  clear hbn
                  have x1 : w7.cell? ⟨X, 1, none⟩ = some (.int .u64 y.2.1) := BX7.at 1 rfl
                  have hnn : w7.rangeAt X 3 (nodeA q y.2.2.2.1).toList := kn_node BX7
                  obtain ⟨hT1, hT2⟩ := hT.out
                  clear hT
                  by_cases hw0 : y.2.1 = 0
                  · rw [hw0] at x1
                    simp only [hw0, ne_eq, not_true_eq_false, decide_false] at hT1
                    cases bit
                    · clear hT1 hT2
                      by_cases hkp : k < ps.length
                      · have hkp' : (k : Int) < (ps.length : Int) := by omega
                        go_wp2_with fail
                        go_roundg (ps.length + S.length - (k + 1))
                        case measure => omega
                        case rel => exact ⟨k + 1, by omega, by omega, by go_num, E7, R7, hN7⟩
                      · have hkp' : ¬ (k : Int) < (ps.length : Int) := by omega
                        go_wp2_with fail
                        go_roundg (ps.length + S.length - (k + 1))
                        case measure => omega
                        case rel => exact ⟨k + 1, by omega, by omega, by go_num, E7, R7, hN7⟩
                    · have hkp : ¬ (k : Int) < (ps.length : Int) := fun h => by
                        have := hT1 (by omega)
                        cases this
                      clear hT1 hT2
                      go_wp2_with fail
                      go_roundg (ps.length + S.length - (k + 1))
                      case measure => omega
                      case rel => exact ⟨k + 1, by omega, by omega, by go_num, E7, R7, hN7⟩
                  · have hwb : (y.2.1 == 0) = false := by simpa using hw0
                    have hwn : (y.2.1 != 0) = true := by simpa using hw0
                    have hwd : decide (y.2.1 = 0) = false := by simpa using hw0
                    have hwx : (true != !decide (y.2.1 = 0)) = false := by simp [hw0]
                    cases bit
                    · have hkp : ¬ (k : Int) < (ps.length : Int) := fun h => by
                        have := hT1 (by omega)
                        simp [hw0] at this
                      clear hT1 hT2 hw0
                      go_wp2_with fail
                      go_roundg (ps.length + S.length - (k + 1))
                      case measure => omega
                      case rel => exact ⟨k + 1, by omega, by omega, by go_num, E7, R7, hN7⟩
                    · have hxn := hT2 rfl hw0
                      subst hxn
                      clear hT1 hT2 hw0
                      have HS10 := same10_any [] [o] qn q y.2.2.2.1 y.2.2.2.1 w7 hnn7 hnk7
                      rw [decide_eq_true (rfl : y.2.2.2.1 = y.2.2.2.1)] at HS10
                      have hny := node_at BN
                      by_cases hkp : k < ps.length
                      · have hkp' : (k : Int) < (ps.length : Int) := by omega
                        go_wp2_with (first
                          | (refine wpList_load_midw (by rfl) 26 _ rfl Y 0 rfl (nodeA qn y.2.2.2.1).toList _ hny Try.underlying26 rfl (by kernel_rfl) ?_)
                          | (refine wpList_load_midw (by rfl) 26 _ rfl X 3 rfl (nodeA q y.2.2.2.1).toList _ hnn Try.underlying26 rfl (by kernel_rfl) ?_))
                        refine HS10.mono ?_
                        rintro r w8 ⟨rfl, hb8⟩
                        have E8 := E7.under hb8
                        have R8 := R7.below hb8
                        have hN8 : Hid (∀ p ∈ cur, NodeOk w8 [o] p.1 p.2.2.2.2.1) := Lib.hid fun p hp => (hN7.out p hp).keep (Keeps.of_below hb8)
                        go_wp2_with fail
                        go_roundg (ps.length + S.length - (k + 1))
                        case measure => omega
                        case rel => exact ⟨k + 1, by omega, by omega, by go_num, E8, R8, hN8⟩
                      · have hkp' : ¬ (k : Int) < (ps.length : Int) := by omega
                        go_wp2_with (first
                          | (refine wpList_load_midw (by rfl) 26 _ rfl Y 0 rfl (nodeA qn y.2.2.2.1).toList _ hny Try.underlying26 rfl (by kernel_rfl) ?_)
                          | (refine wpList_load_midw (by rfl) 26 _ rfl X 3 rfl (nodeA q y.2.2.2.1).toList _ hnn Try.underlying26 rfl (by kernel_rfl) ?_))
                        refine HS10.mono ?_
                        rintro r w8 ⟨rfl, hb8⟩
                        have E8 := E7.under hb8
                        have R8 := R7.below hb8
                        have hN8 : Hid (∀ p ∈ cur, NodeOk w8 [o] p.1 p.2.2.2.2.1) := Lib.hid fun p hp => (hN7.out p hp).keep (Keeps.of_below hb8)
                        go_wp2_with fail
                        go_roundg (ps.length + S.length - (k + 1))
                        case measure => omega
                        case rel => exact ⟨k + 1, by omega, by omega, by go_num, E8, R8, hN8⟩
                · obtain rfl : k = ps.length + S.length := by omega
                  go_wp2_with fail
                  refine (lives21_any _).mono ?_
                  rintro r w99 ⟨rfl, hb99⟩
                  go_wp2_with fail
                  go_ret
                  exact ⟨rfl, below_push2 hwr hb99 (Nat.le_refl _)⟩
end Go.Proofs.Ytbemgfpnoeogdaa.EdP
