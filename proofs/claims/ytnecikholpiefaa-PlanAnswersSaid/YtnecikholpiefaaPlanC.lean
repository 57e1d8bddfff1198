/-
  Whether a draft may be filled: contracts.
-/
import Derived.Test.YtnecikholpiefaaPlanB
import Derived.Test.YtnecikholpiefaaRefState
namespace Go.Proofs.Ytnecikholpiefaa.Dp
open Go.RowKit RefP
set_option linter.unusedVariables false
set_option linter.unusedSimpArgs false
theorem froms_yes {l : List ChangeV} (h : ∀ i (hi : i < l.length), -1 ≤ l[i].from_ ∧ l[i].from_ < (i : Int)) : fromsB l = true := by
  unfold fromsB
  rw [List.all_eq_true]
  intro i hi
  have hi' : i < l.length := by simpa using hi
  have e : (l.map (·.from_)).getD i 0 = l[i].from_ := by simp [List.getD_eq_getElem?_getD, hi']
  rw [e]
  exact decide_eq_true (h i hi')
theorem froms_no {l : List ChangeV} {i : Nat} (hi : i < l.length) (h : ¬ (-1 ≤ l[i].from_ ∧ l[i].from_ < (i : Int))) : fromsB l = false := by
  rw [Bool.eq_false_iff]
  intro e
  unfold fromsB at e
  rw [List.all_eq_true] at e
  have := e i (by simpa using hi)
  have e2 : (l.map (·.from_)).getD i 0 = l[i].from_ := by simp [List.getD_eq_getElem?_getD, hi]
  rw [e2] at this
  exact h (of_decide_eq_true this)
theorem opens_no {l : List Int} {i : Nat} (hi : i < l.length) (h : opensB l[i] = false) : l.all opensB = false := by
  rw [Bool.eq_false_iff]
  intro e
  rw [List.all_eq_true] at e
  have := e _ (List.getElem_mem hi)
  rw [h] at this; cases this
set_option maxRecDepth 100000 in
set_option maxHeartbeats 3200000 in
theorem pmay_any (S : List Nat) (q : AskH) (x : AskV) (w : World) (H : AskOk w S q x) (l1 : x.c.length ≤ 60) (l2 : x.a.pairs.length ≤ 300) (l3 : x.words.length ≤ 300) : Calls Try.prog 21 #[.agg (draftA q x), .slice q.words.a x.words.length q.words.c, .int .i64 x.fan] w fun e w' => e = .returned (.bool (mayK x)) ∧ Below w.heap.size w w' := by
  have hb0 : Below w.heap.size w (w.alloc (.cells (draftA q x) 36)) := by (repeat (first | exact Below.refl _ _ | assumption | refine below_alloc2 ?_ (by first | exact Nat.le_refl _ | omega) _ | refine Below.drew ?_ | refine below_drewN ?_ _ | refine below_push2 ?_ ‹_› (by first | exact Nat.le_refl _ | omega) | refine Below.setCell ?_ (by first | (simp; done) | (simp; omega) | omega) _))
  have BA := Blk.new w (draftA q x) 36
  obtain ⟨AB, hAB⟩ : ∃ b, b = w.heap.size := ⟨_, rfl⟩
  go_enter Try.func21, Try.ntmps21
  go_upto_region 1 with (fail)
  rw [← hAB] at BA ⊢
  replace hAB := Lib.hid hAB
  generalize w.alloc (.cells (draftA q x) 36) = w0 at hb0 BA ⊢
  have a0 := BA.at 0 rfl
  have a1 := BA.at 1 rfl
  have a2 := BA.at 2 rfl
  have a3 := BA.at 3 rfl
  have a4 := BA.at 4 rfl
  go_wp2_with fail
  refine (show Calls _ _ _ _ _ from cost_any S q x x.fan _ (H.keep (Keeps.of_below hb0)) l1 l2 H.fan).mono ?_
  rintro e w1 ⟨rfl, hb1⟩
  replace hb0 := below_push2 hb0 hb1 (Nat.le_refl _)
  replace BA := BA.below hb1
  clear a0 a1 a2 a3 a4 hb1
  have hcost : (fanB x.fan = true ∧ x.words.length = costK x x.fan.toNat → (costI x x.fan == 0) = false ∧ (costI x x.fan != (x.words.length : Int)) = false) ∧ (¬ (fanB x.fan = true ∧ x.words.length = costK x x.fan.toNat) → mayK x = false ∧ ((costI x x.fan == 0) = true ∨ (costI x x.fan == 0) = false ∧ (costI x x.fan != (x.words.length : Int)) = true)) := by
    unfold costI
    constructor
    · rintro ⟨h1, h2⟩
      rw [if_pos h1, ← h2]
      have : 0 < x.words.length := by rw [h2]; unfold costK; omega
      constructor
      · simp; intro e; rw [e] at this; simp at this
      · simp
    · intro h
      cases h1 : fanB x.fan
      · exact ⟨by simp [mayK, h1], .inl (by simp)⟩
      · rw [if_pos rfl]
        have h2 : ¬ x.words.length = costK x x.fan.toNat := fun e => h ⟨h1, e⟩
        refine ⟨by simp [mayK, h2], .inr ⟨?_, ?_⟩⟩
        · simp; unfold costK; omega
        · simp; omega
  obtain ⟨hc1, hc2⟩ := hcost
  generalize costI x x.fan = n at hc1 hc2 ⊢
  by_cases hg : fanB x.fan = true ∧ x.words.length = costK x x.fan.toNat
  · obtain ⟨q1, q2⟩ := hc1 hg
    obtain ⟨hg1, hg2⟩ := hg
    have hM : mayK x = (x.words.all opensB && fromsB x.c) := by simp [mayK, hg1, hg2]
    replace hM := Lib.hid hM
    clear hc1 hc2 hg1 hg2
    go_wp2_with fail
    go_loopw [28] (fun i wr => ∃ k : Nat, k ≤ x.words.length ∧ i = .int .i64 k ∧ Below w.heap.size w wr ∧ Blk wr AB (draftA q x) 36 ∧ (x.words.take k).all opensB = true) (fun i _ => x.words.length - (intOf i).toNat)
    case atStart => exact ⟨0, Nat.zero_le _, rfl, hb0, BA, by simp⟩
    case round =>
      clear hb0 BA
      obtain ⟨k, hk, rfl, hb, BA, hall⟩ := hrel
      by_cases hlt : k < x.words.length
      · have hlt' : (k : Int) < (x.words.length : Int) := by omega
        obtain ⟨b, off, ha, hbl, hc, hu⟩ := word_cell (H.words.keep (Keeps.of_below hb)) k hlt
        rw [ha]
        have hall2 : opensB x.words[k] = true → (x.words.take (k + 1)).all opensB = true := fun e => by
          rw [List.take_succ_eq_append_getElem hlt, List.all_append, hall]; simp [e]
        have hno : opensB x.words[k] = false → mayK x = false := fun e => by
          simp [mayK, opens_no hlt e]
        generalize x.words[k] = y at hc hu hall2 hno
        obtain ⟨u0, u1⟩ := hu
        cases ho : opensB y
        · have hE := Lib.hid (hno ho)
          replace ho := Lib.hid ho
          clear hall2 hno
          go_wp2_with fail
          refine (open_any y _ u0 u1).mono ?_
          rw [ho.out]
          rintro e w2 ⟨rfl, hb2⟩
          replace hb := below_push2 hb hb2 (Nat.le_refl _)
          clear hc BA hb2 ho
          go_wp2_with fail
          go_ret
          exact ⟨by rw [hE.out]; rfl, hb⟩
        · have hE := Lib.hid (hall2 ho)
          replace ho := Lib.hid ho
          clear hall2 hno
          go_wp2_with fail
          refine (open_any y _ u0 u1).mono ?_
          rw [ho.out]
          rintro e w2 ⟨rfl, hb2⟩
          replace hb := below_push2 hb hb2 (Nat.le_refl _)
          replace BA := BA.below hb2
          clear hc hb2 ho
          go_wp2_with fail
          go_roundw
          case rel => exact ⟨k + 1, by omega, by go_num, hb, BA, hE.out⟩
          case measure => simp [intOf]; omega
      obtain rfl : k = x.words.length := by omega
      rw [List.take_length] at hall
      have hM2 : Hid (mayK x = fromsB x.c) := Lib.hid (by rw [hM.out, hall]; rfl)
      have a4 := BA.at 4 rfl
      clear hall hM q1 q2
      go_wp2_with fail
      clear a4
      go_loopw [44] (fun i wr => ∃ k : Nat, k ≤ x.c.length ∧ i = .int .i64 k ∧ Below w.heap.size w wr ∧ Hid (∀ i (hi : i < x.c.length), i < k → -1 ≤ x.c[i].from_ ∧ x.c[i].from_ < (i : Int))) (fun i _ => x.c.length - (intOf i).toNat)
      case atStart => exact ⟨0, Nat.zero_le _, rfl, hb, Lib.hid fun i _ h => absurd h (by omega)⟩
      case round =>
        clear hb BA
        obtain ⟨k, hk, rfl, hb, hall⟩ := hrel
        by_cases hlt : k < x.c.length
        · have hlt' : (k : Int) < (x.c.length : Int) := by omega
          obtain ⟨b, off, qn, ha, hbl, hcs, hok⟩ := change_cell (H.c.keep (Keeps.of_below hb)) k hlt
          rw [ha]
          have hall2 : -1 ≤ x.c[k].from_ ∧ x.c[k].from_ < (k : Int) → ∀ i (hi : i < x.c.length), i < k + 1 → -1 ≤ x.c[i].from_ ∧ x.c[i].from_ < (i : Int) := fun h i hi hik => by
            by_cases e : i = k
            · subst e; exact h
            · exact hall.out i hi (by omega)
          have hno : ¬ (-1 ≤ x.c[k].from_ ∧ x.c[k].from_ < (k : Int)) → mayK x = false := fun h => by rw [hM2.out]; exact froms_no hlt h
          have hfr := hok.from_
          generalize x.c[k] = c at hcs hok hall2 hno hfr
          have hbx : Below wr.heap.size wr (wr.alloc (.cells (changeA qn c) 60)) := (Below.refl _ wr).alloc (Nat.le_refl _) _
          obtain ⟨fr, hfr1⟩ : ∃ fr, fr = c.from_ := ⟨_, rfl⟩
          have x1 : (wr.alloc (.cells (changeA qn c) 60)).cell? ⟨wr.heap.size, 1, none⟩ = some (.int .i64 fr) := by rw [hfr1]; exact (Blk.new wr (changeA qn c) 60).at 1 rfl
          rw [← hfr1] at hall2 hno hfr
          replace hfr1 := Lib.hid hfr1
          replace hb := below_push2 hb hbx (Nat.le_refl _)
          generalize hW : wr.alloc (.cells (changeA qn c) 60) = w5 at hb x1
          replace hW := Lib.hid hW
          clear hok hbx hfr
          by_cases g1 : fr < -1
          · have hE := Lib.hid (hno (by omega))
            have q1 : decide (fr < -1) = true := by simpa using g1
            clear hall2 hno g1
            go_wp2_with (first
              | (refine wpList_load_mid rfl 60 _ rfl b (off + k * 14) rfl (changeA qn c).toList _ hcs Try.underlying60 rfl (by kernel_rfl) ?_)
              | (refine wpList_store_row rfl 60 _ _ rfl _ _ rfl rfl 60 _ (Blk.new wr _ _).h (by kernel_rfl) (by rfl) (by kernel_rfl) ?_; rw [World.setRow_alloc_new, hW.out]))
            go_ret
            exact ⟨by rw [hE.out]; rfl, hb⟩
          · have q1 : decide (fr < -1) = false := by simpa using g1
            by_cases g2 : (k : Int) ≤ fr
            · have hE := Lib.hid (hno (by omega))
              have q2 : decide ((k : Int) ≤ fr) = true := by simpa using g2
              clear hall2 hno g1 g2
              go_wp2_with (first
                | (refine wpList_load_mid rfl 60 _ rfl b (off + k * 14) rfl (changeA qn c).toList _ hcs Try.underlying60 rfl (by kernel_rfl) ?_)
                | (refine wpList_store_row rfl 60 _ _ rfl _ _ rfl rfl 60 _ (Blk.new wr _ _).h (by kernel_rfl) (by rfl) (by kernel_rfl) ?_; rw [World.setRow_alloc_new, hW.out]))
              go_ret
              exact ⟨by rw [hE.out]; rfl, hb⟩
            · have q2 : decide ((k : Int) ≤ fr) = false := by simpa using g2
              have hA := Lib.hid (hall2 (by omega))
              clear hall2 hno g1 g2
              go_wp2_with (first
                | (refine wpList_load_mid rfl 60 _ rfl b (off + k * 14) rfl (changeA qn c).toList _ hcs Try.underlying60 rfl (by kernel_rfl) ?_)
                | (refine wpList_store_row rfl 60 _ _ rfl _ _ rfl rfl 60 _ (Blk.new wr _ _).h (by kernel_rfl) (by rfl) (by kernel_rfl) ?_; rw [World.setRow_alloc_new, hW.out]))
              go_roundw
              case rel => exact ⟨k + 1, by omega, by go_num, hb, hA⟩
              case measure => simp [intOf]; omega
        · obtain rfl : k = x.c.length := by omega
          have hE : Hid (mayK x = true) := Lib.hid (by rw [hM2.out]; exact froms_yes fun i hi => hall.out i hi hi)
          go_wp2_with fail
          go_ret
          exact ⟨by rw [hE.out]; rfl, hb⟩
  · obtain ⟨hE, hor⟩ := hc2 hg
    replace hE := Lib.hid hE
    clear hc1 hc2 hg
    rcases hor with q1 | ⟨q1, q2⟩
    · go_wp2_with fail
      go_ret
      exact ⟨by rw [hE.out]; rfl, hb0⟩
    · go_wp2_with fail
      go_ret
      exact ⟨by rw [hE.out]; rfl, hb0⟩
end Go.Proofs.Ytnecikholpiefaa.Dp
