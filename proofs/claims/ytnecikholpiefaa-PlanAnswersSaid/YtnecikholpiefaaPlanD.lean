/-
  Whether a draft may be filled, by the document: contract.
-/
import Derived.Test.YtnecikholpiefaaPlanC
namespace Go.Proofs.Ytnecikholpiefaa.Dp
open Go.RowKit RefP
set_option linter.unusedVariables false
set_option linter.unusedSimpArgs false
set_option maxRecDepth 100000 in
set_option maxHeartbeats 3200000 in
theorem rmay_any (S : List Nat) (q : AskH) (x : AskV) (w : World) (H : AskOk w S q x) (l1 : x.c.length ≤ 60) (l2 : x.a.pairs.length ≤ 300) (l3 : x.words.length ≤ 300) : Calls Try.prog 8 #[.agg (ansA q.pairs x.a), .slice q.c.a x.c.length q.c.c, .slice q.words.a x.words.length q.words.c, .int .i64 x.fan] w fun e w' => e = .returned (.bool (mayK x)) ∧ Below w.heap.size w w' := by
  have hb0 : Below w.heap.size w (w.alloc (.cells (ansA q.pairs x.a) 25)) := by (repeat (first | exact Below.refl _ _ | assumption | refine below_alloc2 ?_ (by first | exact Nat.le_refl _ | omega) _ | refine Below.drew ?_ | refine below_drewN ?_ _ | refine below_push2 ?_ ‹_› (by first | exact Nat.le_refl _ | omega) | refine Below.setCell ?_ (by first | (simp; done) | (simp; omega) | omega) _))
  have BA := Blk.new w (ansA q.pairs x.a) 25
  obtain ⟨AB, hAB⟩ : ∃ b, b = w.heap.size := ⟨_, rfl⟩
  by_cases f0 : x.fan < 4
  · have hE : Hid (mayK x = false) := Lib.hid (by
      have : fanB x.fan = false := by simp [fanB]; omega
      simp [mayK, this])
    go_enter Try.func8, Try.ntmps8
    go_wp2_with fail
    go_ret
    exact ⟨by rw [hE.out]; rfl, hb0⟩
  by_cases f1 : 64 < x.fan
  · have hE : Hid (mayK x = false) := Lib.hid (by
      have : fanB x.fan = false := by simp [fanB]; omega
      simp [mayK, this])
    have f0' : 4 ≤ x.fan := by omega
    go_enter Try.func8, Try.ntmps8
    go_wp2_with fail
    go_ret
    exact ⟨by rw [hE.out]; rfl, hb0⟩
  have hfan : fanB x.fan = true := by simp [fanB]; omega
  obtain ⟨f, hf⟩ : ∃ f : Nat, x.fan = (f : Int) := ⟨x.fan.toNat, by omega⟩
  have hck : costK x x.fan.toNat = 1 + chunkN f x.a.pairs.length + fullN x.c := by rw [hf, Int.toNat_natCast]; rfl
  have hM0 : ¬ x.words.length = 1 + chunkN f x.a.pairs.length + fullN x.c → mayK x = false := fun h => by
    rw [← hck] at h; simp [mayK, h]
  have hM1 : x.words.length = 1 + chunkN f x.a.pairs.length + fullN x.c → mayK x = (x.words.all opensB && fromsB x.c) := fun h => by
    rw [← hck] at h; simp [mayK, hfan, h]
  have f0' : 4 ≤ f := by omega
  have f1' : f ≤ 64 := by omega
  have f2' : (4 : Int) ≤ (f : Int) := by omega
  have f3' : (f : Int) ≤ 64 := by omega
  rw [hf]
  clear hfan hck f0 f1 hf
  go_enter Try.func8, Try.ntmps8
  go_upto_region 1 with (fail)
  rw [← hAB] at BA ⊢
  replace hAB := Lib.hid hAB
  generalize w.alloc (.cells (ansA q.pairs x.a) 25) = w0 at hb0 BA ⊢
  have a0 := BA.at 0 rfl
  have a1 := BA.at 1 rfl
  have a2 := BA.at 2 rfl
  have a3 := BA.at 3 rfl
  go_wp2_with fail
  refine (show Calls _ _ _ _ _ from rcost_any S q.pairs q.c x.a x.c f _ (H.a.keep (Keeps.of_below hb0)) (H.c.keep (Keeps.of_below hb0)) l1 l2 f0' f1').mono ?_
  rintro e w1 ⟨rfl, hb1⟩
  replace hb0 := below_push2 hb0 hb1 (Nat.le_refl _)
  clear a0 a1 a2 a3 hb1 BA
  have hq : (¬ x.words.length = 1 + chunkN f x.a.pairs.length + fullN x.c → ((x.words.length : Int) != 1 + (chunkN f x.a.pairs.length : Int) + (fullN x.c : Int)) = true) ∧ (x.words.length = 1 + chunkN f x.a.pairs.length + fullN x.c → ((x.words.length : Int) != 1 + (chunkN f x.a.pairs.length : Int) + (fullN x.c : Int)) = false) := by
    constructor
    · intro h; simp; omega
    · intro h; simp; omega
  generalize 1 + (chunkN f x.a.pairs.length : Int) + (fullN x.c : Int) = n at hq ⊢
  by_cases hg : x.words.length = 1 + chunkN f x.a.pairs.length + fullN x.c
  · have q2 := hq.2 hg
    have hM := Lib.hid (hM1 hg)
    clear hq hM0 hM1 hg
    go_wp2_with fail
    go_loopw [9] (fun i wr => ∃ k : Nat, k ≤ x.words.length ∧ i = .int .i64 k ∧ Below w.heap.size w wr ∧ (x.words.take k).all opensB = true) (fun i _ => x.words.length - (intOf i).toNat)
    case atStart => exact ⟨0, Nat.zero_le _, rfl, hb0, by simp⟩
    case round =>
      clear hb0
      obtain ⟨k, hk, rfl, hb, hall⟩ := hrel
      by_cases hlt : k < x.words.length
      · have hlt' : (k : Int) < (x.words.length : Int) := by omega
        obtain ⟨b, off, ha, hbl, hc, hu⟩ := word_cell (H.words.keep (Keeps.of_below hb)) k hlt
        rw [ha]
        have hall2 : opensB x.words[k] = true → (x.words.take (k + 1)).all opensB = true := fun e => by
          rw [List.take_succ_eq_append_getElem hlt, List.all_append, hall]; simp [e]
        have hno : opensB x.words[k] = false → mayK x = false := fun e => by
          simp [hM.out, opens_no hlt e]
        generalize x.words[k] = y at hc hu hall2 hno
        obtain ⟨u0, u1⟩ := hu
        cases ho : opensB y
        · have hE := Lib.hid (hno ho)
          replace ho := Lib.hid ho
          clear hall2 hno
          go_wp2_with fail
          refine (dopen_any y _ u0 u1).mono ?_
          rw [ho.out]
          rintro e w2 ⟨rfl, rfl⟩
          clear hc ho
          go_wp2_with fail
          go_ret
          exact ⟨by rw [hE.out]; rfl, hb⟩
        · have hE := Lib.hid (hall2 ho)
          replace ho := Lib.hid ho
          clear hall2 hno
          go_wp2_with fail
          refine (dopen_any y _ u0 u1).mono ?_
          rw [ho.out]
          rintro e w2 ⟨rfl, rfl⟩
          clear hc ho
          go_wp2_with fail
          go_roundw
          case rel => exact ⟨k + 1, by omega, by go_num, hb, hE.out⟩
          case measure => simp [intOf]; omega
      obtain rfl : k = x.words.length := by omega
      rw [List.take_length] at hall
      have hM2 : Hid (mayK x = fromsB x.c) := Lib.hid (by rw [hM.out, hall]; rfl)
      clear hall hM q2
      go_wp2_with fail
      go_loopw [13] (fun i wr => ∃ k : Nat, k ≤ x.c.length ∧ i = .int .i64 k ∧ Below w.heap.size w wr ∧ Hid (∀ i (hi : i < x.c.length), i < k → -1 ≤ x.c[i].from_ ∧ x.c[i].from_ < (i : Int))) (fun i _ => x.c.length - (intOf i).toNat)
      case atStart => exact ⟨0, Nat.zero_le _, rfl, hb, Lib.hid fun i _ h => absurd h (by omega)⟩
      case round =>
        clear hb
        obtain ⟨k, hk, rfl, hb, hall⟩ := hrel
        by_cases hlt : k < x.c.length
        · have hlt' : (k : Int) < (x.c.length : Int) := by omega
          obtain ⟨b, off, qn, ha, hbl, hcs, hok⟩ := change_cell (H.c.keep (Keeps.of_below hb)) k hlt
          rw [ha]
          have hall2 : -1 ≤ x.c[k].from_ ∧ x.c[k].from_ < (k : Int) → ∀ i (hi : i < x.c.length), i < k + 1 → -1 ≤ x.c[i].from_ ∧ x.c[i].from_ < (i : Int) := fun h i hi hik => by
            by_cases e : i = k
            · subst e; exact h
            · exact hall.out i hi (by omega)
          have hno : ¬ (-1 ≤ x.c[k].from_ ∧ x.c[k].from_ < (k : Int)) → mayK x = false := fun h => by rw [hM2.out]; exact froms_no hlt h
          have x1 : wr.cell? ⟨b, off + k * 14 + 1, none⟩ = some (.int .i64 x.c[k].from_) := hcs 1 _ rfl
          generalize x.c[k].from_ = fr at hall2 hno x1
          clear hok hcs
          by_cases g1 : fr < -1
          · have hE := Lib.hid (hno (by omega))
            have q1 : decide (fr < -1) = true := by simpa using g1
            clear hall2 hno g1
            go_wp2_with fail
            go_ret
            exact ⟨by rw [hE.out]; rfl, hb⟩
          · have q1 : decide (fr < -1) = false := by simpa using g1
            by_cases g2 : (k : Int) ≤ fr
            · have hE := Lib.hid (hno (by omega))
              have q2 : decide ((k : Int) ≤ fr) = true := by simpa using g2
              clear hall2 hno g1 g2
              go_wp2_with fail
              go_ret
              exact ⟨by rw [hE.out]; rfl, hb⟩
            · have q2 : decide ((k : Int) ≤ fr) = false := by simpa using g2
              have hA := Lib.hid (hall2 (by omega))
              clear hall2 hno g1 g2
              go_wp2_with fail
              go_roundw
              case rel => exact ⟨k + 1, by omega, by go_num, hb, hA⟩
              case measure => simp [intOf]; omega
        · obtain rfl : k = x.c.length := by omega
          have hE : Hid (mayK x = true) := Lib.hid (by rw [hM2.out]; exact froms_yes fun i hi => hall.out i hi hi)
          go_wp2_with fail
          go_ret
          exact ⟨by rw [hE.out]; rfl, hb⟩
  · have q2 := hq.1 hg
    have hE := Lib.hid (hM0 hg)
    clear hq hM0 hM1 hg
    go_wp2_with fail
    go_ret
    exact ⟨by rw [hE.out]; rfl, hb0⟩
end Go.Proofs.Ytnecikholpiefaa.Dp
