/-
  The document's Olds; whether one turns: contracts.
-/
import Derived.Test.YtnecikholpiefaaPlanO
namespace Go.Proofs.Ytnecikholpiefaa.Dp
open Go.RowKit RefP
set_option linter.unusedVariables false
set_option linter.unusedSimpArgs false
set_option maxRecDepth 100000 in
set_option maxHeartbeats 3200000 in
theorem rolds_any (S : List Nat) (q : PlanH) (x : PlanV) (w : World) (H : HRow Dp.stepT w S q.steps x.steps) (l1 : x.steps.length ≤ 60) : Calls Try.prog 14 #[.agg (planA q x)] w fun e w' => WordsAt w (oldsV x.steps) e w' := by
  have hb0 : Below w.heap.size w (w.alloc (.cells (planA q x) 46)) := by (repeat (first | exact Below.refl _ _ | assumption | refine below_alloc2 ?_ (by first | exact Nat.le_refl _ | omega) _ | refine Below.drew ?_ | refine below_drewN ?_ _ | refine below_push2 ?_ ‹_› (by first | exact Nat.le_refl _ | omega) | refine Below.setCell ?_ (by first | (simp; done) | (simp; omega) | omega) _))
  have BA := Blk.new w (planA q x) 46
  obtain ⟨PB, hPB⟩ : ∃ b, b = w.heap.size := ⟨_, rfl⟩
  have hsz := hb0.size
  go_enter Try.func14, Try.ntmps14
  go_upto_region 1 with (fail)
  rw [← hPB] at BA ⊢
  have hPl : PB < (w.alloc (.cells (planA q x) 46)).heap.size := BA.lt
  generalize w.alloc (.cells (planA q x) 46) = w0 at hb0 BA hsz hPl ⊢
  have hbase : Below (PB + 1) w0 w0 := Below.refl _ _
  have hPw : PB + 1 ≤ w0.heap.size := hPl
  replace hPB := Lib.hid hPB
  go_wp2_with fail
  go_loopw [3, 4] (fun v i wr => ∃ (k : Nat) (ya : Option Addr) (yc : Nat), k ≤ x.steps.length ∧ i = .int .i64 k ∧ v = .slice ya (oldsV (x.steps.take k)).length yc ∧ Below (PB + 1) w0 wr ∧ OwnsU wr (PB + 1) ya yc (oldsV (x.steps.take k))) (fun _ i _ => x.steps.length - (intOf i).toNat)
  case atStart => exact ⟨0, none, 0, Nat.zero_le _, rfl, by simp [oldsV], hbase, by simpa [oldsV] using OwnsU.nil _ _⟩
  case round =>
    clear hbase
    obtain ⟨k, ya, yc, hk, rfl, rfl, hb, Y⟩ := hrel
    have hbs := hb.size
    have hBB : Below w.heap.size w wr := hb0.trans (hb.mono (by have := hPB.out; omega))
    have B5 : wr.cell? ⟨PB, 5, none⟩ = some (.slice q.steps.a x.steps.length q.steps.c) := (hb.cell (p := ⟨PB, 5, none⟩) (Nat.lt_succ_self _)).trans (BA.at 5 rfl)
    by_cases hlt : k < x.steps.length
    · have hlt' : (k : Int) < (x.steps.length : Int) := by omega
      obtain ⟨b, off, ha, hbl, hcs, hok⟩ := step_at (H.keep (Keeps.of_below hBB)) k hlt
      rw [ha] at B5
      have hle := oldsV_le (x.steps.take k)
      rw [List.length_take] at hle
      have hyes := oldsV_yes hlt
      have hno := oldsV_no hlt
      have x2 : wr.cell? ⟨b, off + k * 5 + 2, none⟩ = some (.int .u64 x.steps[k].old) := hcs 2 _ rfl
      have hso := hok.old
      generalize x.steps[k].old = so at hyes hno x2 hso
      clear hcs hok
      cases hso0 : (so != 0)
      · have hN := Lib.hid (hno hso0)
        clear hyes hno hso
        go_wp2_with fail
        go_roundw
        case rel => exact ⟨k + 1, _, _, by omega, by go_num, by rw [hN.out], hb, by rw [hN.out]; exact Y⟩
        case measure => simp [intOf]; omega
      · have hN := Lib.hid (hyes hso0)
        obtain ⟨g, cap, w', A⟩ := addOne (PB + 1) Y so hso (by omega) (by omega)
        have hrun := A.run
        replace hrun := Lib.hid hrun
        have AO := A.own
        have AB := A.keeps (fun k e => (Y.lt k e).1) w0 (PB + 1) (Nat.le_refl _) (below_alloc2 hb (by omega) _) (by simp; omega)
        have hl1 : Hid ((oldsV (x.steps.take (k + 1))).length = (oldsV (x.steps.take k)).length + 1) := Lib.hid (by rw [hN.out]; simp)
        rw [← hN.out] at AO
        clear A hyes hno hso Y
        go_wp2_with (at_builtin; refine wpList_append_run hrun.out rfl (by rfl) (by rfl) (by rfl) ?_)
        go_roundw
        case rel => exact ⟨k + 1, _, _, by omega, by go_num, by rw [hl1.out], AB, AO⟩
        case measure => simp [intOf]; omega
    · obtain rfl : k = x.steps.length := by omega
      rw [List.take_length] at Y ⊢
      go_wp2_with fail
      go_ret
      exact ⟨_, _, rfl, Y.lower (by have := hPB.out; omega), hBB⟩
theorem linV_yes {l : List StepV} {k : Nat} (hk : k < l.length) (h : l[k].lin = true) : linV l = true := by
  unfold linV
  rw [List.any_eq_true]
  exact ⟨_, List.getElem_mem hk, h⟩
theorem linV_no {l : List StepV} (h : ∀ k (hk : k < l.length), l[k].lin = false) : linV l = false := by
  unfold linV
  rw [Bool.eq_false_iff]
  intro e
  rw [List.any_eq_true] at e
  obtain ⟨x, hx, hl⟩ := e
  obtain ⟨i, hi, rfl⟩ := List.getElem_of_mem hx
  rw [h i hi] at hl; cases hl
set_option maxRecDepth 100000 in
set_option maxHeartbeats 3200000 in
theorem plin_any (S : List Nat) (q : PlanH) (x : PlanV) (w : World) (H : HRow Dp.stepT w S q.steps x.steps) (l1 : x.steps.length ≤ 60) : Calls Try.prog 15 #[.agg (planA q x)] w fun e w' => e = .returned (.bool (linV x.steps)) ∧ Below w.heap.size w w' := by
  have hb0 : Below w.heap.size w (w.alloc (.cells (planA q x) 46)) := by (repeat (first | exact Below.refl _ _ | assumption | refine below_alloc2 ?_ (by first | exact Nat.le_refl _ | omega) _ | refine Below.drew ?_ | refine below_drewN ?_ _ | refine below_push2 ?_ ‹_› (by first | exact Nat.le_refl _ | omega) | refine Below.setCell ?_ (by first | (simp; done) | (simp; omega) | omega) _))
  have BA := Blk.new w (planA q x) 46
  obtain ⟨PB, hPB⟩ : ∃ b, b = w.heap.size := ⟨_, rfl⟩
  have hsz := hb0.size
  go_enter Try.func15, Try.ntmps15
  go_upto_region 1 with (fail)
  rw [← hPB] at BA ⊢
  have hPl : PB < (w.alloc (.cells (planA q x) 46)).heap.size := BA.lt
  generalize w.alloc (.cells (planA q x) 46) = w0 at hb0 BA hsz hPl ⊢
  replace hPB := Lib.hid hPB
  have a5 := BA.at 5 rfl
  go_wp2_with fail
  clear a5
  go_loopw [8] (fun i wr => ∃ k : Nat, k ≤ x.steps.length ∧ i = .int .i64 k ∧ Below w.heap.size w wr ∧ Hid (∀ j (hj : j < x.steps.length), j < k → x.steps[j].lin = false)) (fun i _ => x.steps.length - (intOf i).toNat)
  case atStart => exact ⟨0, Nat.zero_le _, rfl, hb0, Lib.hid fun j _ h => absurd h (by omega)⟩
  case round =>
    clear hb0 BA hsz hPl
    obtain ⟨k, hk, rfl, hb, hall⟩ := hrel
    by_cases hlt : k < x.steps.length
    · have hlt' : (k : Int) < (x.steps.length : Int) := by omega
      obtain ⟨b, off, ha, hbl, hcs, hok⟩ := step_at (H.keep (Keeps.of_below hb)) k hlt
      rw [ha]
      have hyes := linV_yes hlt
      have hno : x.steps[k].lin = false → ∀ j (hj : j < x.steps.length), j < k + 1 → x.steps[j].lin = false := fun h j hj hjk => by
        by_cases e : j = k
        · subst e; exact h
        · exact hall.out j hj (by omega)
      generalize x.steps[k] = st at hcs hok hyes hno
      obtain ⟨sc, sv, so, sn, sl⟩ := st
      simp only at hcs hyes hno
      have hb1 := below_alloc2 hb (Nat.le_refl _) (.cells #[.int .i64 sc, .int .u64 sv, .int .u64 so, .int .u64 sn, .bool sl] 64)
      cases sl
      · have hN := Lib.hid (hno rfl)
        clear hyes hno hok
        go_wp2_with (refine wpList_load_mid rfl 64 _ rfl b (off + k * 5) rfl [.int .i64 sc, .int .u64 sv, .int .u64 so, .int .u64 sn, .bool false] _ hcs Try.underlying64 rfl (by kernel_rfl) ?_)
        go_roundw
        case rel => exact ⟨k + 1, by omega, by go_num, hb1, hN⟩
        case measure => simp [intOf]; omega
      · have hE := Lib.hid (hyes rfl)
        clear hyes hno hok
        go_wp2_with (refine wpList_load_mid rfl 64 _ rfl b (off + k * 5) rfl [.int .i64 sc, .int .u64 sv, .int .u64 so, .int .u64 sn, .bool true] _ hcs Try.underlying64 rfl (by kernel_rfl) ?_)
        go_ret
        exact ⟨by rw [hE.out]; rfl, hb1⟩
    · obtain rfl : k = x.steps.length := by omega
      have hE := Lib.hid (linV_no fun j hj => hall.out j hj hj)
      go_wp2_with fail
      go_ret
      exact ⟨by rw [hE.out]; rfl, hb⟩
set_option maxRecDepth 100000 in
set_option maxHeartbeats 3200000 in
theorem rlin_any (S : List Nat) (q : PlanH) (x : PlanV) (w : World) (H : HRow Dp.stepT w S q.steps x.steps) (l1 : x.steps.length ≤ 60) : Calls Try.prog 16 #[.agg (planA q x)] w fun e w' => e = .returned (.bool (linV x.steps)) ∧ Below w.heap.size w w' := by
  have hb0 : Below w.heap.size w (w.alloc (.cells (planA q x) 46)) := by (repeat (first | exact Below.refl _ _ | assumption | refine below_alloc2 ?_ (by first | exact Nat.le_refl _ | omega) _ | refine Below.drew ?_ | refine below_drewN ?_ _ | refine below_push2 ?_ ‹_› (by first | exact Nat.le_refl _ | omega) | refine Below.setCell ?_ (by first | (simp; done) | (simp; omega) | omega) _))
  have BA := Blk.new w (planA q x) 46
  obtain ⟨PB, hPB⟩ : ∃ b, b = w.heap.size := ⟨_, rfl⟩
  have hsz := hb0.size
  go_enter Try.func16, Try.ntmps16
  go_upto_region 1 with (fail)
  rw [← hPB] at BA ⊢
  have hPl : PB < (w.alloc (.cells (planA q x) 46)).heap.size := BA.lt
  generalize w.alloc (.cells (planA q x) 46) = w0 at hb0 BA hsz hPl ⊢
  replace hPB := Lib.hid hPB
  have a5 := BA.at 5 rfl
  go_wp2_with fail
  have H0 := H.keep (Keeps.of_below hb0)
  go_loop [3] (fun i => ∃ k : Nat, k ≤ x.steps.length ∧ i = .int .i64 k ∧ Hid (∀ j (hj : j < x.steps.length), j < k → x.steps[j].lin = false)) (fun i => x.steps.length - (intOf i).toNat)
  case atStart => exact ⟨0, Nat.zero_le _, rfl, Lib.hid fun j _ h => absurd h (by omega)⟩
  case round =>
    obtain ⟨k, hk, rfl, hall⟩ := hrel
    by_cases hlt : k < x.steps.length
    · have hlt' : (k : Int) < (x.steps.length : Int) := by omega
      obtain ⟨b, off, ha, hbl, hcs, hok⟩ := step_at H0 k hlt
      have a6 : w0.cell? ⟨PB, 5, none⟩ = some (.slice (some ⟨b, off, none⟩) x.steps.length q.steps.c) := by rw [← ha]; exact BA.at 5 rfl
      have x4 : w0.cell? ⟨b, off + k * 5 + 4, none⟩ = some (.bool x.steps[k].lin) := hcs 4 _ rfl
      have hyes := linV_yes hlt
      have hno : x.steps[k].lin = false → ∀ j (hj : j < x.steps.length), j < k + 1 → x.steps[j].lin = false := fun h j hj hjk => by
        by_cases e : j = k
        · subst e; exact h
        · exact hall.out j hj (by omega)
      generalize x.steps[k].lin = sl at x4 hyes hno
      clear hcs hok a5
      cases sl
      · have hN := Lib.hid (hno rfl)
        clear hyes hno
        go_wp2_with fail
        go_round
        case rel => exact ⟨k + 1, by omega, by go_num, hN⟩
        case measure => simp [intOf]; omega
      · have hE := Lib.hid (hyes rfl)
        clear hyes hno
        go_wp2_with fail
        go_ret
        exact ⟨by rw [hE.out]; rfl, hb0⟩
    · obtain rfl : k = x.steps.length := by omega
      have hE := Lib.hid (linV_no fun j hj => hall.out j hj hj)
      go_wp2_with fail
      go_ret
      exact ⟨by rw [hE.out]; rfl, hb0⟩
end Go.Proofs.Ytnecikholpiefaa.Dp
