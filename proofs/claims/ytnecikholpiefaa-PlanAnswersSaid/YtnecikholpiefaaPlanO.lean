/-
  What a plan's steps write over, and whether one turns: the program's and the document's: contracts.
-/
import Derived.Test.YtnecikholpiefaaPlanD
import Derived.Test.YtnecikholpiefaaWords
import Derived.Test.YtnecikholpiefaaHazWalk
namespace Go.Proofs.Ytnecikholpiefaa.Dp
open Go.RowKit RefP
set_option linter.unusedVariables false
set_option linter.unusedSimpArgs false
abbrev planA (q : PlanH) (x : PlanV) : Array Value := #[.int .i64 x.thread, .int .i64 x.ans.code, .string x.ans.key, .int .u64 x.ans.val, .slice q.pairs.a x.ans.pairs.length q.pairs.c, .slice q.steps.a x.steps.length q.steps.c, .slice q.extra.a x.extra.length q.extra.c]
def oldsV (l : List StepV) : List Int := (l.map (·.old)).filter (fun o => o != 0)
theorem oldsV_le (l : List StepV) : (oldsV l).length ≤ l.length := by
  unfold oldsV
  refine Nat.le_trans (List.length_filter_le _ _) (by simp)
theorem oldsV_yes {l : List StepV} {k : Nat} (hk : k < l.length) (h : (l[k].old != 0) = true) : oldsV (l.take (k + 1)) = oldsV (l.take k) ++ [l[k].old] := by
  unfold oldsV
  rw [List.take_succ_eq_append_getElem hk, List.map_append, List.filter_append]
  simp [List.filter_cons, h]
theorem oldsV_no {l : List StepV} {k : Nat} (hk : k < l.length) (h : (l[k].old != 0) = false) : oldsV (l.take (k + 1)) = oldsV (l.take k) := by
  unfold oldsV
  rw [List.take_succ_eq_append_getElem hk, List.map_append, List.filter_append]
  simp only [List.map_cons, List.map_nil, List.filter_cons, h]
  simp
def linV (l : List StepV) : Bool := l.any (·.lin)
theorem step_at {w : World} {S : List Nat} {h : Hd} {xs : List StepV} (H : HRow Dp.stepT w S h xs) (k : Nat) (hk : k < xs.length) : ∃ b off, h.a = some ⟨b, off, none⟩ ∧ b < w.heap.size ∧ w.rangeAt b (off + k * 5) [.int .i64 xs[k].cell, .int .u64 xs[k].ver, .int .u64 xs[k].old, .int .u64 xs[k].new, .bool xs[k].lin] ∧ StepOk xs[k] := by
  obtain ⟨b, off, e, hb, _, hc⟩ := H.row (by omega)
  obtain ⟨cs, hr, hv⟩ := hc k xs[k] (List.getElem?_eq_getElem hk)
  obtain ⟨rfl, hok⟩ := stepT_of hr
  exact ⟨b, off, e, hb, hv, hok⟩
set_option maxRecDepth 100000 in
set_option maxHeartbeats 3200000 in
theorem polds_any (S : List Nat) (q : PlanH) (x : PlanV) (w : World) (H : HRow Dp.stepT w S q.steps x.steps) (l1 : x.steps.length ≤ 60) : Calls Try.prog 13 #[.agg (planA q x)] w fun e w' => WordsAt w (oldsV x.steps) e w' := by
  have hb0 : Below w.heap.size w (w.alloc (.cells (planA q x) 46)) := by (repeat (first | exact Below.refl _ _ | assumption | refine below_alloc2 ?_ (by first | exact Nat.le_refl _ | omega) _ | refine Below.drew ?_ | refine below_drewN ?_ _ | refine below_push2 ?_ ‹_› (by first | exact Nat.le_refl _ | omega) | refine Below.setCell ?_ (by first | (simp; done) | (simp; omega) | omega) _))
  have BA := Blk.new w (planA q x) 46
  obtain ⟨PB, hPB⟩ : ∃ b, b = w.heap.size := ⟨_, rfl⟩
  have hmx : (maxLen : Nat) = 9223372036854775807 := by unfold maxLen; rfl
  have hsz := hb0.size
  go_enter Try.func13, Try.ntmps13
  go_upto_region 1 with (fail)
  rw [← hPB] at BA ⊢
  replace hPB := Lib.hid hPB
  generalize w.alloc (.cells (planA q x) 46) = w0 at hb0 BA hsz ⊢
  have a5 := BA.at 5 rfl
  clear hmx
  go_wp2_with fail
  clear a5
  go_loopw [2, 8] (fun v i wr => ∃ (k : Nat) (ya : Option Addr) (yc : Nat), k ≤ x.steps.length ∧ i = .int .i64 k ∧ v = .slice ya (oldsV (x.steps.take k)).length yc ∧ Below w.heap.size w wr ∧ OwnsU wr w.heap.size ya yc (oldsV (x.steps.take k))) (fun _ i _ => x.steps.length - (intOf i).toNat)
  case atStart => exact ⟨0, none, 0, Nat.zero_le _, rfl, by simp [oldsV], hb0, by simpa [oldsV] using OwnsU.nil _ _⟩
  case round =>
    clear hb0 BA hsz
    obtain ⟨k, ya, yc, hk, rfl, rfl, hb, Y⟩ := hrel
    have hbs := hb.size
    by_cases hlt : k < x.steps.length
    · have hlt' : (k : Int) < (x.steps.length : Int) := by omega
      obtain ⟨b, off, ha, hbl, hcs, hok⟩ := step_at (H.keep (Keeps.of_below hb)) k hlt
      rw [ha]
      have hle := oldsV_le (x.steps.take k)
      rw [List.length_take] at hle
      have hyes := oldsV_yes hlt
      have hno := oldsV_no hlt
      generalize x.steps[k] = st at hcs hok hyes hno
      obtain ⟨sc, sv, so, sn, sl⟩ := st
      have hso := hok.old
      simp only at hcs hyes hno hso
      have hbx : Below wr.heap.size wr (wr.alloc (.cells #[.int .i64 sc, .int .u64 sv, .int .u64 so, .int .u64 sn, .bool sl] 64)) := (Below.refl _ wr).alloc (Nat.le_refl _) _
      have Y1 := Y.below hbx
      have hb1 := below_push2 hb hbx (Nat.le_refl _)
      have hbs1 := hb1.size
      cases hso0 : (so != 0)
      · have hN := Lib.hid (hno hso0)
        clear hyes hno hok hso Y
        go_wp2_with (refine wpList_load_mid rfl 64 _ rfl b (off + k * 5) rfl [.int .i64 sc, .int .u64 sv, .int .u64 so, .int .u64 sn, .bool sl] _ hcs Try.underlying64 rfl (by kernel_rfl) ?_)
        go_roundw
        case rel => exact ⟨k + 1, _, _, by omega, by go_num, by rw [hN.out], hb1, by rw [hN.out]; exact Y1⟩
        case measure => simp [intOf]; omega
      · have hN := Lib.hid (hyes hso0)
        obtain ⟨g, cap, w', A⟩ := addOne w.heap.size Y1 so hso (by omega) hbs1
        have hrun := A.run
        simp only [World.size_alloc] at hrun
        replace hrun := Lib.hid hrun
        have AO := A.own
        have AB := A.keeps (fun k e => (Y1.lt k e).1) w w.heap.size (Nat.le_refl _) (below_alloc2 hb1 (Nat.le_refl _) _) (by simp; omega)
        have hl1 : Hid ((oldsV (x.steps.take (k + 1))).length = (oldsV (x.steps.take k)).length + 1) := Lib.hid (by rw [hN.out]; simp)
        rw [← hN.out] at AO
        clear A hyes hno hok hso Y Y1
        go_wp2_with (first
          | (at_builtin; refine wpList_append_run hrun.out rfl (by rfl) (by rfl) (by rfl) ?_)
          | (refine wpList_load_mid rfl 64 _ rfl b (off + k * 5) rfl [.int .i64 sc, .int .u64 sv, .int .u64 so, .int .u64 sn, .bool sl] _ hcs Try.underlying64 rfl (by kernel_rfl) ?_))
        go_roundw
        case rel => exact ⟨k + 1, _, _, by omega, by go_num, by rw [hl1.out], AB, AO⟩
        case measure => simp [intOf]; omega
    · obtain rfl : k = x.steps.length := by omega
      rw [List.take_length] at Y ⊢
      go_wp2_with fail
      go_ret
      exact ⟨_, _, rfl, Y, hb⟩
end Go.Proofs.Ytnecikholpiefaa.Dp
