/-
  How many blocks a draft costs: contracts.
-/
import Derived.Test.YtnecikholpiefaaPlanA
import Derived.IntWalk
namespace Go.Proofs.Ytnecikholpiefaa.Dp
open Go.RowKit RefP
set_option linter.unusedVariables false
set_option linter.unusedSimpArgs false
set_option maxHeartbeats 800000 in
theorem wide_any (fan : Int) (w : World) : Calls Try.prog 32 #[.int .i64 fan] w fun e w' => e = .returned (.bool (fanB fan)) ∧ w = w' := by
  by_cases h1 : 4 ≤ fan
  · by_cases h2 : fan ≤ 64
    · have hE : Hid (fanB fan = true) := Lib.hid (by simp [fanB, h1, h2])
      go_enter Try.func32, Try.ntmps32
      go_wp2
      go_ret
      exact ⟨by rw [hE.out]; rfl, rfl⟩
    · have hE : Hid (fanB fan = false) := Lib.hid (by simp [fanB, h1, h2])
      have h2' : 64 < fan := by omega
      go_enter Try.func32, Try.ntmps32
      go_wp2
      go_ret
      exact ⟨by rw [hE.out]; rfl, rfl⟩
  · have hE : Hid (fanB fan = false) := Lib.hid (by simp [fanB, h1])
    have h2' : fan < 4 := by omega
    go_enter Try.func32, Try.ntmps32
    go_wp2
    go_ret
    exact ⟨by rw [hE.out]; rfl, rfl⟩
/-- what Cost tells -/
def costI (x : AskV) (fan : Int) : Int := if fanB fan = true then (costK x fan.toNat : Int) else 0
theorem chunk_is {fan n j : Nat} (h0 : 1 ≤ fan) (h1 : n ≤ j * fan) (h2 : j = 0 ∨ (j - 1) * fan < n) : chunkN fan n = j := by
  unfold chunkN
  refine Nat.div_eq_of_lt_le ?_ ?_
  · rcases h2 with rfl | h2
    · omega
    · obtain ⟨i, rfl⟩ : ∃ i, j = i + 1 := ⟨j - 1, by
        by_cases e : j = 0
        · subst e; omega
        · omega⟩
      simp only [Nat.add_sub_cancel] at h2
      rw [Nat.succ_mul]; omega
  · rw [Nat.succ_mul]; omega
theorem chunk_int {fan n : Nat} (h : 1 ≤ fan) : ((n : Int) + (fan : Int) - 1) / (fan : Int) = (chunkN fan n : Int) := by
  unfold chunkN
  have e : (n : Int) + (fan : Int) - 1 = ((n + fan - 1 : Nat) : Int) := by omega
  rw [e]; rfl
set_option maxRecDepth 100000 in
set_option maxHeartbeats 3200000 in
theorem cost_any (S : List Nat) (q : AskH) (x : AskV) (fan : Int) (w : World) (H : AskOk w S q x) (l1 : x.c.length ≤ 60) (l2 : x.a.pairs.length ≤ 300) (i0 : I64 fan) : Calls Try.prog 29 #[.agg (draftA q x), .int .i64 fan] w fun e w' => e = .returned (.int .i64 (costI x fan)) ∧ Below w.heap.size w w' := by
  have hb0 : Below w.heap.size w (w.alloc (.cells (draftA q x) 36)) := by (repeat (first | exact Below.refl _ _ | assumption | refine below_alloc2 ?_ (by first | exact Nat.le_refl _ | omega) _ | refine Below.drew ?_ | refine below_drewN ?_ _ | refine below_push2 ?_ ‹_› (by first | exact Nat.le_refl _ | omega) | refine Below.setCell ?_ (by first | (simp; done) | (simp; omega) | omega) _))
  have BA := Blk.new w (draftA q x) 36
  obtain ⟨AB, hAB⟩ : ∃ b, b = w.heap.size := ⟨_, rfl⟩
  go_enter Try.func29, Try.ntmps29
  go_upto_region 1 with (fail)
  rw [← hAB] at BA ⊢
  replace hAB := Lib.hid hAB
  generalize w.alloc (.cells (draftA q x) 36) = w0 at hb0 BA ⊢
  have a3 := BA.at 3 rfl
  have a4 := BA.at 4 rfl
  go_wp2_with fail
  refine (wide_any fan _).mono ?_
  rintro e w1 ⟨rfl, rfl⟩
  cases hf : fanB fan
  · have hE : Hid (costI x fan = 0) := Lib.hid (by unfold costI; rw [hf]; rfl)
    go_wp2_with fail
    go_ret
    exact ⟨by rw [hE.out]; rfl, hb0⟩
  · have hf' : 4 ≤ fan ∧ fan ≤ 64 := of_decide_eq_true hf
    obtain ⟨f, rfl⟩ : ∃ f : Nat, fan = (f : Int) := ⟨fan.toNat, by omega⟩
    have hE : Hid (costI x (f : Int) = 1 + (chunkN f x.a.pairs.length : Int) + (fullN x.c : Int)) := Lib.hid (by unfold costI; rw [hf, if_pos rfl, Int.toNat_natCast]; unfold costK; omega)
    have hch := chunk_int (fan := f) (n := x.a.pairs.length) (by omega)
    have hcl : chunkN f x.a.pairs.length ≤ 400 := by
      unfold chunkN
      have := Nat.div_le_self (x.a.pairs.length + f - 1) f
      omega
    replace hch := Lib.hid hch
    clear hf
    obtain ⟨f0, f1⟩ := hf'
    go_wp2_with fail
    rw [hch.out]
    generalize chunkN f x.a.pairs.length = ch at hE hcl
    clear a3 a4 BA hch
    go_loopw [5, 24] (fun n i wr => ∃ k : Nat, k ≤ x.c.length ∧ i = .int .i64 k ∧ n = .int .i64 (1 + (ch : Int) + (fullN (x.c.take k) : Int)) ∧ Below w.heap.size w wr) (fun _ i _ => x.c.length - (intOf i).toNat)
    case atStart => exact ⟨0, Nat.zero_le _, rfl, by rw [IntWalk.wrap64_in _ ⟨by omega, by omega⟩]; simp only [List.take_zero, fullN, List.filter_nil, List.length_nil]; go_num, hb0⟩
    case round =>
      clear hb0
      obtain ⟨k, hk, rfl, rfl, hb⟩ := hrel
      by_cases hlt : k < x.c.length
      · have hlt' : (k : Int) < (x.c.length : Int) := by omega
        obtain ⟨b, off, qn, ha, hbl, hcs, hok⟩ := change_cell (H.c.keep (Keeps.of_below hb)) k hlt
        rw [ha]
        have hsn : fullN (x.c.take (k + 1)) = fullN (x.c.take k) + if x.c[k].empty = true then 0 else 1 := by
          rw [List.take_succ_eq_append_getElem hlt, fullN_snoc]
        have hle : fullN (x.c.take k) ≤ 60 := by
          have := fullN_le (x.c.take k)
          rw [List.length_take] at this; omega
        generalize fullN (x.c.take k) = m at hsn hle
        generalize x.c[k] = c at hcs hok hsn
        have hbx : Below wr.heap.size wr (wr.alloc (.cells (changeA qn c) 60)) := (Below.refl _ wr).alloc (Nat.le_refl _) _
        have BX := Blk.new wr (changeA qn c) 60
        obtain ⟨em, hem⟩ : ∃ em, em = c.empty := ⟨_, rfl⟩
        have x4 : (wr.alloc (.cells (changeA qn c) 60)).cell? ⟨wr.heap.size, 4, none⟩ = some (.bool em) := by rw [hem]; exact BX.at 4 rfl
        rw [← hem] at hsn
        replace hem := Lib.hid hem
        replace hb := below_push2 hb hbx (Nat.le_refl _)
        generalize hW : wr.alloc (.cells (changeA qn c) 60) = w5 at hb x4
        replace hW := Lib.hid hW
        clear BX hbx hok
        cases em
        · replace hsn := Lib.hid hsn
          go_wp2_with (first
            | (refine wpList_load_mid rfl 60 _ rfl b (off + k * 14) rfl (changeA qn c).toList _ hcs Try.underlying60 rfl (by kernel_rfl) ?_)
            | (refine wpList_store_row rfl 60 _ _ rfl _ _ rfl rfl 60 _ (Blk.new wr _ _).h (by kernel_rfl) (by rfl) (by kernel_rfl) ?_; rw [World.setRow_alloc_new, hW.out]))
          go_roundw
          case rel => exact ⟨k + 1, by omega, by go_num, by rw [hsn.out]; go_num, hb⟩
          case measure => simp [intOf]; omega
        · replace hsn := Lib.hid hsn
          go_wp2_with (first
            | (refine wpList_load_mid rfl 60 _ rfl b (off + k * 14) rfl (changeA qn c).toList _ hcs Try.underlying60 rfl (by kernel_rfl) ?_)
            | (refine wpList_store_row rfl 60 _ _ rfl _ _ rfl rfl 60 _ (Blk.new wr _ _).h (by kernel_rfl) (by rfl) (by kernel_rfl) ?_; rw [World.setRow_alloc_new, hW.out]))
          go_roundw
          case rel => exact ⟨k + 1, by omega, by go_num, by rw [hsn.out]; rfl, hb⟩
          case measure => simp [intOf]; omega
      · obtain rfl : k = x.c.length := by omega
        rw [List.take_length]
        go_wp2_with fail
        go_ret
        exact ⟨by rw [hE.out]; rfl, hb⟩
set_option maxRecDepth 100000 in
set_option maxHeartbeats 3200000 in
theorem rcost_any (S : List Nat) (q : Hd) (qc : Hd) (a : AnsV) (l : List ChangeV) (f : Nat) (w : World) (Ha : AnsOk w S q a) (H : HRow changeT w S qc l) (l1 : l.length ≤ 60) (l2 : a.pairs.length ≤ 300) (f0 : 4 ≤ f) (f1 : f ≤ 64) : Calls Try.prog 25 #[.agg (ansA q a), .slice qc.a l.length qc.c, .int .i64 f] w fun e w' => e = .returned (.int .i64 (1 + (chunkN f a.pairs.length : Int) + (fullN l : Int))) ∧ Below w.heap.size w w' := by
  have hb0 : Below w.heap.size w (w.alloc (.cells (ansA q a) 25)) := by (repeat (first | exact Below.refl _ _ | assumption | refine below_alloc2 ?_ (by first | exact Nat.le_refl _ | omega) _ | refine Below.drew ?_ | refine below_drewN ?_ _ | refine below_push2 ?_ ‹_› (by first | exact Nat.le_refl _ | omega) | refine Below.setCell ?_ (by first | (simp; done) | (simp; omega) | omega) _))
  have BA := Blk.new w (ansA q a) 25
  obtain ⟨AB, hAB⟩ : ∃ b, b = w.heap.size := ⟨_, rfl⟩
  go_enter Try.func25, Try.ntmps25
  go_upto_region 1 with (fail)
  rw [← hAB] at BA ⊢
  replace hAB := Lib.hid hAB
  generalize w.alloc (.cells (ansA q a) 25) = w0 at hb0 BA ⊢
  have a3 := BA.at 3 rfl
  go_wp2_with fail
  go_loopw [7, 8] (fun n i wr => ∃ j k : Nat, j ≤ 300 ∧ (j * f ≤ k ∧ k ≤ j * f) ∧ k < 300 + f ∧ (j = 0 ∨ (j - 1) * f < a.pairs.length) ∧ n = .int .i64 (1 + (j : Int)) ∧ i = .int .i64 k ∧ wr = w0) (fun _ i _ => 400 - (intOf i).toNat)
  case atStart => exact ⟨0, 0, by omega, by omega, by omega, .inl rfl, rfl, rfl, rfl⟩
  case round =>
    obtain ⟨j, k, hj, hjk, hk, hlo, rfl, rfl, rfl⟩ := hrel
    by_cases hlt : k < a.pairs.length
    · have hlt' : (k : Int) < (a.pairs.length : Int) := by omega
      have hj1 : j < 300 := by
        have : j * 4 ≤ j * f := Nat.mul_le_mul_left _ f0
        omega
      have hs : (j + 1) * f = j * f + f := Nat.succ_mul _ _
      have hs2 : (j + 1) * f ≤ k + f ∧ k + f ≤ (j + 1) * f := by omega
      have hlo2 : j * f < a.pairs.length := by omega
      replace hs := Lib.hid hs
      replace hs2 := Lib.hid hs2
      replace hlo2 := Lib.hid hlo2
      clear hlo hjk
      go_wp2_with fail
      go_roundw
      case rel => exact ⟨j + 1, k + f, by omega, hs2.out, by omega, .inr (by simpa using hlo2.out), by go_num, by go_num, by first | exact rfl | trivial⟩
      case measure => simp [intOf]; omega
    · have hch : chunkN f a.pairs.length = j := chunk_is (by omega) (by omega) hlo
      have hge : (a.pairs.length : Int) ≤ (k : Int) := by omega
      replace hch := Lib.hid hch
      clear hlo hjk
      go_wp2_with fail
      clear hge hlt
      go_loopw [7, 9] (fun n i wr => ∃ k : Nat, k ≤ l.length ∧ i = .int .i64 k ∧ n = .int .i64 (1 + (j : Int) + (fullN (l.take k) : Int)) ∧ Below w.heap.size w wr) (fun _ i _ => l.length - (intOf i).toNat)
      case atStart => exact ⟨0, Nat.zero_le _, rfl, by simp [fullN], hb0⟩
      case round =>
        clear hb0
        obtain ⟨k, hk, rfl, rfl, hb⟩ := hrel
        by_cases hlt : k < l.length
        · have hlt' : (k : Int) < (l.length : Int) := by omega
          obtain ⟨b, off, qn, ha, hbl, hcs, hok⟩ := change_cell (H.keep (Keeps.of_below hb)) k hlt
          rw [ha]
          have hsn : fullN (l.take (k + 1)) = fullN (l.take k) + if l[k].empty = true then 0 else 1 := by
            rw [List.take_succ_eq_append_getElem hlt, fullN_snoc]
          have hle : fullN (l.take k) ≤ 60 := by
            have := fullN_le (l.take k)
            rw [List.length_take] at this; omega
          generalize fullN (l.take k) = m at hsn hle
          have x4 : wr.cell? ⟨b, off + k * 14 + 4, none⟩ = some (.bool l[k].empty) := hcs 4 _ rfl
          generalize l[k].empty = em at hsn x4
          clear hcs hok
          cases em
          · replace hsn := Lib.hid hsn
            go_wp2_with fail
            go_roundw
            case rel => exact ⟨k + 1, by omega, by go_num, by rw [hsn.out]; go_num, hb⟩
            case measure => simp [intOf]; omega
          · replace hsn := Lib.hid hsn
            go_wp2_with fail
            go_roundw
            case rel => exact ⟨k + 1, by omega, by go_num, by rw [hsn.out]; rfl, hb⟩
            case measure => simp [intOf]; omega
        · obtain rfl : k = l.length := by omega
          rw [List.take_length]
          go_wp2_with fail
          go_ret
          exact ⟨by rw [hch.out]; rfl, hb⟩
end Go.Proofs.Ytnecikholpiefaa.Dp
