/-
  arena: Put, Get, Free: contracts.
-/
import Derived.Test.YtpkiihangfgmlaaArenaWalk
namespace Go.Proofs.Ytpkiihangfgmlaa.ArP
open Go.RowKit RefP CellP
set_option linter.unusedVariables false
set_option linter.unusedSimpArgs false
theorem putL_no {l : List B3} {x y : Int} (h : atE l x ≠ 0) : putL l x y = l := if_neg h
theorem putL_yes {l : List B3} {x y : Int} (h : atE l x = 0) : putL l x y = l.set (openP x).toNat ((at3 l (openP x).toNat).1, (at3 l (openP x).toNat).2.1, y) := if_pos h
theorem freeL_no {l : List B3} {x : Int} (h : atE l x ≠ 0) : freeL l x = l := if_neg h
theorem freeL_yes {l : List B3} {x : Int} (h : atE l x = 0) : freeL l x = l.set (openP x).toNat (rest3 (at3 l (openP x).toNat).2.1) := if_pos h
theorem getX_no {l : List B3} {x : Int} (h : atE l x ≠ 0) : getX l x = 0 := if_neg h
theorem getX_yes {l : List B3} {x : Int} (h : atE l x = 0) : getX l x = (at3 l (openP x).toNat).2.2 := if_pos h
theorem at_place {l : List B3} {x : Int} (h : atE l x = 0) : ∃ k : Nat, openP x = k ∧ k < l.length := by
  obtain ⟨hi, _, _⟩ := atE_zero h
  obtain ⟨_, hx0, hx1⟩ := namesB_yes hi
  obtain ⟨k, hk⟩ := Int.eq_ofNat_of_zero_le hx0
  exact ⟨k, hk, by omega⟩
theorem bne_zero {e : Int} (h : e ≠ 0) : (e != 0) = true := by simpa using h
set_option maxHeartbeats 800000 in
theorem put_nil (x y : Int) (w : World) : Calls Try.prog 17 #[.pointer none, .int .u64 x, .int .i64 y] w fun e w' => e = .returned (.int .i64 1) ∧ w = w' := by
  go_enter Try.func17, Try.ntmps17
  go_wp2_with fail
  refine (at_nil _ _).mono ?_
  rintro e w1 ⟨rfl, rfl⟩
  go_wp2_with fail
  go_ret
  exact ⟨rfl, rfl⟩
set_option maxHeartbeats 800000 in
theorem get_nil (x : Int) (w : World) : Calls Try.prog 18 #[.pointer none, .int .u64 x] w fun e w' => e = .returned (.tuple #[.int .i64 0, .int .i64 1]) ∧ w = w' := by
  go_enter Try.func18, Try.ntmps18
  go_wp2_with fail
  refine (at_nil _ _).mono ?_
  rintro e w1 ⟨rfl, rfl⟩
  go_wp2_with fail
  go_ret2
  exact ⟨rfl, rfl⟩
set_option maxHeartbeats 800000 in
theorem free_nil (x : Int) (w : World) : Calls Try.prog 19 #[.pointer none, .int .u64 x] w fun e w' => e = .returned (.int .i64 1) ∧ w = w' := by
  go_enter Try.func19, Try.ntmps19
  go_wp2_with fail
  refine (at_nil _ _).mono ?_
  rintro e w1 ⟨rfl, rfl⟩
  go_wp2_with fail
  go_ret
  exact ⟨rfl, rfl⟩
set_option maxHeartbeats 1600000 in
theorem put_any (o g : Nat) (l : List B3) (x y : Int) (w : World) (h : ArenaAt w o g l) (x0 : 0 ≤ x) (x1 : x ≤ 18446744073709551615) (y0 : -9223372036854775808 ≤ y) (y1 : y ≤ 9223372036854775807) : Calls Try.prog 17 #[.pointer (some ⟨o, 0, none⟩), .int .u64 x, .int .i64 y] w fun e w' => e = .returned (.int .i64 (atE l x)) ∧ ArenaAt w' o g (putL l x y) ∧ Only w w' g := by
  by_cases he : atE l x = 0
  · obtain ⟨k, hk, hkl⟩ := at_place he
    have hR := Lib.hid (ret_int (k := .i64) he)
    have hL := Lib.hid (putL_yes (y := y) he)
    rw [hk, Int.toNat_natCast] at hL
    have ha := at_yes o g l x w h x0 x1 k hk he
    clear he
    go_enter Try.func17, Try.ntmps17
    go_wp2_with fail
    refine ha.mono ?_
    rintro e w1 ⟨rfl, hb1⟩
    have h1 := h.below hb1
    obtain ⟨r0, r1, r2⟩ := h1.cells k hkl
    have f2 := h1.rows.free (k * 3 + 2)
    go_wp2_with fail
    go_ret
    rw [hL.out]
    exact ⟨hR.out.symm, h1.put (Below.refl _ _) k hkl y y0 y1, only_set (only_of_below hb1 _) _ _⟩
  · have hq : (atE l x == 0) = false := not_eq he
    have ha := at_no o g l x w h x0 x1 he
    rw [putL_no he]
    clear he
    go_enter Try.func17, Try.ntmps17
    go_wp2_with fail
    refine ha.mono ?_
    rintro e w1 ⟨rfl, hb1⟩
    go_wp2_with fail
    go_ret
    exact ⟨rfl, h.below hb1, only_of_below hb1 _⟩
set_option maxHeartbeats 1600000 in
theorem get_any (o g : Nat) (l : List B3) (x : Int) (w : World) (h : ArenaAt w o g l) (x0 : 0 ≤ x) (x1 : x ≤ 18446744073709551615) : Calls Try.prog 18 #[.pointer (some ⟨o, 0, none⟩), .int .u64 x] w fun e w' => e = .returned (.tuple #[.int .i64 (getX l x), .int .i64 (atE l x)]) ∧ Below w.heap.size w w' := by
  by_cases he : atE l x = 0
  · obtain ⟨k, hk, hkl⟩ := at_place he
    have hG := getX_yes he
    rw [hk, Int.toNat_natCast] at hG
    have ha := at_yes o g l x w h x0 x1 k hk he
    rw [hG, he]
    clear he hG
    go_enter Try.func18, Try.ntmps18
    go_wp2_with fail
    refine ha.mono ?_
    rintro e w1 ⟨rfl, hb1⟩
    have h1 := h.below hb1
    obtain ⟨r0, r1, r2⟩ := h1.cells k hkl
    go_wp2_with fail
    go_ret2
    exact ⟨rfl, hb1⟩
  · have hq : (atE l x != 0) = true := bne_zero he
    have ha := at_no o g l x w h x0 x1 he
    rw [getX_no he]
    clear he
    go_enter Try.func18, Try.ntmps18
    go_wp2_with fail
    refine ha.mono ?_
    rintro e w1 ⟨rfl, hb1⟩
    go_wp2_with fail
    go_ret2
    exact ⟨rfl, hb1⟩
set_option maxRecDepth 100000 in
set_option maxHeartbeats 1600000 in
theorem free_any (o g : Nat) (l : List B3) (x : Int) (w : World) (h : ArenaAt w o g l) (x0 : 0 ≤ x) (x1 : x ≤ 18446744073709551615) : Calls Try.prog 19 #[.pointer (some ⟨o, 0, none⟩), .int .u64 x] w fun e w' => e = .returned (.int .i64 (atE l x)) ∧ ArenaAt w' o g (freeL l x) ∧ Only w w' g := by
  by_cases he : atE l x = 0
  · obtain ⟨k, hk, hkl⟩ := at_place he
    have hR := Lib.hid (ret_int (k := .i64) he)
    have hL := Lib.hid (freeL_yes he)
    rw [hk, Int.toNat_natCast] at hL
    have ha := at_yes o g l x w h x0 x1 k hk he
    clear he
    go_enter Try.func19, Try.ntmps19
    go_wp2_with fail
    refine ha.mono ?_
    rintro e w1 ⟨rfl, hb1⟩
    have h1 := h.below hb1
    obtain ⟨r0, r1, r2⟩ := h1.cells k hkl
    have f0 := h1.rows.free (k * 3)
    have f1 := h1.rows.free (k * 3 + 1)
    have f2 := h1.rows.free (k * 3 + 2)
    have hgr := (h.rng.at k).2.1
    have hrr := restI_rng (at3 l k).2.1
    have hW := h1.write (Below.refl _ _) k hkl (rest3 (at3 l k).2.1) ⟨by simp only [rest3]; omega, by simp only [rest3]; exact hgr, by simp [rest3]⟩
    go_upto_region 3 with (fail)
    go_still_tail 11, (by kernel_rfl)
    still_call ((rest_any _ _).flip)
    repeat still_step
    refine wpStill_nil ?_
    go_wp2_with fail
    go_ret
    rw [hL.out]
    exact ⟨hR.out.symm, hW.below (Below.refl _ _).drew, only_trans (only_set (only_set (only_set (only_of_below hb1 _) _ _) _ _) _ _) (only_of_below (Below.refl _ _).drew _)⟩
  · have hq : (atE l x == 0) = false := not_eq he
    have ha := at_no o g l x w h x0 x1 he
    rw [freeL_no he]
    clear he
    go_enter Try.func19, Try.ntmps19
    go_wp2_with fail
    refine ha.mono ?_
    rintro e w1 ⟨rfl, hb1⟩
    go_wp2_with fail
    go_ret
    exact ⟨rfl, h.below hb1, only_of_below hb1 _⟩
end Go.Proofs.Ytpkiihangfgmlaa.ArP
