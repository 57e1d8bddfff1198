/-
  A view: Spare: contracts.
-/
import Derived.Test.YtbemgfpnoeogdaaFTake
namespace Go.Proofs.Ytbemgfpnoeogdaa.FoP
open Go.RowKit RefP Go.Maps Dp
set_option linter.unusedVariables false
set_option linter.unusedSimpArgs false
theorem sp1_any {w : World} (t : Nat) (n x0 x1 : Int) (ht : t < w.heap.size) (c0 : w.cell? ⟨t, 0, none⟩ = some (.int .i64 n)) : Calls Try.prog 55 #[.agg #[.int .i64 x0, .int .u64 x1], .pointer (some ⟨t, 0, none⟩)] w fun e w' => e = .returned (.bool (x0 == n)) ∧ Below w.heap.size w w' := by
  have hb : Below w.heap.size w (w.alloc (.cells #[.int .i64 x0, .int .u64 x1] 60)) := by (repeat (first | exact Below.refl _ _ | assumption | refine below_alloc2 ?_ (by first | exact Nat.le_refl _ | omega) _ | refine Below.drew ?_ | refine below_drewN ?_ _ | refine below_push2 ?_ ‹_› (by first | exact Nat.le_refl _ | omega) | refine Below.setCell ?_ (by first | (simp; done) | (simp; omega) | omega) _))
  have c0' : (w.alloc (.cells #[.int .i64 x0, .int .u64 x1] 60)).cell? ⟨t, 0, none⟩ = some (.int .i64 n) := (hb.cell ht).trans c0
  have x0' : (w.alloc (.cells #[.int .i64 x0, .int .u64 x1] 60)).cell? ⟨w.heap.size, 0, none⟩ = some (.int .i64 x0) := (Blk.new w _ _).at 0 rfl
  go_enter Try.func55, Try.ntmps55
  go_wp2_with fail
  go_ret
  exact ⟨rfl, hb⟩
abbrev spFn (t : Nat) : Value := .func (.func 55) #[] #[.pointer (some ⟨t, 0, none⟩)]
set_option maxRecDepth 20000 in
set_option maxHeartbeats 1600000 in
theorem idx_any {w : World} {base : Nat} {a : Option Addr} {c : Nat} {S : List Sp} (H : OwnSp w base a c S) (hl : S.length ≤ 100) (t : Nat) (n : Int) (ht : t < w.heap.size) (c0 : w.cell? ⟨t, 0, none⟩ = some (.int .i64 n)) : Calls Try.prog 61 #[.slice a S.length c, spFn t] w fun e w' => ∃ r : Int, e = .returned (.int .i64 r) ∧ (0 ≤ r ↔ spHas S n = true) ∧ Below w.heap.size w w' := by
  go_enter Try.func61, Try.ntmps61
  go_upto_region 1 with (fail)
  go_wp2_with fail
  go_loopg [8] S.length (fun gg i wr => ∃ k : Nat, k ≤ S.length ∧ S.length ≤ k + gg ∧ i = .int .i64 k ∧ Below w.heap.size w wr ∧ Hid (∀ j (hj : j < S.length), j < k → S[j].1 ≠ n))
  case atStart => exact ⟨0, Nat.zero_le _, by omega, rfl, Below.refl _ _, Lib.hid fun j _ h => absurd h (by omega)⟩
  case round =>
    obtain ⟨k, hk, hkg, rfl, hb, hall⟩ := hrel
    by_cases hlt : k < S.length
    · have hlt' : (k : Int) < (S.length : Int) := by omega
      obtain ⟨b, off, ha, hbl, y0, y1⟩ := sp_cells (OwnR.below H hb) k hlt
      subst ha
      have hyes : S[k].1 = n → spHas S n = true := spHas_yes hlt
      have hno : S[k].1 ≠ n → ∀ j (hj : j < S.length), j < k + 1 → S[j].1 ≠ n := fun he j hj hjk => by
        by_cases e : j = k
        · subst e; exact he
        · exact hall.out j hj (by omega)
      generalize S[k].1 = x0 at y0 hyes hno
      generalize S[k].2 = x1 at y1
      have c0r : wr.cell? ⟨t, 0, none⟩ = some (.int .i64 n) := (hb.cell ht).trans c0
      have htr : t < wr.heap.size := by have := hb.size; omega
      replace hyes := Lib.hid hyes
      replace hno := Lib.hid hno
      go_wp2_with fail
      refine (sp1_any t n x0 x1 htr c0r).mono ?_
      rintro e w2 ⟨rfl, hb2⟩
      have hbb := below_push2 hb hb2 (Nat.le_refl _)
      clear y0 y1 c0r
      by_cases he : x0 = n
      · have hE := Lib.hid (hyes.out he)
        rw [show (x0 == n) = true by simpa using he]
        clear he
        go_wp2_with fail
        go_ret
        exact ⟨_, rfl, by simp [hE.out], hbb⟩
      · have hE := Lib.hid (hno.out he)
        rw [show (x0 == n) = false by simpa using he]
        clear he
        go_wp2_with fail
        go_roundg (S.length - (k + 1))
        case measure => omega
        case rel => exact ⟨k + 1, by omega, by omega, by go_num, hbb, hE⟩
    · obtain rfl : k = S.length := by omega
      have hE := Lib.hid (spHas_no (n := n) (fun j hj => hall.out j hj hj))
      go_wp2_with fail
      go_ret
      exact ⟨_, rfl, by simp [hE.out], hb⟩
theorem has_any {w : World} {base : Nat} {a : Option Addr} {c : Nat} {S : List Sp} (H : OwnSp w base a c S) (hl : S.length ≤ 100) (t : Nat) (n : Int) (ht : t < w.heap.size) (c0 : w.cell? ⟨t, 0, none⟩ = some (.int .i64 n)) : Calls Try.prog 54 #[.slice a S.length c, spFn t] w fun e w' => e = .returned (.bool (spHas S n)) ∧ Below w.heap.size w w' := by
  go_enter Try.func54, Try.ntmps54
  go_wp2_with fail
  refine (idx_any H hl t n ht c0).mono ?_
  rintro e w2 ⟨r, rfl, hr, hb⟩
  have hE : Hid (decide (0 ≤ r) = spHas S n) := Lib.hid (by
    cases h : spHas S n
    · simp; rw [h] at hr; simp at hr; exact hr
    · simp; exact hr.2 h)
  clear hr
  go_wp2_with fail
  go_ret
  exact ⟨by rw [← hE.out]; rfl, hb⟩
end Go.Proofs.Ytbemgfpnoeogdaa.FoP
