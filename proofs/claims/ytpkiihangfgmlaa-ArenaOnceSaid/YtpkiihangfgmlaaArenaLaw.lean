/-
  bowerlaw09: contracts of lives, word and like.
-/
import Derived.Test.YtpkiihangfgmlaaArenaRef
namespace Go.Proofs.Ytpkiihangfgmlaa.ArP
open Go.RowKit RefP CellP
set_option linter.unusedVariables false
set_option linter.unusedSimpArgs false
theorem below_only' {B g : Nat} {a w1 w2 : World} (h : Below B a w1) (hg : w1.grownBy w2 (some g)) (hB : B ≤ a.heap.size) (hr : B ≤ g) : Below B a w2 := below_only h hg hB hr
theorem ex0 : List.replicate 2 (rest3 0) = [(0, 0, 0), (0, 0, 0)] := by decide
theorem ex1 : claimE [(0, 0, 0), (0, 0, 0)] 0 = 0 ∧ claimW [(0, 0, 0), (0, 0, 0)] 0 = 16385 ∧ claimL [(0, 0, 0), (0, 0, 0)] 0 = [(1, 1, 0), (0, 0, 0)] := by decide
theorem ex2 : atE [(1, 1, 0), (0, 0, 0)] 16385 = 0 ∧ freeL [(1, 1, 0), (0, 0, 0)] 16385 = [(0, 1, 0), (0, 0, 0)] := by decide
theorem ex3 : claimE [(0, 1, 0), (0, 0, 0)] 0 = 0 ∧ claimW [(0, 1, 0), (0, 0, 0)] 0 = 32769 ∧ claimL [(0, 1, 0), (0, 0, 0)] 0 = [(1, 2, 0), (0, 0, 0)] := by decide
theorem ex4 : atE [(1, 2, 0), (0, 0, 0)] 16385 = 23 ∧ getX [(1, 2, 0), (0, 0, 0)] 16385 = 0 ∧ atE [(1, 2, 0), (0, 0, 0)] 32769 = 0 ∧ getX [(1, 2, 0), (0, 0, 0)] 32769 = 0 ∧ many3 [(1, 2, 0), (0, 0, 0)] 1 = 1 := by decide
set_option maxRecDepth 100000 in
set_option maxHeartbeats 1600000 in
theorem lives_any (w : World) : Calls Try.prog 14 #[] w fun e w' => e = .returned (.bool true) ∧ Below w.heap.size w w' := by
  go_enter Try.func14, Try.ntmps14
  go_wp2_with fail
  refine (new_yes 2 0 _ (by omega) (by omega) (by omega) (by omega)).mono ?_
  rintro e w1 ⟨o, g, rfl, hA, hb1, hO, hG⟩
  rw [ex0] at hA
  go_wp2_with fail
  refine (claim_any _ _ _ _ _ hA (by omega) (by omega)).mono ?_
  rw [ex1.1, ex1.2.1, ex1.2.2]
  rintro e w2 ⟨rfl, hA2, hg2⟩
  have hb2 := below_only hb1 hg2 (Nat.le_refl _) hG
  go_wp2_with fail
  refine (free_any _ _ _ _ _ hA2 (by omega) (by omega)).mono ?_
  rw [ex2.1, ex2.2]
  rintro e w3 ⟨rfl, hA3, hg3⟩
  have hb3 := below_only hb2 hg3 (Nat.le_refl _) hG
  go_wp2_with fail
  refine (claim_any _ _ _ _ _ hA3 (by omega) (by omega)).mono ?_
  rw [ex3.1, ex3.2.1, ex3.2.2]
  rintro e w4 ⟨rfl, hA4, hg4⟩
  have hb4 := below_only hb3 hg4 (Nat.le_refl _) hG
  go_wp2_with fail
  refine (get_any _ _ _ _ _ hA4 (by omega) (by omega)).mono ?_
  rw [ex4.1, ex4.2.1]
  rintro e w5 ⟨rfl, hb5⟩
  have hA5 := hA4.below hb5
  have hB5 := below_push2 hb4 hb5 (Nat.le_refl _)
  go_wp2_with fail
  refine (get_any _ _ _ _ _ hA5 (by omega) (by omega)).mono ?_
  rw [ex4.2.2.1, ex4.2.2.2.1]
  rintro e w6 ⟨rfl, hb6⟩
  have hA6 := hA5.below hb6
  have hB6 := below_push2 hB5 hb6 (Nat.le_refl _)
  go_wp2_with fail
  refine (aused_any _ _ _ _ hA6).mono ?_
  rw [ex4.2.2.2.2]
  rintro e w7 ⟨rfl, hb7⟩
  go_wp2_with fail
  go_ret
  exact ⟨rfl, below_push2 hB6 hb7 (Nat.le_refl _)⟩

/-- which word is meant -/
def wordI (ago raw : Int) (T : List Int) : Int := if raw ≠ 0 ∨ ago < 0 ∨ T.length ≤ ago then raw else at0 T (T.length - 1 - ago.toNat)
theorem wordI_rng {w : World} {a : Option Addr} (ago raw : Int) {T : List Int} (h : U64s w a T) (h0 : 0 ≤ raw) (h1 : raw ≤ 18446744073709551615) : 0 ≤ wordI ago raw T ∧ wordI ago raw T ≤ 18446744073709551615 := by
  unfold wordI; split
  · exact ⟨h0, h1⟩
  · exact h.rngD _
set_option maxRecDepth 100000 in
set_option maxHeartbeats 1600000 in
theorem word_any (kd at_ ago raw x : Int) (a : Option Addr) (c : Nat) (T : List Int) (w : World) (h : U64s w a T) (ht : T.length ≤ 9223372036854775807) :
    Calls Try.prog 33 #[.agg #[.int .i64 kd, .int .i64 at_, .int .i64 ago, .int .u64 raw, .int .i64 x], .slice a T.length c] w fun e w' => e = .returned (.int .u64 (wordI ago raw T)) ∧ Below w.heap.size w w' := by
  by_cases h0 : raw = 0
  · subst h0
    by_cases h1 : ago < 0
    · have q1 : decide (ago < 0) = true := by simpa using h1
      have hR : Hid (wordI ago 0 T = 0) := if_pos (.inr (.inl h1))
      clear h1
      go_enter Try.func33, Try.ntmps33
      go_wp2_with fail
      go_ret
      exact ⟨ret_u64 hR.out.symm, by (repeat (first | exact Below.refl _ _ | assumption | refine below_alloc2 ?_ (by first | exact Nat.le_refl _ | omega) _ | refine Below.drew ?_ | refine below_drewN ?_ _ | refine below_push2 ?_ ‹_› (by first | exact Nat.le_refl _ | omega) | refine Below.setCell ?_ (by first | (simp; done) | (simp; omega) | omega) _))⟩
    · have q1 : decide (ago < 0) = false := by simpa using h1
      by_cases h2 : (T.length : Int) ≤ ago
      · have q2 : decide ((T.length : Int) ≤ ago) = true := by simpa using h2
        have hR : Hid (wordI ago 0 T = 0) := if_pos (.inr (.inr h2))
        clear h1 h2
        go_enter Try.func33, Try.ntmps33
        go_wp2_with fail
        go_ret
        exact ⟨ret_u64 hR.out.symm, by (repeat (first | exact Below.refl _ _ | assumption | refine below_alloc2 ?_ (by first | exact Nat.le_refl _ | omega) _ | refine Below.drew ?_ | refine below_drewN ?_ _ | refine below_push2 ?_ ‹_› (by first | exact Nat.le_refl _ | omega) | refine Below.setCell ?_ (by first | (simp; done) | (simp; omega) | omega) _))⟩
      · have q2 : decide ((T.length : Int) ≤ ago) = false := by simpa using h2
        have hR : Hid (wordI ago 0 T = at0 T (T.length - 1 - ago.toNat)) := if_neg (by omega)
        obtain ⟨b, off, rfl, hb, hc⟩ := h.cell (T.length - 1 - ago.toNat) (by omega)
        have y1 : ((T.length : Int) - 1 - ago).toNat = T.length - 1 - ago.toNat := by omega
        have y2 : (0 : Int) ≤ (T.length : Int) - 1 - ago := by omega
        have y3 : (T.length : Int) - 1 - ago < (T.length : Int) := by omega
        clear h1 h2
        go_enter Try.func33, Try.ntmps33
        go_wp2_with fail
        go_ret
        exact ⟨ret_u64 hR.out.symm, by (repeat (first | exact Below.refl _ _ | assumption | refine below_alloc2 ?_ (by first | exact Nat.le_refl _ | omega) _ | refine Below.drew ?_ | refine below_drewN ?_ _ | refine below_push2 ?_ ‹_› (by first | exact Nat.le_refl _ | omega) | refine Below.setCell ?_ (by first | (simp; done) | (simp; omega) | omega) _))⟩
  · have q0 : (raw != 0) = true := bne_zero h0
    have hR : Hid (wordI ago raw T = raw) := if_pos (.inl h0)
    clear h0
    go_enter Try.func33, Try.ntmps33
    go_wp2_with fail
    go_ret
    exact ⟨ret_u64 hR.out.symm, by (repeat (first | exact Below.refl _ _ | assumption | refine below_alloc2 ?_ (by first | exact Nat.le_refl _ | omega) _ | refine Below.drew ?_ | refine below_drewN ?_ _ | refine below_push2 ?_ ‹_› (by first | exact Nat.le_refl _ | omega) | refine Below.setCell ?_ (by first | (simp; done) | (simp; omega) | omega) _))⟩
set_option maxRecDepth 100000 in
set_option maxHeartbeats 1600000 in
theorem like_any (o g : Nat) (a : Option Addr) (c : Nat) (l : List B3) (w : World) (h : ArenaAt w o g l) (hp : Row3 w a l) :
    Calls Try.prog 37 #[.pointer (some ⟨o, 0, none⟩), .slice a l.length c] w fun e w' => e = .returned (.bool true) ∧ Below w.heap.size w w' := by
  have hl := h.len
  have hpos := h.pos
  go_enter Try.func37, Try.ntmps37
  go_wp2_with fail
  go_loopw [18] (fun i wr => ∃ k : Nat, k ≤ l.length ∧ i = .int .i64 k ∧ Below w.heap.size w wr) (fun i _ => l.length - (intOf i).toNat)
  case atStart => exact ⟨0, Nat.zero_le _, rfl, Below.refl _ _⟩
  case round =>
    obtain ⟨k, hk, rfl, hb⟩ := hrel
    by_cases hlt : k < l.length
    · obtain ⟨b, off, rfl, hbl, s0, s1, s2⟩ := row3_cell (RecS.below hp hb) k hlt
      have hlt' : (k : Int) < (l.length : Int) := by omega
      go_wp2_with fail
      refine (state_in _ _ _ k _ (h.below (by (repeat (first | exact Below.refl _ _ | assumption | refine below_alloc2 ?_ (by first | exact Nat.le_refl _ | omega) _ | refine Below.drew ?_ | refine below_drewN ?_ _ | refine below_push2 ?_ ‹_› (by first | exact Nat.le_refl _ | omega) | refine Below.setCell ?_ (by first | (simp; done) | (simp; omega) | omega) _)))) hlt).mono ?_
      rintro e w2 ⟨rfl, hb2⟩
      have N := (Blk.new wr #[.int .i64 (at3 l k).1, .int .u64 (at3 l k).2.1, .int .i64 (at3 l k).2.2] 90).below hb2
      have n0 := N.at 0 rfl
      have n1 := N.at 1 rfl
      go_wp2_with fail
      go_roundw
      case rel => exact ⟨k + 1, by omega, by go_num, by (repeat (first | exact Below.refl _ _ | assumption | refine below_alloc2 ?_ (by first | exact Nat.le_refl _ | omega) _ | refine Below.drew ?_ | refine below_drewN ?_ _ | refine below_push2 ?_ ‹_› (by first | exact Nat.le_refl _ | omega) | refine Below.setCell ?_ (by first | (simp; done) | (simp; omega) | omega) _))⟩
      case measure => simp [intOf]; omega
    · obtain rfl : k = l.length := by omega
      have hA := h.below hb
      go_wp2_with fail
      refine (state_out _ _ _ _ _ hA (inB_mk_no (by omega))).mono ?_
      rintro e w2 ⟨rfl, rfl⟩
      go_wp2_with fail
      refine (state_out _ _ _ _ _ hA (inB_mk_no (by omega))).mono ?_
      rintro e w2 ⟨rfl, rfl⟩
      go_wp2_with fail
      refine (alen_any _ _ _ _ hA).mono ?_
      rintro e w2 ⟨rfl, rfl⟩
      go_wp2_with fail
      refine (aused_any _ _ _ _ hA).mono ?_
      rintro e w3 ⟨rfl, hb3⟩
      have hB3 := below_push2 hb hb3 (Nat.le_refl _)
      go_wp2_with fail
      refine (many_any _ _ _ _ _ (RecS.below hp hB3) hl).mono ?_
      rintro e w4 ⟨rfl, rfl⟩
      go_wp2_with fail
      refine (adrawn_any _ _ _ _ (h.below hB3)).mono ?_
      rintro e w4 ⟨rfl, hb4⟩
      have hB4 := below_push2 hB3 hb4 (Nat.le_refl _)
      go_wp2_with fail
      refine (many_any _ _ _ _ _ (RecS.below hp hB4) hl).mono ?_
      rintro e w5 ⟨rfl, rfl⟩
      go_wp2_with fail
      go_ret
      exact ⟨rfl, hB4⟩
end Go.Proofs.Ytpkiihangfgmlaa.ArP
