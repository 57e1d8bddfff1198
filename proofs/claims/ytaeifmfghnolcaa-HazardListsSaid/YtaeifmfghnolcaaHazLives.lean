/-
  The example of chapter 27 is true.
-/
import Derived.Test.YtaeifmfghnolcaaHazKeep
namespace Go.Proofs.Ytaeifmfghnolcaa.HazP
open Go.RowKit RefP
set_option linter.unusedVariables false
set_option linter.unusedSimpArgs false

theorem sift_ex1 : siftL [1, 2, 3] [2] true = [2] := by decide
theorem sift_ex2 : siftL [1, 2, 3] [2] false = [1, 3] := by decide
theorem lit_words {w : World} {b : Nat} {cs : Array Value} {T : TypeId} (B : Blk w b cs T) (xs : List Int) (e : ∀ i, i < xs.length → cs[i]? = some (u64F xs i)) (hr : ∀ x ∈ xs, 0 ≤ x ∧ x ≤ 18446744073709551615) (hl : xs.length ≤ 100) : U64s w (some ⟨b, 0, none⟩) xs :=
  ⟨Holds.of_blk' B _ _ e, hr, by omega⟩
set_option maxRecDepth 100000 in
set_option maxHeartbeats 1600000 in
theorem lives_any (w : World) : Calls Try.prog 44 #[] w fun e w' => e = .returned (.bool true) ∧ Below w.heap.size w w' := by
  go_enter Try.func44, Try.ntmps44
  go_wp2_with fail
  have W1 := lit_words ((Blk.new w #[.int .u64 1, .int .u64 2, .int .u64 3] 23).alloc (.cells #[.int .u64 2] 23)) [1, 2, 3] (fun i hi => by rcases i with _ | _ | _ | i <;> first | rfl | (simp at hi; omega)) (by simp) (by simp)
  have W2 := lit_words (Blk.new (w.alloc (.cells #[.int .u64 1, .int .u64 2, .int .u64 3] 23)) #[.int .u64 2] 23) [2] (fun i hi => by rcases i with _ | i <;> first | rfl | (simp at hi; try omega)) (by simp) (by simp)
  simp only [World.size_alloc] at W2
  refine (sift_any _ _ _ _ [1, 2, 3] [2] _ W1 W2 (by simp)).mono ?_
  rintro e w1 ⟨ya, yc, na, nc, he, Y, N, hb1⟩
  rw [sift_ex1, sift_ex2] at he
  rw [sift_ex1] at Y
  rw [sift_ex2] at N
  subst he
  clear W1 W2
  have hB1 : Below w.heap.size w w1 := by (repeat (first | exact Below.refl _ _ | assumption | refine below_alloc2 ?_ (by first | exact Nat.le_refl _ | omega) _ | refine Below.drew ?_ | refine below_drewN ?_ _ | refine below_push2 ?_ ‹_› (by first | exact Nat.le_refl _ | omega) | refine Below.setCell ?_ (by first | (simp; done) | (simp; omega) | omega) _))
  have hs1 := hB1.size
  have UY := Y.words (by simp)
  have UN := N.words (by simp)
  clear Y N hb1
  go_wp2_with fail
  refine (hazNew_yes 1 w1 (by omega) (by omega)).mono ?_
  rintro e w2 ⟨⟨o, rfl, ho, hL⟩, hb2⟩
  have L2 := hL w1.heap.size (Nat.le_refl _)
  have UY2 := UY.below hb2
  have UN2 := UN.below hb2
  clear hL UY UN
  go_wp2_with fail
  have W3 := lit_words (Blk.new w2 #[.int .u64 2] 23) [2] (fun i hi => by rcases i with _ | i <;> first | rfl | (simp at hi; try omega)) (by simp) (by simp)
  have hb23 : Below w2.heap.size w2 (w2.alloc (.cells #[.int .u64 2] 23)) := (Below.refl _ _).alloc (Nat.le_refl _) _
  refine (same_any _ _ _ _ [2] _ (UY2.below hb23) W3).mono ?_
  rintro e w3 ⟨rfl, hb3⟩
  have B3 := below_push2 hb23 hb3 (Nat.le_refl _)
  clear W3 hb23
  go_wp2_with fail
  have W4 := lit_words (Blk.new w3 #[.int .u64 1, .int .u64 3] 23) [1, 3] (fun i hi => by rcases i with _ | _ | i <;> first | rfl | (simp at hi; omega)) (by simp) (by simp)
  have B34 := below_alloc2 B3 (Nat.le_refl _) (.cells #[.int .u64 1, .int .u64 3] 23)
  refine (same_any _ _ _ _ [1, 3] _ (UN2.below B34) W4).mono ?_
  rintro e w4 ⟨rfl, hb4⟩
  have B4 := below_push2 B34 hb4 (Nat.le_refl _)
  clear W4 B34
  go_wp2_with fail
  refine (room_any _ _ _ (by omega) (by omega) (by omega) (by omega)).mono ?_
  rintro e w5 ⟨rfl, rfl⟩
  have hr : roomI 2 5 = 9 := by decide
  have L4 := L2.below B4
  have hz2 := hb2.size
  have hz4 := B4.size
  go_wp2_with fail
  refine (add_yes w4 w1.heap.size o 1 none 0 [] 4 L4 (by simp) (by omega) (by omega)).mono ?_
  rintro e w6 ⟨⟨a6, c6, rfl, L6, _⟩, C6⟩
  go_wp2_with fail
  refine (add_no w6 w1.heap.size o 1 a6 c6 [4] 5 L6 (by simp)).mono ?_
  rintro e w7 ⟨rfl, hb7⟩
  go_wp2_with fail
  have hf := full_any w7 w1.heap.size o 1 a6 c6 [4] (L6.below hb7)
  rw [show decide ((1 : Int) ≤ (([4] : List Int).length : Int)) = true by decide] at hf
  refine hf.mono ?_
  rintro e w8 ⟨rfl, hb8⟩
  go_wp2_with fail
  go_ret
  refine ⟨rfl, ?_⟩
  have E4 : Below w.heap.size w w4 := below_push2 (below_push2 hB1 hb2 (Nat.le_refl _)) B4 (Nat.le_refl _)
  have E6 : Below w.heap.size w w6 := C6.below E4 (Nat.le_refl _) (by omega) (by simp)
  exact below_push2 (below_push2 E6 hb7 (Nat.le_refl _)) hb8 (Nat.le_refl _)
end Go.Proofs.Ytaeifmfghnolcaa.HazP
