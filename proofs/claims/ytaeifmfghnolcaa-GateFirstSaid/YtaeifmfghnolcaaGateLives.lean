/-
  The example of chapter 32 is true.
-/
import Derived.Test.YtaeifmfghnolcaaGateFst
namespace Go.Proofs.Ytaeifmfghnolcaa.GateP
open Go.RowKit RefP
set_option linter.unusedVariables false
set_option linter.unusedSimpArgs false
theorem Holds.of_blk {w : World} {b : Nat} {cs : Array Value} {T : TypeId} (B : Blk w b cs T) (m : Nat) (f : Nat → Value) (e : ∀ i, i < m → cs[i]? = some (f i)) : Holds w (some ⟨b, 0, none⟩) m f :=
  ⟨fun _ => ⟨b, 0, rfl, B.lt, fun i hi => by rw [Nat.zero_add]; exact B.at i (e i hi)⟩⟩
theorem first_ex : firstT [(2, 5), (1, 7), (0, 7)] = 2 := by decide
theorem after_ex1 : afterI [3, 9] = 10 := by decide
theorem after_ex2 : afterI [] = 1 := by decide
set_option maxHeartbeats 1600000 in
theorem lives_any (w : World) : Calls Try.prog 13 #[] w fun e w' => e = .returned (.bool true) ∧ Below w.heap.size w w' := by
  have B := Blk.new w #[.int .i64 2, .int .u64 5, .int .i64 1, .int .u64 7, .int .i64 0, .int .u64 7] 30
  have C : Cands (w.alloc (.cells #[.int .i64 2, .int .u64 5, .int .i64 1, .int .u64 7, .int .i64 0, .int .u64 7] 30)) (some ⟨w.heap.size, 0, none⟩) [(2, 5), (1, 7), (0, 7)] :=
    ⟨Holds.of_blk B _ _ (by
      intro i hi
      simp only [List.length_cons, List.length_nil] at hi
      rcases i with _ | _ | _ | _ | _ | _ | i <;> first | rfl | omega), by simp, by simp⟩
  have e1 := first_ex
  have e2 := after_ex1
  have e3 := after_ex2
  have e4 : firstB [(2, 5), (1, 7), (0, 7)] = true := rfl
  go_enter Try.func13, Try.ntmps13
  go_wp2_with fail
  refine (first_any _ 3 [(2, 5), (1, 7), (0, 7)] _ C).mono ?_
  rintro e w1 ⟨rfl, hb1⟩
  go_wp2_with fail
  have D : U64s (w1.alloc (.cells #[.int .u64 3, .int .u64 9] 23)) (some ⟨w1.heap.size, 0, none⟩) [3, 9] :=
    ⟨Holds.of_blk (Blk.new w1 _ _) _ _ (by
      intro i hi
      simp only [List.length_cons, List.length_nil] at hi
      rcases i with _ | _ | i <;> first | rfl | omega), by simp, by simp⟩
  refine (after_any _ 2 [3, 9] _ D).mono ?_
  rintro e w2 ⟨rfl, rfl⟩
  go_wp2_with fail
  refine (after_any _ 0 [] _ (U64s.nil _ _)).mono ?_
  rintro e w2 ⟨rfl, rfl⟩
  go_wp2_with fail
  go_ret
  exact ⟨rfl, by (repeat (first | exact Below.refl _ _ | assumption | refine below_alloc2 ?_ (by first | exact Nat.le_refl _ | omega) _ | refine Below.drew ?_ | refine below_drewN ?_ _ | refine below_push2 ?_ ‹_› (by first | exact Nat.le_refl _ | omega) | refine Below.setCell ?_ (by first | (simp; done) | (simp; omega) | omega) _))⟩
end Go.Proofs.Ytaeifmfghnolcaa.GateP
