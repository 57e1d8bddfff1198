/-
  RetireCosts: how many accesses retiring has at most is as the document says; a task that is none, or of no memory, has none. For every number of threads and of words; no condition.
-/
import Derived.Test.YtchkiacmiljopaaLift
import Derived.Test.YtchkiacmiljopaaRetZ
namespace Go.Proofs.Ytchkiacmiljopaa.retireCosts
open Go.ChangeShapes Go.WideShapes Go.ChangeAt Go.RowKit RefP CellP HazP MemP
set_option linter.unusedVariables false
set_option linter.unusedSimpArgs false
theorem zero_rt (w : World) : NoRt (w.alloc (.cells (rtZ none none (.slice none 0 0) 0 0 (.slice none 0 0) (.slice none 0 0)) 77)) (some ⟨w.heap.size, 0, none⟩) := .inr ⟨_, _, _, _, _, _, _, rfl, Blk.new w _ _⟩
set_option maxRecDepth 100000 in
set_option maxHeartbeats 6400000 in
theorem walk (t n : Int) (w : World) (a0 : -9223372036854775808 ≤ t ∧ t ≤ 9223372036854775807) (m0 : -9223372036854775808 ≤ n ∧ n ≤ 9223372036854775807) :
    Calls Try.prog 5 #[.int .i64 t, .int .i64 n] w fun e w' => e = .returned (.bool true) ∧ Below w.heap.size w w' := by
  by_cases h1 : 1 ≤ t
  · have q1 : decide (1 ≤ t) = true := by simpa using h1
    by_cases h2 : t ≤ 16
    · have q2 : decide (t ≤ 16) = true := by simpa using h2
      by_cases h3 : 1 ≤ n
      · have q3 : decide (1 ≤ n) = true := by simpa using h3
        have hR0 : rcostI t n = if n ≤ 4611686018427387904 / (4 * t + 1024) then n * (4 * t + 1024) else 4611686018427387904 := if_pos (by omega)
        obtain ⟨E, hE⟩ : ∃ E, E = 4 * t + 1024 := ⟨_, rfl⟩
        rw [← hE] at hR0
        have C := costQ E n (by omega)
        generalize 4611686018427387904 / E = Q at C hR0
        have hw1 : IntKind.i64.wrap (4 * t) = 4 * t := by rw [IntKind.wrap_i64]; omega
        have hw2 : IntKind.i64.wrap (4 * t + 1024) = E := by rw [IntKind.wrap_i64]; omega
        have hE0 : ¬ (E = 0) := by have := C.e; omega
        have hq := C.t
        have hwq : IntKind.i64.wrap Q = Q := by have := C.q; rw [IntKind.wrap_i64]; omega
        by_cases h4 : n ≤ Q
        · have q4 : decide (n ≤ Q) = true := by simpa using h4
          have hR : Hid (rcostI t n = n * E) := Lib.hid (by rw [hR0, if_pos h4])
          have hwm : IntKind.i64.wrap (n * E) = n * E := by
            have k1 := C.m h4
            have k0 : 0 ≤ n * E := Int.mul_nonneg (by omega) (by have := C.e; omega)
            generalize n * E = z at k1 k0
            rw [IntKind.wrap_i64]; omega
          clear h1 h2 h3 h4 hR0 C hE
          go_enter Try.func5, Try.ntmps5
          go_wp2_with fail
          have NP := zero_rt w
          have hB : Below w.heap.size w (w.alloc (.cells (rtZ none none (.slice none 0 0) 0 0 (.slice none 0 0) (.slice none 0 0)) 77)) := by (repeat (first | exact Below.refl _ _ | assumption | refine below_alloc2 ?_ (by first | exact Nat.le_refl _ | omega) _ | refine Below.drew ?_ | refine below_drewN ?_ _ | refine below_push2 ?_ ‹_› (by first | exact Nat.le_refl _ | omega) | refine Below.setCell ?_ (by first | (simp; done) | (simp; omega) | omega) _))
          generalize w.alloc (.cells (rtZ none none (.slice none 0 0) 0 0 (.slice none 0 0) (.slice none 0 0)) 77) = w1 at NP hB ⊢
          refine (rtTell_none none _ (.inl rfl)).mono ?_
          rintro e wx ⟨rfl, hbx⟩
          replace NP := NP.below hbx
          replace hB := below_push2 hB hbx (Nat.le_refl _)
          clear hbx
          go_wp2_with fail
          refine (rtTell_none _ _ NP).mono ?_
          rintro e wx ⟨rfl, hbx⟩
          replace NP := NP.below hbx
          replace hB := below_push2 hB hbx (Nat.le_refl _)
          clear hbx
          go_wp2_with fail
          refine (rtNext_none none _ (.inl rfl)).mono ?_
          rintro e w2 ⟨rfl, hbx⟩
          replace NP := (NP.below hbx).below ((Below.refl _ w2).alloc (Nat.le_refl _) (.cells (accY 0 0 0 0) 50))
          replace hB := below_alloc2 (below_push2 hB hbx (Nat.le_refl _)) (Nat.le_refl _) (.cells (accY 0 0 0 0) 50)
          clear hbx
          generalize hW : w2.alloc (.cells (accY 0 0 0 0) 50) = w3 at NP hB
          replace hW := Lib.hid hW
          go_wp2_with (refine wpList_store_row rfl 50 _ _ rfl _ _ rfl rfl 50 _ (Blk.new w2 _ _).h (by kernel_rfl) (by rfl) (by kernel_rfl) ?_; rw [World.setRow_alloc_new, hW.out])
          clear hW
          refine (rtNext_none _ _ NP).mono ?_
          rintro e w4 ⟨rfl, hbx⟩
          replace NP := (NP.below hbx).below ((Below.refl _ w4).alloc (Nat.le_refl _) (.cells (accY 0 0 0 0) 50))
          replace hB := below_alloc2 (below_push2 hB hbx (Nat.le_refl _)) (Nat.le_refl _) (.cells (accY 0 0 0 0) 50)
          clear hbx
          generalize hW : w4.alloc (.cells (accY 0 0 0 0) 50) = w5 at NP hB
          replace hW := Lib.hid hW
          go_wp2_with (refine wpList_store_row rfl 50 _ _ rfl _ _ rfl rfl 50 _ (Blk.new w4 _ _).h (by kernel_rfl) (by rfl) (by kernel_rfl) ?_; rw [World.setRow_alloc_new, hW.out])
          clear hW
          refine (hazNew_yes 1 _ (by omega) (by omega)).mono ?_
          rintro e w6 ⟨⟨lo, rfl, hlo, hL⟩, hb6⟩
          clear hL hlo NP
          replace hB := below_push2 hB hb6 (Nat.le_refl _)
          clear hb6
          go_wp2_with fail
          have hl7 : Below w6.heap.size w6 (w6.alloc (.cells #[.int .u64 16384] 35)) := (Below.refl _ w6).alloc (Nat.le_refl _) _
          have HX : U64s (w6.alloc (.cells #[.int .u64 16384] 35)) (some ⟨w6.heap.size, 0, none⟩) [16384] :=
            ⟨Holds.of_blk' (Blk.new w6 #[.int .u64 16384] 35) _ _ (fun i hi => by rcases i with _ | i <;> first | rfl | (simp at hi; try omega)), by simp, by simp⟩
          replace hB := below_push2 hB hl7 (Nat.le_refl _)
          generalize w6.alloc (.cells #[.int .u64 16384] 35) = w7 at HX hB ⊢
          clear hl7
          refine (rtNew_raw none (some ⟨lo, 0, none⟩) (some ⟨w6.heap.size, 0, none⟩) 1 [16384] w7 HX (by simp)).mono ?_
          rintro e w8 ⟨rfl, BT, _, hb8, _⟩
          have NP : NoRt w8 (some ⟨w7.heap.size + 1, 0, none⟩) := .inr ⟨_, _, _, _, _, _, _, rfl, BT⟩
          replace hB := below_push2 hB hb8 (Nat.le_refl _)
          clear BT hb8 HX
          go_wp2_with fail
          refine (rtNext_none _ _ NP).mono ?_
          rintro e w9 ⟨rfl, hbx⟩
          replace NP := (NP.below hbx).below ((Below.refl _ w9).alloc (Nat.le_refl _) (.cells (accY 0 0 0 0) 50))
          replace hB := below_alloc2 (below_push2 hB hbx (Nat.le_refl _)) (Nat.le_refl _) (.cells (accY 0 0 0 0) 50)
          clear hbx
          generalize hW : w9.alloc (.cells (accY 0 0 0 0) 50) = w10 at NP hB
          replace hW := Lib.hid hW
          go_wp2_with (refine wpList_store_row rfl 50 _ _ rfl _ _ rfl rfl 50 _ (Blk.new w9 _ _).h (by kernel_rfl) (by rfl) (by kernel_rfl) ?_; rw [World.setRow_alloc_new, hW.out])
          clear hW
          refine (rtCost_any t n _).mono ?_
          rw [hR.out]
          rintro e wx ⟨rfl, rfl⟩
          go_wp2_with fail
          refine (rtLives_any _).mono ?_
          rintro e w15 ⟨rfl, hb15⟩
          go_wp2_with fail
          go_ret
          exact ⟨rfl, below_push2 hB hb15 (Nat.le_refl _)⟩
        · have q4 : decide (n ≤ Q) = false := by simp; omega
          have hR : Hid (rcostI t n = 4611686018427387904) := Lib.hid (by rw [hR0, if_neg h4])
          clear h1 h2 h3 h4 hR0 C hE
          go_enter Try.func5, Try.ntmps5
          go_wp2_with fail
          have NP := zero_rt w
          have hB : Below w.heap.size w (w.alloc (.cells (rtZ none none (.slice none 0 0) 0 0 (.slice none 0 0) (.slice none 0 0)) 77)) := by (repeat (first | exact Below.refl _ _ | assumption | refine below_alloc2 ?_ (by first | exact Nat.le_refl _ | omega) _ | refine Below.drew ?_ | refine below_drewN ?_ _ | refine below_push2 ?_ ‹_› (by first | exact Nat.le_refl _ | omega) | refine Below.setCell ?_ (by first | (simp; done) | (simp; omega) | omega) _))
          generalize w.alloc (.cells (rtZ none none (.slice none 0 0) 0 0 (.slice none 0 0) (.slice none 0 0)) 77) = w1 at NP hB ⊢
          refine (rtTell_none none _ (.inl rfl)).mono ?_
          rintro e wx ⟨rfl, hbx⟩
          replace NP := NP.below hbx
          replace hB := below_push2 hB hbx (Nat.le_refl _)
          clear hbx
          go_wp2_with fail
          refine (rtTell_none _ _ NP).mono ?_
          rintro e wx ⟨rfl, hbx⟩
          replace NP := NP.below hbx
          replace hB := below_push2 hB hbx (Nat.le_refl _)
          clear hbx
          go_wp2_with fail
          refine (rtNext_none none _ (.inl rfl)).mono ?_
          rintro e w2 ⟨rfl, hbx⟩
          replace NP := (NP.below hbx).below ((Below.refl _ w2).alloc (Nat.le_refl _) (.cells (accY 0 0 0 0) 50))
          replace hB := below_alloc2 (below_push2 hB hbx (Nat.le_refl _)) (Nat.le_refl _) (.cells (accY 0 0 0 0) 50)
          clear hbx
          generalize hW : w2.alloc (.cells (accY 0 0 0 0) 50) = w3 at NP hB
          replace hW := Lib.hid hW
          go_wp2_with (refine wpList_store_row rfl 50 _ _ rfl _ _ rfl rfl 50 _ (Blk.new w2 _ _).h (by kernel_rfl) (by rfl) (by kernel_rfl) ?_; rw [World.setRow_alloc_new, hW.out])
          clear hW
          refine (rtNext_none _ _ NP).mono ?_
          rintro e w4 ⟨rfl, hbx⟩
          replace NP := (NP.below hbx).below ((Below.refl _ w4).alloc (Nat.le_refl _) (.cells (accY 0 0 0 0) 50))
          replace hB := below_alloc2 (below_push2 hB hbx (Nat.le_refl _)) (Nat.le_refl _) (.cells (accY 0 0 0 0) 50)
          clear hbx
          generalize hW : w4.alloc (.cells (accY 0 0 0 0) 50) = w5 at NP hB
          replace hW := Lib.hid hW
          go_wp2_with (refine wpList_store_row rfl 50 _ _ rfl _ _ rfl rfl 50 _ (Blk.new w4 _ _).h (by kernel_rfl) (by rfl) (by kernel_rfl) ?_; rw [World.setRow_alloc_new, hW.out])
          clear hW
          refine (hazNew_yes 1 _ (by omega) (by omega)).mono ?_
          rintro e w6 ⟨⟨lo, rfl, hlo, hL⟩, hb6⟩
          clear hL hlo NP
          replace hB := below_push2 hB hb6 (Nat.le_refl _)
          clear hb6
          go_wp2_with fail
          have hl7 : Below w6.heap.size w6 (w6.alloc (.cells #[.int .u64 16384] 35)) := (Below.refl _ w6).alloc (Nat.le_refl _) _
          have HX : U64s (w6.alloc (.cells #[.int .u64 16384] 35)) (some ⟨w6.heap.size, 0, none⟩) [16384] :=
            ⟨Holds.of_blk' (Blk.new w6 #[.int .u64 16384] 35) _ _ (fun i hi => by rcases i with _ | i <;> first | rfl | (simp at hi; try omega)), by simp, by simp⟩
          replace hB := below_push2 hB hl7 (Nat.le_refl _)
          generalize w6.alloc (.cells #[.int .u64 16384] 35) = w7 at HX hB ⊢
          clear hl7
          refine (rtNew_raw none (some ⟨lo, 0, none⟩) (some ⟨w6.heap.size, 0, none⟩) 1 [16384] w7 HX (by simp)).mono ?_
          rintro e w8 ⟨rfl, BT, _, hb8, _⟩
          have NP : NoRt w8 (some ⟨w7.heap.size + 1, 0, none⟩) := .inr ⟨_, _, _, _, _, _, _, rfl, BT⟩
          replace hB := below_push2 hB hb8 (Nat.le_refl _)
          clear BT hb8 HX
          go_wp2_with fail
          refine (rtNext_none _ _ NP).mono ?_
          rintro e w9 ⟨rfl, hbx⟩
          replace NP := (NP.below hbx).below ((Below.refl _ w9).alloc (Nat.le_refl _) (.cells (accY 0 0 0 0) 50))
          replace hB := below_alloc2 (below_push2 hB hbx (Nat.le_refl _)) (Nat.le_refl _) (.cells (accY 0 0 0 0) 50)
          clear hbx
          generalize hW : w9.alloc (.cells (accY 0 0 0 0) 50) = w10 at NP hB
          replace hW := Lib.hid hW
          go_wp2_with (refine wpList_store_row rfl 50 _ _ rfl _ _ rfl rfl 50 _ (Blk.new w9 _ _).h (by kernel_rfl) (by rfl) (by kernel_rfl) ?_; rw [World.setRow_alloc_new, hW.out])
          clear hW
          refine (rtCost_any t n _).mono ?_
          rw [hR.out]
          rintro e wx ⟨rfl, rfl⟩
          go_wp2_with fail
          refine (rtLives_any _).mono ?_
          rintro e w15 ⟨rfl, hb15⟩
          go_wp2_with fail
          go_ret
          exact ⟨rfl, below_push2 hB hb15 (Nat.le_refl _)⟩
      · have q3 : decide (1 ≤ n) = false := by simpa using h3
        have hR : Hid (rcostI t n = 0) := if_neg (by omega)
        clear h1 h2 h3
        go_enter Try.func5, Try.ntmps5
        go_wp2_with fail
        have NP := zero_rt w
        have hB : Below w.heap.size w (w.alloc (.cells (rtZ none none (.slice none 0 0) 0 0 (.slice none 0 0) (.slice none 0 0)) 77)) := by (repeat (first | exact Below.refl _ _ | assumption | refine below_alloc2 ?_ (by first | exact Nat.le_refl _ | omega) _ | refine Below.drew ?_ | refine below_drewN ?_ _ | refine below_push2 ?_ ‹_› (by first | exact Nat.le_refl _ | omega) | refine Below.setCell ?_ (by first | (simp; done) | (simp; omega) | omega) _))
        generalize w.alloc (.cells (rtZ none none (.slice none 0 0) 0 0 (.slice none 0 0) (.slice none 0 0)) 77) = w1 at NP hB ⊢
        refine (rtTell_none none _ (.inl rfl)).mono ?_
        rintro e wx ⟨rfl, hbx⟩
        replace NP := NP.below hbx
        replace hB := below_push2 hB hbx (Nat.le_refl _)
        clear hbx
        go_wp2_with fail
        refine (rtTell_none _ _ NP).mono ?_
        rintro e wx ⟨rfl, hbx⟩
        replace NP := NP.below hbx
        replace hB := below_push2 hB hbx (Nat.le_refl _)
        clear hbx
        go_wp2_with fail
        refine (rtNext_none none _ (.inl rfl)).mono ?_
        rintro e w2 ⟨rfl, hbx⟩
        replace NP := (NP.below hbx).below ((Below.refl _ w2).alloc (Nat.le_refl _) (.cells (accY 0 0 0 0) 50))
        replace hB := below_alloc2 (below_push2 hB hbx (Nat.le_refl _)) (Nat.le_refl _) (.cells (accY 0 0 0 0) 50)
        clear hbx
        generalize hW : w2.alloc (.cells (accY 0 0 0 0) 50) = w3 at NP hB
        replace hW := Lib.hid hW
        go_wp2_with (refine wpList_store_row rfl 50 _ _ rfl _ _ rfl rfl 50 _ (Blk.new w2 _ _).h (by kernel_rfl) (by rfl) (by kernel_rfl) ?_; rw [World.setRow_alloc_new, hW.out])
        clear hW
        refine (rtNext_none _ _ NP).mono ?_
        rintro e w4 ⟨rfl, hbx⟩
        replace NP := (NP.below hbx).below ((Below.refl _ w4).alloc (Nat.le_refl _) (.cells (accY 0 0 0 0) 50))
        replace hB := below_alloc2 (below_push2 hB hbx (Nat.le_refl _)) (Nat.le_refl _) (.cells (accY 0 0 0 0) 50)
        clear hbx
        generalize hW : w4.alloc (.cells (accY 0 0 0 0) 50) = w5 at NP hB
        replace hW := Lib.hid hW
        go_wp2_with (refine wpList_store_row rfl 50 _ _ rfl _ _ rfl rfl 50 _ (Blk.new w4 _ _).h (by kernel_rfl) (by rfl) (by kernel_rfl) ?_; rw [World.setRow_alloc_new, hW.out])
        clear hW
        refine (hazNew_yes 1 _ (by omega) (by omega)).mono ?_
        rintro e w6 ⟨⟨lo, rfl, hlo, hL⟩, hb6⟩
        clear hL hlo NP
        replace hB := below_push2 hB hb6 (Nat.le_refl _)
        clear hb6
        go_wp2_with fail
        have hl7 : Below w6.heap.size w6 (w6.alloc (.cells #[.int .u64 16384] 35)) := (Below.refl _ w6).alloc (Nat.le_refl _) _
        have HX : U64s (w6.alloc (.cells #[.int .u64 16384] 35)) (some ⟨w6.heap.size, 0, none⟩) [16384] :=
          ⟨Holds.of_blk' (Blk.new w6 #[.int .u64 16384] 35) _ _ (fun i hi => by rcases i with _ | i <;> first | rfl | (simp at hi; try omega)), by simp, by simp⟩
        replace hB := below_push2 hB hl7 (Nat.le_refl _)
        generalize w6.alloc (.cells #[.int .u64 16384] 35) = w7 at HX hB ⊢
        clear hl7
        refine (rtNew_raw none (some ⟨lo, 0, none⟩) (some ⟨w6.heap.size, 0, none⟩) 1 [16384] w7 HX (by simp)).mono ?_
        rintro e w8 ⟨rfl, BT, _, hb8, _⟩
        have NP : NoRt w8 (some ⟨w7.heap.size + 1, 0, none⟩) := .inr ⟨_, _, _, _, _, _, _, rfl, BT⟩
        replace hB := below_push2 hB hb8 (Nat.le_refl _)
        clear BT hb8 HX
        go_wp2_with fail
        refine (rtNext_none _ _ NP).mono ?_
        rintro e w9 ⟨rfl, hbx⟩
        replace NP := (NP.below hbx).below ((Below.refl _ w9).alloc (Nat.le_refl _) (.cells (accY 0 0 0 0) 50))
        replace hB := below_alloc2 (below_push2 hB hbx (Nat.le_refl _)) (Nat.le_refl _) (.cells (accY 0 0 0 0) 50)
        clear hbx
        generalize hW : w9.alloc (.cells (accY 0 0 0 0) 50) = w10 at NP hB
        replace hW := Lib.hid hW
        go_wp2_with (refine wpList_store_row rfl 50 _ _ rfl _ _ rfl rfl 50 _ (Blk.new w9 _ _).h (by kernel_rfl) (by rfl) (by kernel_rfl) ?_; rw [World.setRow_alloc_new, hW.out])
        clear hW
        refine (rtCost_any t n _).mono ?_
        rw [hR.out]
        rintro e wx ⟨rfl, rfl⟩
        go_wp2_with fail
        refine (rtLives_any _).mono ?_
        rintro e w15 ⟨rfl, hb15⟩
        go_wp2_with fail
        go_ret
        exact ⟨rfl, below_push2 hB hb15 (Nat.le_refl _)⟩
    · have q2 : decide (t ≤ 16) = false := by simpa using h2
      have hR : Hid (rcostI t n = 0) := if_neg (by omega)
      clear h1 h2
      go_enter Try.func5, Try.ntmps5
      go_wp2_with fail
      have NP := zero_rt w
      have hB : Below w.heap.size w (w.alloc (.cells (rtZ none none (.slice none 0 0) 0 0 (.slice none 0 0) (.slice none 0 0)) 77)) := by (repeat (first | exact Below.refl _ _ | assumption | refine below_alloc2 ?_ (by first | exact Nat.le_refl _ | omega) _ | refine Below.drew ?_ | refine below_drewN ?_ _ | refine below_push2 ?_ ‹_› (by first | exact Nat.le_refl _ | omega) | refine Below.setCell ?_ (by first | (simp; done) | (simp; omega) | omega) _))
      generalize w.alloc (.cells (rtZ none none (.slice none 0 0) 0 0 (.slice none 0 0) (.slice none 0 0)) 77) = w1 at NP hB ⊢
      refine (rtTell_none none _ (.inl rfl)).mono ?_
      rintro e wx ⟨rfl, hbx⟩
      replace NP := NP.below hbx
      replace hB := below_push2 hB hbx (Nat.le_refl _)
      clear hbx
      go_wp2_with fail
      refine (rtTell_none _ _ NP).mono ?_
      rintro e wx ⟨rfl, hbx⟩
      replace NP := NP.below hbx
      replace hB := below_push2 hB hbx (Nat.le_refl _)
      clear hbx
      go_wp2_with fail
      refine (rtNext_none none _ (.inl rfl)).mono ?_
      rintro e w2 ⟨rfl, hbx⟩
      replace NP := (NP.below hbx).below ((Below.refl _ w2).alloc (Nat.le_refl _) (.cells (accY 0 0 0 0) 50))
      replace hB := below_alloc2 (below_push2 hB hbx (Nat.le_refl _)) (Nat.le_refl _) (.cells (accY 0 0 0 0) 50)
      clear hbx
      generalize hW : w2.alloc (.cells (accY 0 0 0 0) 50) = w3 at NP hB
      replace hW := Lib.hid hW
      go_wp2_with (refine wpList_store_row rfl 50 _ _ rfl _ _ rfl rfl 50 _ (Blk.new w2 _ _).h (by kernel_rfl) (by rfl) (by kernel_rfl) ?_; rw [World.setRow_alloc_new, hW.out])
      clear hW
      refine (rtNext_none _ _ NP).mono ?_
      rintro e w4 ⟨rfl, hbx⟩
      replace NP := (NP.below hbx).below ((Below.refl _ w4).alloc (Nat.le_refl _) (.cells (accY 0 0 0 0) 50))
      replace hB := below_alloc2 (below_push2 hB hbx (Nat.le_refl _)) (Nat.le_refl _) (.cells (accY 0 0 0 0) 50)
      clear hbx
      generalize hW : w4.alloc (.cells (accY 0 0 0 0) 50) = w5 at NP hB
      replace hW := Lib.hid hW
      go_wp2_with (refine wpList_store_row rfl 50 _ _ rfl _ _ rfl rfl 50 _ (Blk.new w4 _ _).h (by kernel_rfl) (by rfl) (by kernel_rfl) ?_; rw [World.setRow_alloc_new, hW.out])
      clear hW
      refine (hazNew_yes 1 _ (by omega) (by omega)).mono ?_
      rintro e w6 ⟨⟨lo, rfl, hlo, hL⟩, hb6⟩
      clear hL hlo NP
      replace hB := below_push2 hB hb6 (Nat.le_refl _)
      clear hb6
      go_wp2_with fail
      have hl7 : Below w6.heap.size w6 (w6.alloc (.cells #[.int .u64 16384] 35)) := (Below.refl _ w6).alloc (Nat.le_refl _) _
      have HX : U64s (w6.alloc (.cells #[.int .u64 16384] 35)) (some ⟨w6.heap.size, 0, none⟩) [16384] :=
        ⟨Holds.of_blk' (Blk.new w6 #[.int .u64 16384] 35) _ _ (fun i hi => by rcases i with _ | i <;> first | rfl | (simp at hi; try omega)), by simp, by simp⟩
      replace hB := below_push2 hB hl7 (Nat.le_refl _)
      generalize w6.alloc (.cells #[.int .u64 16384] 35) = w7 at HX hB ⊢
      clear hl7
      refine (rtNew_raw none (some ⟨lo, 0, none⟩) (some ⟨w6.heap.size, 0, none⟩) 1 [16384] w7 HX (by simp)).mono ?_
      rintro e w8 ⟨rfl, BT, _, hb8, _⟩
      have NP : NoRt w8 (some ⟨w7.heap.size + 1, 0, none⟩) := .inr ⟨_, _, _, _, _, _, _, rfl, BT⟩
      replace hB := below_push2 hB hb8 (Nat.le_refl _)
      clear BT hb8 HX
      go_wp2_with fail
      refine (rtNext_none _ _ NP).mono ?_
      rintro e w9 ⟨rfl, hbx⟩
      replace NP := (NP.below hbx).below ((Below.refl _ w9).alloc (Nat.le_refl _) (.cells (accY 0 0 0 0) 50))
      replace hB := below_alloc2 (below_push2 hB hbx (Nat.le_refl _)) (Nat.le_refl _) (.cells (accY 0 0 0 0) 50)
      clear hbx
      generalize hW : w9.alloc (.cells (accY 0 0 0 0) 50) = w10 at NP hB
      replace hW := Lib.hid hW
      go_wp2_with (refine wpList_store_row rfl 50 _ _ rfl _ _ rfl rfl 50 _ (Blk.new w9 _ _).h (by kernel_rfl) (by rfl) (by kernel_rfl) ?_; rw [World.setRow_alloc_new, hW.out])
      clear hW
      refine (rtCost_any t n _).mono ?_
      rw [hR.out]
      rintro e wx ⟨rfl, rfl⟩
      go_wp2_with fail
      refine (rtLives_any _).mono ?_
      rintro e w15 ⟨rfl, hb15⟩
      go_wp2_with fail
      go_ret
      exact ⟨rfl, below_push2 hB hb15 (Nat.le_refl _)⟩
  · have q1 : decide (1 ≤ t) = false := by simpa using h1
    have hR : Hid (rcostI t n = 0) := if_neg (by omega)
    clear h1
    go_enter Try.func5, Try.ntmps5
    go_wp2_with fail
    have NP := zero_rt w
    have hB : Below w.heap.size w (w.alloc (.cells (rtZ none none (.slice none 0 0) 0 0 (.slice none 0 0) (.slice none 0 0)) 77)) := by (repeat (first | exact Below.refl _ _ | assumption | refine below_alloc2 ?_ (by first | exact Nat.le_refl _ | omega) _ | refine Below.drew ?_ | refine below_drewN ?_ _ | refine below_push2 ?_ ‹_› (by first | exact Nat.le_refl _ | omega) | refine Below.setCell ?_ (by first | (simp; done) | (simp; omega) | omega) _))
    generalize w.alloc (.cells (rtZ none none (.slice none 0 0) 0 0 (.slice none 0 0) (.slice none 0 0)) 77) = w1 at NP hB ⊢
    refine (rtTell_none none _ (.inl rfl)).mono ?_
    rintro e wx ⟨rfl, hbx⟩
    replace NP := NP.below hbx
    replace hB := below_push2 hB hbx (Nat.le_refl _)
    clear hbx
    go_wp2_with fail
    refine (rtTell_none _ _ NP).mono ?_
    rintro e wx ⟨rfl, hbx⟩
    replace NP := NP.below hbx
    replace hB := below_push2 hB hbx (Nat.le_refl _)
    clear hbx
    go_wp2_with fail
    refine (rtNext_none none _ (.inl rfl)).mono ?_
    rintro e w2 ⟨rfl, hbx⟩
    replace NP := (NP.below hbx).below ((Below.refl _ w2).alloc (Nat.le_refl _) (.cells (accY 0 0 0 0) 50))
    replace hB := below_alloc2 (below_push2 hB hbx (Nat.le_refl _)) (Nat.le_refl _) (.cells (accY 0 0 0 0) 50)
    clear hbx
    generalize hW : w2.alloc (.cells (accY 0 0 0 0) 50) = w3 at NP hB
    replace hW := Lib.hid hW
    go_wp2_with (refine wpList_store_row rfl 50 _ _ rfl _ _ rfl rfl 50 _ (Blk.new w2 _ _).h (by kernel_rfl) (by rfl) (by kernel_rfl) ?_; rw [World.setRow_alloc_new, hW.out])
    clear hW
    refine (rtNext_none _ _ NP).mono ?_
    rintro e w4 ⟨rfl, hbx⟩
    replace NP := (NP.below hbx).below ((Below.refl _ w4).alloc (Nat.le_refl _) (.cells (accY 0 0 0 0) 50))
    replace hB := below_alloc2 (below_push2 hB hbx (Nat.le_refl _)) (Nat.le_refl _) (.cells (accY 0 0 0 0) 50)
    clear hbx
    generalize hW : w4.alloc (.cells (accY 0 0 0 0) 50) = w5 at NP hB
    replace hW := Lib.hid hW
    go_wp2_with (refine wpList_store_row rfl 50 _ _ rfl _ _ rfl rfl 50 _ (Blk.new w4 _ _).h (by kernel_rfl) (by rfl) (by kernel_rfl) ?_; rw [World.setRow_alloc_new, hW.out])
    clear hW
    refine (hazNew_yes 1 _ (by omega) (by omega)).mono ?_
    rintro e w6 ⟨⟨lo, rfl, hlo, hL⟩, hb6⟩
    clear hL hlo NP
    replace hB := below_push2 hB hb6 (Nat.le_refl _)
    clear hb6
    go_wp2_with fail
    have hl7 : Below w6.heap.size w6 (w6.alloc (.cells #[.int .u64 16384] 35)) := (Below.refl _ w6).alloc (Nat.le_refl _) _
    have HX : U64s (w6.alloc (.cells #[.int .u64 16384] 35)) (some ⟨w6.heap.size, 0, none⟩) [16384] :=
      ⟨Holds.of_blk' (Blk.new w6 #[.int .u64 16384] 35) _ _ (fun i hi => by rcases i with _ | i <;> first | rfl | (simp at hi; try omega)), by simp, by simp⟩
    replace hB := below_push2 hB hl7 (Nat.le_refl _)
    generalize w6.alloc (.cells #[.int .u64 16384] 35) = w7 at HX hB ⊢
    clear hl7
    refine (rtNew_raw none (some ⟨lo, 0, none⟩) (some ⟨w6.heap.size, 0, none⟩) 1 [16384] w7 HX (by simp)).mono ?_
    rintro e w8 ⟨rfl, BT, _, hb8, _⟩
    have NP : NoRt w8 (some ⟨w7.heap.size + 1, 0, none⟩) := .inr ⟨_, _, _, _, _, _, _, rfl, BT⟩
    replace hB := below_push2 hB hb8 (Nat.le_refl _)
    clear BT hb8 HX
    go_wp2_with fail
    refine (rtNext_none _ _ NP).mono ?_
    rintro e w9 ⟨rfl, hbx⟩
    replace NP := (NP.below hbx).below ((Below.refl _ w9).alloc (Nat.le_refl _) (.cells (accY 0 0 0 0) 50))
    replace hB := below_alloc2 (below_push2 hB hbx (Nat.le_refl _)) (Nat.le_refl _) (.cells (accY 0 0 0 0) 50)
    clear hbx
    generalize hW : w9.alloc (.cells (accY 0 0 0 0) 50) = w10 at NP hB
    replace hW := Lib.hid hW
    go_wp2_with (refine wpList_store_row rfl 50 _ _ rfl _ _ rfl rfl 50 _ (Blk.new w9 _ _).h (by kernel_rfl) (by rfl) (by kernel_rfl) ?_; rw [World.setRow_alloc_new, hW.out])
    clear hW
    refine (rtCost_any t n _).mono ?_
    rw [hR.out]
    rintro e wx ⟨rfl, rfl⟩
    go_wp2_with fail
    refine (rtLives_any _).mono ?_
    rintro e w15 ⟨rfl, hb15⟩
    go_wp2_with fail
    go_ret
    exact ⟨rfl, below_push2 hB hb15 (Nat.le_refl _)⟩

set_option maxRecDepth 100000 in
theorem contract (H : Type) (enc : TypeId × Value → H) (W : World) (base : Nat) (args : Array Value) (ds : List (DataW H)) (p : List MemPlace)
    (hval : ∀ (j : Nat) t v, Try.f5.params[j]? = some t → args[j]? = some v → Value.okWide Try.prog W .any base t v)
    (hA : DataW.TrodAll enc Try.prog W 0 (fun _ => true) true Try.f5.params.toList args.toList ds p) :
    Calls Try.prog 5 args W fun e W' => e = .returned (.bool true) ∧ Below W.heap.size W W' := by
  rw [Try.params5] at hA hval
  obtain ⟨v0, vs0, d0, ds0, p0, q0, hargs, rfl, rfl, h0, r0⟩ := trodAll_cons hA
  obtain ⟨v1, vs1, d1, ds1, p1, q1, rfl, rfl, rfl, h1, r1⟩ := trodAll_cons r0
  obtain ⟨rfl, rfl, rfl⟩ := trodAll_nil r1
  obtain rfl : args = #[v0, v1] := by cases args; simp_all
  obtain ⟨a0, rfl, w0⟩ := Lift.int_of Try.underlying3 (hval 0 3 v0 rfl rfl) h0
  obtain ⟨a1, rfl, w1⟩ := Lift.int_of Try.underlying3 (hval 1 3 v1 rfl rfl) h1
  exact walk a0 a1 W (Lift.i64_range w0) (Lift.i64_range w1)

/-! THE ROW's STEP -/
set_option maxRecDepth 100000 in
theorem lifted (os : Os) (started : os.Started) (H : Type) (enc : TypeId × Value → H) :
    ReturnsInHanded {} Try.checked os 5 .any (Rows.retireCostsSpec.pre6 enc Try.prog Try.f5 Rows.retireCostsRow.domain false) (Rows.retireCostsSpec.post enc Try.prog Try.f5 false true false false) := by
  refine returnsInHanded_of_change (C := Try.checked) Lift.own started (by kernel_rfl) Try.func5
    (ChangeSpec.witness6 (enc := enc) (C := Try.checked) false ⟨#[], #[.int .i64 0, .int .i64 0], []⟩ 8 (by kernel_rfl) (by kernel_rfl) (by kernel_rfl) (by kernel_rfl)) ?_
  intro W base args ds gs before hval0 hW hcnd _
  have hval : ∀ (j : Nat) t v, Try.f5.params[j]? = some t → args[j]? = some v → Value.okWide Try.prog W .any base t v := hval0
  have hW' := hW
  obtain ⟨p, q, hA0, hV, rfl, hfz, hnd⟩ := hW
  have hA : DataW.TrodAll enc Try.prog W 0 (fun _ => true) true Try.f5.params.toList args.toList ds p := hA0
  have hlen : ds.length = 2 := by
    have hl := Lift.trodAll_len _ _ _ _ hA
    rw [Try.params5] at hl
    simpa using hl
  have hall := fun W' (hb : Below W.heap.size W W') => Lift.trodAll_below Lift.laidOut hb Try.f5.params.toList args.toList ds p (by kernel_rfl) hA
  obtain ⟨rfl, rfl⟩ := trodVars_none hV
  refine (contract H enc W base args ds p hval hA).mono fun e W' ⟨he, bel⟩ => ?_
  subst he
  have hspec : (Rows.retireCostsSpec.fn H (ds ++ [])).results = [.lit (.bool true)] ∧ (Rows.retireCostsSpec.fn H (ds ++ [])).args = ds ∧ (Rows.retireCostsSpec.fn H (ds ++ [])).vars = [] := by
    match ds, hlen with
    | [d1, d2], _ => exact ⟨rfl, rfl, rfl⟩
  exact ⟨_, rfl, _, _, _, [], _, [], hW', by rw [hspec.1]; exact trodAll_mk1 (shut_bool Try.underlying4 _), by rw [hspec.2.1]; exact hall W' bel, by rw [hspec.2.2]; rfl, bel.frame _, fun h => by cases h⟩

theorem over : Rows.retireCostsRow.holds Try.pinned (OpenSpec.ofChange Rows.retireCostsSpec) :=
  OpenClaim.holds_of_wide 5 Try.f5 rfl rfl rfl rfl rfl rfl rfl ⟨rfl, rfl, rfl, rfl, rfl⟩ rfl rfl rfl rfl rfl (by kernel_rfl) Try.func5 (by kernel_rfl)
    (of_decide_eq_true (by kernel_rfl)) (by unfold Func.isWrapper; first | (rw [if_pos (by decide +kernel)]; kernel_rfl) | (rw [if_neg (by decide +kernel)]; exact ⟨rfl, rfl⟩))
    (fun os started H enc _ => lifted os started H enc)

theorem proved : Rows.RetireCostsSaid := over
#print axioms proved
end Go.Proofs.Ytchkiacmiljopaa.retireCosts
