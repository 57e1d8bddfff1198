/-
  ref.Gated and the document's: contracts, each for every word.
-/
import Derived.Test.YtaeifmfghnolcaaRefGate
import Derived.Handy
namespace Go.Proofs.Ytaeifmfghnolcaa.RefP
open Go.RowKit
set_option linter.unusedVariables false
set_option linter.unusedSimpArgs false

theorem ret_g {a b c a' b' c' : Int} {x y : Bool} (h1 : a = a') (h2 : b = b') (h3 : c = c') (h4 : x = y) : Ending.returned (.tuple #[.agg #[.int .i64 a, .int .i64 b, .int .u64 c], .bool x]) = .returned (.tuple #[.agg #[.int .i64 a', .int .i64 b', .int .u64 c'], .bool y]) := by rw [h1, h2, h3, h4]
theorem fst62 (x : Int) (h2 : 0 ≤ x) (h3 : x ≤ 18446744073709551615) : 0 ≤ x / 4611686018427387904 ∧ x / 4611686018427387904 ≤ 3 := by omega
theorem mid62 (x : Int) : 0 ≤ x % 4611686018427387904 / 72057594037927936 ∧ x % 4611686018427387904 / 72057594037927936 ≤ 63 := by omega
theorem low56 (x : Int) : 0 ≤ x % 72057594037927936 ∧ x % 72057594037927936 ≤ 72057594037927935 := by omega

set_option maxHeartbeats 800000 in
theorem dgated_any (x : Int) (w : World) (h2 : 0 ≤ x) (h3 : x ≤ 18446744073709551615) :
    Calls Try.prog 41 #[.int .u64 x] w fun e w' => e = .returned (.tuple #[.agg #[.int .i64 (gatedS x), .int .i64 (gatedT x), .int .u64 (gatedW x)], .bool (gatedB x)]) ∧ Below w.heap.size w w' := by
  have ba := fst62 x h2 h3
  have bb := mid62 x
  have bc := low56 x
  have hgb : gateB (x / 4611686018427387904) (x % 4611686018427387904 / 72057594037927936) (x % 72057594037927936) = gatedB x := rfl
  cases hg : gatedB x
  · rw [hg] at hgb
    have hv := Lib.hid (ret_g (gatedS_no hg) (gatedT_no hg) (gatedW_no hg) (Eq.refl false))
    clear hg
    go_enter Try.func41, Try.ntmps41
    go_wp2_with fail
    refine (may_any _ _ _ _ (by omega) (by omega) (by omega) (by omega) (by omega) (by omega)).mono ?_
    rintro e w1 ⟨rfl, hb1⟩
    obtain ⟨hc1, hf1⟩ := bcell hb1
    have hz1 := hb1.size
    try simp only [World.size_alloc, World.size_setCell, World.size_drew, World.size_drewN'] at hz1
    go_wp2_with fail
    refine bodyPost_ret (v := .tuple #[.agg #[.int .i64 0, .int .i64 0, .int .u64 0], .bool false]) (by simp (maxDischargeDepth := 8) [results, Try.results41, go_sem, hc1]) rfl ⟨hv.out.symm, ?_⟩
    (repeat (first | exact Below.refl _ _ | assumption | refine Below.setCell ?_ (by first | (simp; done) | (simp; omega) | omega) _ | refine Below.alloc ?_ (by first | (simp; done) | (simp; omega) | omega) _ | refine Below.drew ?_ | refine below_drewN ?_ _ | refine below_push ?_ ‹_› (by first | (simp; done) | (simp; omega) | omega)))
  · rw [hg] at hgb
    have hv := Lib.hid (ret_g (gatedS_yes hg) (gatedT_yes hg) (gatedW_yes hg) (Eq.refl true))
    clear hg
    go_enter Try.func41, Try.ntmps41
    go_wp2_with fail
    refine (may_any _ _ _ _ (by omega) (by omega) (by omega) (by omega) (by omega) (by omega)).mono ?_
    rintro e w1 ⟨rfl, hb1⟩
    obtain ⟨hc1, hf1⟩ := bcell hb1
    have hz1 := hb1.size
    try simp only [World.size_alloc, World.size_setCell, World.size_drew, World.size_drewN'] at hz1
    go_wp2_with fail
    refine bodyPost_ret (v := .tuple #[.agg #[.int .i64 (x / 4611686018427387904), .int .i64 (x % 4611686018427387904 / 72057594037927936), .int .u64 (x % 72057594037927936)], .bool true]) (by simp (maxDischargeDepth := 8) [results, Try.results41, go_sem, hc1]) rfl ⟨hv.out.symm, ?_⟩
    (repeat (first | exact Below.refl _ _ | assumption | refine Below.setCell ?_ (by first | (simp; done) | (simp; omega) | omega) _ | refine Below.alloc ?_ (by first | (simp; done) | (simp; omega) | omega) _ | refine Below.drew ?_ | refine below_drewN ?_ _ | refine below_push ?_ ‹_› (by first | (simp; done) | (simp; omega) | omega)))

set_option maxHeartbeats 800000 in
theorem gated_any (x : Int) (w : World) (h2 : 0 ≤ x) (h3 : x ≤ 18446744073709551615) :
    Calls Try.prog 40 #[.int .u64 x] w fun e w' => e = .returned (.tuple #[.agg #[.int .i64 (gatedS x), .int .i64 (gatedT x), .int .u64 (gatedW x)], .bool (gatedB x)]) ∧ Below w.heap.size w w' := by
  have ba := fst62 x h2 h3
  have bb := mid62 x
  have bc := low56 x
  by_cases c0 : x = 18446744073709551615
  · subst c0
    have ho := gatedB_top
    have hv := Lib.hid (ret_g (gatedS_no ho) (gatedT_no ho) (gatedW_no ho) ho)
    clear ho
    go_enter Try.func40, Try.ntmps40
    go_wp2_with fail
    refine (of_high62 _ _ (by omega) (by omega)).mono ?_
    rintro e w1 ⟨rfl, hb1⟩
    obtain ⟨hc1, hf1⟩ := bcell hb1
    have hz1 := hb1.size
    try simp only [World.size_alloc, World.size_setCell, World.size_drew, World.size_drewN'] at hz1
    have z1 : w.heap.size < w1.heap.size := by omega
    have c1_0 : w1.cell? ⟨w.heap.size, 0, none⟩ = some (.int .i64 0) := by
      rw [hc1 _ _ (by first | omega | (simp; done) | (simp; omega))]
      first | assumption | (simp [go_sem]; done) | (simp [go_sem, *]; done)
    have f1_0 : w1.frozen? ⟨w.heap.size, 0, none⟩ = false := by
      rw [hf1 _ _ (by first | omega | (simp; done) | (simp; omega))]
      first | assumption | (simp [go_sem]; done) | (simp [go_sem, *]; done)
    have c1_1 : w1.cell? ⟨w.heap.size, 1, none⟩ = some (.int .i64 0) := by
      rw [hc1 _ _ (by first | omega | (simp; done) | (simp; omega))]
      first | assumption | (simp [go_sem]; done) | (simp [go_sem, *]; done)
    have f1_1 : w1.frozen? ⟨w.heap.size, 1, none⟩ = false := by
      rw [hf1 _ _ (by first | omega | (simp; done) | (simp; omega))]
      first | assumption | (simp [go_sem]; done) | (simp [go_sem, *]; done)
    have c1_2 : w1.cell? ⟨w.heap.size, 2, none⟩ = some (.int .u64 0) := by
      rw [hc1 _ _ (by first | omega | (simp; done) | (simp; omega))]
      first | assumption | (simp [go_sem]; done) | (simp [go_sem, *]; done)
    have f1_2 : w1.frozen? ⟨w.heap.size, 2, none⟩ = false := by
      rw [hf1 _ _ (by first | omega | (simp; done) | (simp; omega))]
      first | assumption | (simp [go_sem]; done) | (simp [go_sem, *]; done)
    clear hc1 hf1
    go_wp2_with fail
    refine (of_mid56 _ _ (by omega) (by omega)).mono ?_
    rintro e w2 ⟨rfl, hb2⟩
    obtain ⟨hc2, hf2⟩ := bcell hb2
    have hz2 := hb2.size
    try simp only [World.size_alloc, World.size_setCell, World.size_drew, World.size_drewN'] at hz2
    have z2 : w.heap.size < w2.heap.size := by omega
    have c2_0 : w2.cell? ⟨w.heap.size, 0, none⟩ = some (.int .i64 0) := by
      rw [hc2 _ _ (by first | omega | (simp; done) | (simp; omega))]
      first | assumption | (simp [go_sem]; done) | (simp [go_sem, *]; done)
    have f2_0 : w2.frozen? ⟨w.heap.size, 0, none⟩ = false := by
      rw [hf2 _ _ (by first | omega | (simp; done) | (simp; omega))]
      first | assumption | (simp [go_sem]; done) | (simp [go_sem, *]; done)
    have c2_1 : w2.cell? ⟨w.heap.size, 1, none⟩ = some (.int .i64 0) := by
      rw [hc2 _ _ (by first | omega | (simp; done) | (simp; omega))]
      first | assumption | (simp [go_sem]; done) | (simp [go_sem, *]; done)
    have f2_1 : w2.frozen? ⟨w.heap.size, 1, none⟩ = false := by
      rw [hf2 _ _ (by first | omega | (simp; done) | (simp; omega))]
      first | assumption | (simp [go_sem]; done) | (simp [go_sem, *]; done)
    have c2_2 : w2.cell? ⟨w.heap.size, 2, none⟩ = some (.int .u64 0) := by
      rw [hc2 _ _ (by first | omega | (simp; done) | (simp; omega))]
      first | assumption | (simp [go_sem]; done) | (simp [go_sem, *]; done)
    have f2_2 : w2.frozen? ⟨w.heap.size, 2, none⟩ = false := by
      rw [hf2 _ _ (by first | omega | (simp; done) | (simp; omega))]
      first | assumption | (simp [go_sem]; done) | (simp [go_sem, *]; done)
    clear hc2 hf2
    go_wp2_with fail
    refine (of_low56 _ _ (by omega) (by omega)).mono ?_
    rintro e w3 ⟨rfl, hb3⟩
    obtain ⟨hc3, hf3⟩ := bcell hb3
    have hz3 := hb3.size
    try simp only [World.size_alloc, World.size_setCell, World.size_drew, World.size_drewN'] at hz3
    have z3 : w.heap.size < w3.heap.size := by omega
    have c3_0 : w3.cell? ⟨w.heap.size, 0, none⟩ = some (.int .i64 0) := by
      rw [hc3 _ _ (by first | omega | (simp; done) | (simp; omega))]
      first | assumption | (simp [go_sem]; done) | (simp [go_sem, *]; done)
    have f3_0 : w3.frozen? ⟨w.heap.size, 0, none⟩ = false := by
      rw [hf3 _ _ (by first | omega | (simp; done) | (simp; omega))]
      first | assumption | (simp [go_sem]; done) | (simp [go_sem, *]; done)
    have c3_1 : w3.cell? ⟨w.heap.size, 1, none⟩ = some (.int .i64 0) := by
      rw [hc3 _ _ (by first | omega | (simp; done) | (simp; omega))]
      first | assumption | (simp [go_sem]; done) | (simp [go_sem, *]; done)
    have f3_1 : w3.frozen? ⟨w.heap.size, 1, none⟩ = false := by
      rw [hf3 _ _ (by first | omega | (simp; done) | (simp; omega))]
      first | assumption | (simp [go_sem]; done) | (simp [go_sem, *]; done)
    have c3_2 : w3.cell? ⟨w.heap.size, 2, none⟩ = some (.int .u64 0) := by
      rw [hc3 _ _ (by first | omega | (simp; done) | (simp; omega))]
      first | assumption | (simp [go_sem]; done) | (simp [go_sem, *]; done)
    have f3_2 : w3.frozen? ⟨w.heap.size, 2, none⟩ = false := by
      rw [hf3 _ _ (by first | omega | (simp; done) | (simp; omega))]
      first | assumption | (simp [go_sem]; done) | (simp [go_sem, *]; done)
    clear hc3 hf3
    go_wp2_with fail
    refine bodyPost_ret (v := .tuple #[.agg #[.int .i64 0, .int .i64 0, .int .u64 0], .bool false]) (by simp (maxDischargeDepth := 8) [results, Try.results40, go_sem, z3, c3_0, c3_1, c3_2, f3_0, f3_1, f3_2]) rfl ⟨hv.out.symm, ?_⟩
    (repeat (first | exact Below.refl _ _ | assumption | refine Below.setCell ?_ (by first | (simp; done) | (simp; omega) | omega) _ | refine Below.alloc ?_ (by first | (simp; done) | (simp; omega) | omega) _ | refine Below.drew ?_ | refine below_drewN ?_ _ | refine below_push ?_ ‹_› (by first | (simp; done) | (simp; omega) | omega)))
  have hz0 : (x == 18446744073709551615) = false := by simpa using c0
  cases hg : gatedB x
  · have hn := shut_not_gated x c0 hg
    have hv := Lib.hid (ret_g (gatedS_no hg) (gatedT_no hg) (gatedW_no hg) (Eq.refl false))
    clear hg c0
    have hq : (shutI (x / 4611686018427387904) (x % 4611686018427387904 / 72057594037927936) (x % 72057594037927936) != x) = true := by simpa using hn
    go_enter Try.func40, Try.ntmps40
    go_wp2_with fail
    refine (of_high62 _ _ (by omega) (by omega)).mono ?_
    rintro e w1 ⟨rfl, hb1⟩
    obtain ⟨hc1, hf1⟩ := bcell hb1
    have hz1 := hb1.size
    try simp only [World.size_alloc, World.size_setCell, World.size_drew, World.size_drewN'] at hz1
    have z1 : w.heap.size < w1.heap.size := by omega
    have c1_0 : w1.cell? ⟨w.heap.size, 0, none⟩ = some (.int .i64 0) := by
      rw [hc1 _ _ (by first | omega | (simp; done) | (simp; omega))]
      first | assumption | (simp [go_sem]; done) | (simp [go_sem, *]; done)
    have f1_0 : w1.frozen? ⟨w.heap.size, 0, none⟩ = false := by
      rw [hf1 _ _ (by first | omega | (simp; done) | (simp; omega))]
      first | assumption | (simp [go_sem]; done) | (simp [go_sem, *]; done)
    have c1_1 : w1.cell? ⟨w.heap.size, 1, none⟩ = some (.int .i64 0) := by
      rw [hc1 _ _ (by first | omega | (simp; done) | (simp; omega))]
      first | assumption | (simp [go_sem]; done) | (simp [go_sem, *]; done)
    have f1_1 : w1.frozen? ⟨w.heap.size, 1, none⟩ = false := by
      rw [hf1 _ _ (by first | omega | (simp; done) | (simp; omega))]
      first | assumption | (simp [go_sem]; done) | (simp [go_sem, *]; done)
    have c1_2 : w1.cell? ⟨w.heap.size, 2, none⟩ = some (.int .u64 0) := by
      rw [hc1 _ _ (by first | omega | (simp; done) | (simp; omega))]
      first | assumption | (simp [go_sem]; done) | (simp [go_sem, *]; done)
    have f1_2 : w1.frozen? ⟨w.heap.size, 2, none⟩ = false := by
      rw [hf1 _ _ (by first | omega | (simp; done) | (simp; omega))]
      first | assumption | (simp [go_sem]; done) | (simp [go_sem, *]; done)
    clear hc1 hf1
    go_wp2_with fail
    refine (of_mid56 _ _ (by omega) (by omega)).mono ?_
    rintro e w2 ⟨rfl, hb2⟩
    obtain ⟨hc2, hf2⟩ := bcell hb2
    have hz2 := hb2.size
    try simp only [World.size_alloc, World.size_setCell, World.size_drew, World.size_drewN'] at hz2
    have z2 : w.heap.size < w2.heap.size := by omega
    have c2_0 : w2.cell? ⟨w.heap.size, 0, none⟩ = some (.int .i64 0) := by
      rw [hc2 _ _ (by first | omega | (simp; done) | (simp; omega))]
      first | assumption | (simp [go_sem]; done) | (simp [go_sem, *]; done)
    have f2_0 : w2.frozen? ⟨w.heap.size, 0, none⟩ = false := by
      rw [hf2 _ _ (by first | omega | (simp; done) | (simp; omega))]
      first | assumption | (simp [go_sem]; done) | (simp [go_sem, *]; done)
    have c2_1 : w2.cell? ⟨w.heap.size, 1, none⟩ = some (.int .i64 0) := by
      rw [hc2 _ _ (by first | omega | (simp; done) | (simp; omega))]
      first | assumption | (simp [go_sem]; done) | (simp [go_sem, *]; done)
    have f2_1 : w2.frozen? ⟨w.heap.size, 1, none⟩ = false := by
      rw [hf2 _ _ (by first | omega | (simp; done) | (simp; omega))]
      first | assumption | (simp [go_sem]; done) | (simp [go_sem, *]; done)
    have c2_2 : w2.cell? ⟨w.heap.size, 2, none⟩ = some (.int .u64 0) := by
      rw [hc2 _ _ (by first | omega | (simp; done) | (simp; omega))]
      first | assumption | (simp [go_sem]; done) | (simp [go_sem, *]; done)
    have f2_2 : w2.frozen? ⟨w.heap.size, 2, none⟩ = false := by
      rw [hf2 _ _ (by first | omega | (simp; done) | (simp; omega))]
      first | assumption | (simp [go_sem]; done) | (simp [go_sem, *]; done)
    clear hc2 hf2
    go_wp2_with fail
    refine (of_low56 _ _ (by omega) (by omega)).mono ?_
    rintro e w3 ⟨rfl, hb3⟩
    obtain ⟨hc3, hf3⟩ := bcell hb3
    have hz3 := hb3.size
    try simp only [World.size_alloc, World.size_setCell, World.size_drew, World.size_drewN'] at hz3
    have z3 : w.heap.size < w3.heap.size := by omega
    have c3_0 : w3.cell? ⟨w.heap.size, 0, none⟩ = some (.int .i64 0) := by
      rw [hc3 _ _ (by first | omega | (simp; done) | (simp; omega))]
      first | assumption | (simp [go_sem]; done) | (simp [go_sem, *]; done)
    have f3_0 : w3.frozen? ⟨w.heap.size, 0, none⟩ = false := by
      rw [hf3 _ _ (by first | omega | (simp; done) | (simp; omega))]
      first | assumption | (simp [go_sem]; done) | (simp [go_sem, *]; done)
    have c3_1 : w3.cell? ⟨w.heap.size, 1, none⟩ = some (.int .i64 0) := by
      rw [hc3 _ _ (by first | omega | (simp; done) | (simp; omega))]
      first | assumption | (simp [go_sem]; done) | (simp [go_sem, *]; done)
    have f3_1 : w3.frozen? ⟨w.heap.size, 1, none⟩ = false := by
      rw [hf3 _ _ (by first | omega | (simp; done) | (simp; omega))]
      first | assumption | (simp [go_sem]; done) | (simp [go_sem, *]; done)
    have c3_2 : w3.cell? ⟨w.heap.size, 2, none⟩ = some (.int .u64 0) := by
      rw [hc3 _ _ (by first | omega | (simp; done) | (simp; omega))]
      first | assumption | (simp [go_sem]; done) | (simp [go_sem, *]; done)
    have f3_2 : w3.frozen? ⟨w.heap.size, 2, none⟩ = false := by
      rw [hf3 _ _ (by first | omega | (simp; done) | (simp; omega))]
      first | assumption | (simp [go_sem]; done) | (simp [go_sem, *]; done)
    clear hc3 hf3
    go_wp2_with fail
    refine (shut_any _ _ _ _ (by omega) (by omega) (by omega) (by omega) (by omega) (by omega)).mono ?_
    rintro e w4 ⟨rfl, hb4⟩
    obtain ⟨hc4, hf4⟩ := bcell hb4
    have hz4 := hb4.size
    try simp only [World.size_alloc, World.size_setCell, World.size_drew, World.size_drewN'] at hz4
    have z4 : w.heap.size < w4.heap.size := by omega
    have z4b : w3.heap.size < w4.heap.size := by omega
    have c4_0 : w4.cell? ⟨w.heap.size, 0, none⟩ = some (.int .i64 0) := by
      rw [hc4 _ _ (by first | omega | (simp; done) | (simp; omega))]
      first | assumption | (simp [go_sem]; done) | (simp [go_sem, *]; done)
    have f4_0 : w4.frozen? ⟨w.heap.size, 0, none⟩ = false := by
      rw [hf4 _ _ (by first | omega | (simp; done) | (simp; omega))]
      first | assumption | (simp [go_sem]; done) | (simp [go_sem, *]; done)
    have c4_1 : w4.cell? ⟨w.heap.size, 1, none⟩ = some (.int .i64 0) := by
      rw [hc4 _ _ (by first | omega | (simp; done) | (simp; omega))]
      first | assumption | (simp [go_sem]; done) | (simp [go_sem, *]; done)
    have f4_1 : w4.frozen? ⟨w.heap.size, 1, none⟩ = false := by
      rw [hf4 _ _ (by first | omega | (simp; done) | (simp; omega))]
      first | assumption | (simp [go_sem]; done) | (simp [go_sem, *]; done)
    have c4_2 : w4.cell? ⟨w.heap.size, 2, none⟩ = some (.int .u64 0) := by
      rw [hc4 _ _ (by first | omega | (simp; done) | (simp; omega))]
      first | assumption | (simp [go_sem]; done) | (simp [go_sem, *]; done)
    have f4_2 : w4.frozen? ⟨w.heap.size, 2, none⟩ = false := by
      rw [hf4 _ _ (by first | omega | (simp; done) | (simp; omega))]
      first | assumption | (simp [go_sem]; done) | (simp [go_sem, *]; done)
    have c4_0b : w4.cell? ⟨w3.heap.size, 0, none⟩ = some (.int .i64 (x / 4611686018427387904)) := by
      rw [hc4 _ _ (by first | omega | (simp; done) | (simp; omega))]
      first | assumption | (simp [go_sem]; done) | (simp [go_sem, *]; done)
    have f4_0b : w4.frozen? ⟨w3.heap.size, 0, none⟩ = false := by
      rw [hf4 _ _ (by first | omega | (simp; done) | (simp; omega))]
      first | assumption | (simp [go_sem]; done) | (simp [go_sem, *]; done)
    have c4_1b : w4.cell? ⟨w3.heap.size, 1, none⟩ = some (.int .i64 (x % 4611686018427387904 / 72057594037927936)) := by
      rw [hc4 _ _ (by first | omega | (simp; done) | (simp; omega))]
      first | assumption | (simp [go_sem]; done) | (simp [go_sem, *]; done)
    have f4_1b : w4.frozen? ⟨w3.heap.size, 1, none⟩ = false := by
      rw [hf4 _ _ (by first | omega | (simp; done) | (simp; omega))]
      first | assumption | (simp [go_sem]; done) | (simp [go_sem, *]; done)
    have c4_2b : w4.cell? ⟨w3.heap.size, 2, none⟩ = some (.int .u64 (x % 72057594037927936)) := by
      rw [hc4 _ _ (by first | omega | (simp; done) | (simp; omega))]
      first | assumption | (simp [go_sem]; done) | (simp [go_sem, *]; done)
    have f4_2b : w4.frozen? ⟨w3.heap.size, 2, none⟩ = false := by
      rw [hf4 _ _ (by first | omega | (simp; done) | (simp; omega))]
      first | assumption | (simp [go_sem]; done) | (simp [go_sem, *]; done)
    clear hc4 hf4
    go_wp2_with fail
    refine bodyPost_ret (v := .tuple #[.agg #[.int .i64 0, .int .i64 0, .int .u64 0], .bool false]) (by simp (maxDischargeDepth := 8) [results, Try.results40, go_sem, c4_0, c4_1, c4_2]) rfl ⟨hv.out.symm, ?_⟩
    (repeat (first | exact Below.refl _ _ | assumption | refine Below.setCell ?_ (by first | (simp; done) | (simp; omega) | omega) _ | refine Below.alloc ?_ (by first | (simp; done) | (simp; omega) | omega) _ | refine Below.drew ?_ | refine below_drewN ?_ _ | refine below_push ?_ ‹_› (by first | (simp; done) | (simp; omega) | omega)))
  · have hn := shut_of_gated x hg
    have hv := Lib.hid (ret_g (gatedS_yes hg) (gatedT_yes hg) (gatedW_yes hg) (Eq.refl true))
    clear hg c0
    have hq : (shutI (x / 4611686018427387904) (x % 4611686018427387904 / 72057594037927936) (x % 72057594037927936) != x) = false := by simp [hn]
    clear hn
    go_enter Try.func40, Try.ntmps40
    go_wp2_with fail
    refine (of_high62 _ _ (by omega) (by omega)).mono ?_
    rintro e w1 ⟨rfl, hb1⟩
    obtain ⟨hc1, hf1⟩ := bcell hb1
    have hz1 := hb1.size
    try simp only [World.size_alloc, World.size_setCell, World.size_drew, World.size_drewN'] at hz1
    have z1 : w.heap.size < w1.heap.size := by omega
    have c1_0 : w1.cell? ⟨w.heap.size, 0, none⟩ = some (.int .i64 0) := by
      rw [hc1 _ _ (by first | omega | (simp; done) | (simp; omega))]
      first | assumption | (simp [go_sem]; done) | (simp [go_sem, *]; done)
    have f1_0 : w1.frozen? ⟨w.heap.size, 0, none⟩ = false := by
      rw [hf1 _ _ (by first | omega | (simp; done) | (simp; omega))]
      first | assumption | (simp [go_sem]; done) | (simp [go_sem, *]; done)
    have c1_1 : w1.cell? ⟨w.heap.size, 1, none⟩ = some (.int .i64 0) := by
      rw [hc1 _ _ (by first | omega | (simp; done) | (simp; omega))]
      first | assumption | (simp [go_sem]; done) | (simp [go_sem, *]; done)
    have f1_1 : w1.frozen? ⟨w.heap.size, 1, none⟩ = false := by
      rw [hf1 _ _ (by first | omega | (simp; done) | (simp; omega))]
      first | assumption | (simp [go_sem]; done) | (simp [go_sem, *]; done)
    have c1_2 : w1.cell? ⟨w.heap.size, 2, none⟩ = some (.int .u64 0) := by
      rw [hc1 _ _ (by first | omega | (simp; done) | (simp; omega))]
      first | assumption | (simp [go_sem]; done) | (simp [go_sem, *]; done)
    have f1_2 : w1.frozen? ⟨w.heap.size, 2, none⟩ = false := by
      rw [hf1 _ _ (by first | omega | (simp; done) | (simp; omega))]
      first | assumption | (simp [go_sem]; done) | (simp [go_sem, *]; done)
    clear hc1 hf1
    go_wp2_with fail
    refine (of_mid56 _ _ (by omega) (by omega)).mono ?_
    rintro e w2 ⟨rfl, hb2⟩
    obtain ⟨hc2, hf2⟩ := bcell hb2
    have hz2 := hb2.size
    try simp only [World.size_alloc, World.size_setCell, World.size_drew, World.size_drewN'] at hz2
    have z2 : w.heap.size < w2.heap.size := by omega
    have c2_0 : w2.cell? ⟨w.heap.size, 0, none⟩ = some (.int .i64 0) := by
      rw [hc2 _ _ (by first | omega | (simp; done) | (simp; omega))]
      first | assumption | (simp [go_sem]; done) | (simp [go_sem, *]; done)
    have f2_0 : w2.frozen? ⟨w.heap.size, 0, none⟩ = false := by
      rw [hf2 _ _ (by first | omega | (simp; done) | (simp; omega))]
      first | assumption | (simp [go_sem]; done) | (simp [go_sem, *]; done)
    have c2_1 : w2.cell? ⟨w.heap.size, 1, none⟩ = some (.int .i64 0) := by
      rw [hc2 _ _ (by first | omega | (simp; done) | (simp; omega))]
      first | assumption | (simp [go_sem]; done) | (simp [go_sem, *]; done)
    have f2_1 : w2.frozen? ⟨w.heap.size, 1, none⟩ = false := by
      rw [hf2 _ _ (by first | omega | (simp; done) | (simp; omega))]
      first | assumption | (simp [go_sem]; done) | (simp [go_sem, *]; done)
    have c2_2 : w2.cell? ⟨w.heap.size, 2, none⟩ = some (.int .u64 0) := by
      rw [hc2 _ _ (by first | omega | (simp; done) | (simp; omega))]
      first | assumption | (simp [go_sem]; done) | (simp [go_sem, *]; done)
    have f2_2 : w2.frozen? ⟨w.heap.size, 2, none⟩ = false := by
      rw [hf2 _ _ (by first | omega | (simp; done) | (simp; omega))]
      first | assumption | (simp [go_sem]; done) | (simp [go_sem, *]; done)
    clear hc2 hf2
    go_wp2_with fail
    refine (of_low56 _ _ (by omega) (by omega)).mono ?_
    rintro e w3 ⟨rfl, hb3⟩
    obtain ⟨hc3, hf3⟩ := bcell hb3
    have hz3 := hb3.size
    try simp only [World.size_alloc, World.size_setCell, World.size_drew, World.size_drewN'] at hz3
    have z3 : w.heap.size < w3.heap.size := by omega
    have c3_0 : w3.cell? ⟨w.heap.size, 0, none⟩ = some (.int .i64 0) := by
      rw [hc3 _ _ (by first | omega | (simp; done) | (simp; omega))]
      first | assumption | (simp [go_sem]; done) | (simp [go_sem, *]; done)
    have f3_0 : w3.frozen? ⟨w.heap.size, 0, none⟩ = false := by
      rw [hf3 _ _ (by first | omega | (simp; done) | (simp; omega))]
      first | assumption | (simp [go_sem]; done) | (simp [go_sem, *]; done)
    have c3_1 : w3.cell? ⟨w.heap.size, 1, none⟩ = some (.int .i64 0) := by
      rw [hc3 _ _ (by first | omega | (simp; done) | (simp; omega))]
      first | assumption | (simp [go_sem]; done) | (simp [go_sem, *]; done)
    have f3_1 : w3.frozen? ⟨w.heap.size, 1, none⟩ = false := by
      rw [hf3 _ _ (by first | omega | (simp; done) | (simp; omega))]
      first | assumption | (simp [go_sem]; done) | (simp [go_sem, *]; done)
    have c3_2 : w3.cell? ⟨w.heap.size, 2, none⟩ = some (.int .u64 0) := by
      rw [hc3 _ _ (by first | omega | (simp; done) | (simp; omega))]
      first | assumption | (simp [go_sem]; done) | (simp [go_sem, *]; done)
    have f3_2 : w3.frozen? ⟨w.heap.size, 2, none⟩ = false := by
      rw [hf3 _ _ (by first | omega | (simp; done) | (simp; omega))]
      first | assumption | (simp [go_sem]; done) | (simp [go_sem, *]; done)
    clear hc3 hf3
    go_wp2_with fail
    refine (shut_any _ _ _ _ (by omega) (by omega) (by omega) (by omega) (by omega) (by omega)).mono ?_
    rintro e w4 ⟨rfl, hb4⟩
    obtain ⟨hc4, hf4⟩ := bcell hb4
    have hz4 := hb4.size
    try simp only [World.size_alloc, World.size_setCell, World.size_drew, World.size_drewN'] at hz4
    have z4 : w.heap.size < w4.heap.size := by omega
    have z4b : w3.heap.size < w4.heap.size := by omega
    have c4_0 : w4.cell? ⟨w.heap.size, 0, none⟩ = some (.int .i64 0) := by
      rw [hc4 _ _ (by first | omega | (simp; done) | (simp; omega))]
      first | assumption | (simp [go_sem]; done) | (simp [go_sem, *]; done)
    have f4_0 : w4.frozen? ⟨w.heap.size, 0, none⟩ = false := by
      rw [hf4 _ _ (by first | omega | (simp; done) | (simp; omega))]
      first | assumption | (simp [go_sem]; done) | (simp [go_sem, *]; done)
    have c4_1 : w4.cell? ⟨w.heap.size, 1, none⟩ = some (.int .i64 0) := by
      rw [hc4 _ _ (by first | omega | (simp; done) | (simp; omega))]
      first | assumption | (simp [go_sem]; done) | (simp [go_sem, *]; done)
    have f4_1 : w4.frozen? ⟨w.heap.size, 1, none⟩ = false := by
      rw [hf4 _ _ (by first | omega | (simp; done) | (simp; omega))]
      first | assumption | (simp [go_sem]; done) | (simp [go_sem, *]; done)
    have c4_2 : w4.cell? ⟨w.heap.size, 2, none⟩ = some (.int .u64 0) := by
      rw [hc4 _ _ (by first | omega | (simp; done) | (simp; omega))]
      first | assumption | (simp [go_sem]; done) | (simp [go_sem, *]; done)
    have f4_2 : w4.frozen? ⟨w.heap.size, 2, none⟩ = false := by
      rw [hf4 _ _ (by first | omega | (simp; done) | (simp; omega))]
      first | assumption | (simp [go_sem]; done) | (simp [go_sem, *]; done)
    have c4_0b : w4.cell? ⟨w3.heap.size, 0, none⟩ = some (.int .i64 (x / 4611686018427387904)) := by
      rw [hc4 _ _ (by first | omega | (simp; done) | (simp; omega))]
      first | assumption | (simp [go_sem]; done) | (simp [go_sem, *]; done)
    have f4_0b : w4.frozen? ⟨w3.heap.size, 0, none⟩ = false := by
      rw [hf4 _ _ (by first | omega | (simp; done) | (simp; omega))]
      first | assumption | (simp [go_sem]; done) | (simp [go_sem, *]; done)
    have c4_1b : w4.cell? ⟨w3.heap.size, 1, none⟩ = some (.int .i64 (x % 4611686018427387904 / 72057594037927936)) := by
      rw [hc4 _ _ (by first | omega | (simp; done) | (simp; omega))]
      first | assumption | (simp [go_sem]; done) | (simp [go_sem, *]; done)
    have f4_1b : w4.frozen? ⟨w3.heap.size, 1, none⟩ = false := by
      rw [hf4 _ _ (by first | omega | (simp; done) | (simp; omega))]
      first | assumption | (simp [go_sem]; done) | (simp [go_sem, *]; done)
    have c4_2b : w4.cell? ⟨w3.heap.size, 2, none⟩ = some (.int .u64 (x % 72057594037927936)) := by
      rw [hc4 _ _ (by first | omega | (simp; done) | (simp; omega))]
      first | assumption | (simp [go_sem]; done) | (simp [go_sem, *]; done)
    have f4_2b : w4.frozen? ⟨w3.heap.size, 2, none⟩ = false := by
      rw [hf4 _ _ (by first | omega | (simp; done) | (simp; omega))]
      first | assumption | (simp [go_sem]; done) | (simp [go_sem, *]; done)
    clear hc4 hf4
    go_wp2_with fail
    refine bodyPost_ret (v := .tuple #[.agg #[.int .i64 (x / 4611686018427387904), .int .i64 (x % 4611686018427387904 / 72057594037927936), .int .u64 (x % 72057594037927936)], .bool true]) (by simp (maxDischargeDepth := 8) [results, Try.results40, go_sem, c4_0, c4_1, c4_2]) rfl ⟨hv.out.symm, ?_⟩
    (repeat (first | exact Below.refl _ _ | assumption | refine Below.setCell ?_ (by first | (simp; done) | (simp; omega) | omega) _ | refine Below.alloc ?_ (by first | (simp; done) | (simp; omega) | omega) _ | refine Below.drew ?_ | refine below_drewN ?_ _ | refine below_push ?_ ‹_› (by first | (simp; done) | (simp; omega) | omega)))
end Go.Proofs.Ytaeifmfghnolcaa.RefP
