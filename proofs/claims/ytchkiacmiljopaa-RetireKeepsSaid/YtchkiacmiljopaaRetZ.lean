/-
  The example of chapter 28 is true.
-/
import Derived.Test.YtchkiacmiljopaaRetL
namespace Go.Proofs.Ytchkiacmiljopaa.MemP
open Go.RowKit RefP CellP HazP
set_option linter.unusedVariables false
set_option linter.unusedSimpArgs false
theorem rtEx1 (L : List (Int × Int)) : prun 8 1 3 9 ⟨[packI 2 1], 0, 0, [], [], [packI 1 1]⟩ L = ([], true, ⟨[], 0, 0, [], [], [packI 1 1, packI 2 1]⟩, L) := rfl
abbrev rtQ : List Acc4 × Bool × RS × List (Int × Int) := prun 8 1 3 99 ⟨[packI 3 1, packI 4 1], 0, 0, [], [], [packI 1 1, packI 2 1]⟩ (freshL 8 1 0)
theorem rtEx2 : rtQ.1.length = 5 ∧ (rtQ.1.getD 2 (0, 0, 0, 0)).1 = 2 ∧ rtQ.2.1 = true ∧ rtQ.2.2.1.l.length = 1 := by decide +kernel
theorem rtGood : ∀ x ∈ [packI 1 1, packI 2 1, packI 3 1, packI 4 1], GoodW 8 x := by
  intro x hx
  simp only [List.mem_cons, List.not_mem_nil, or_false] at hx
  rcases hx with rfl | rfl | rfl | rfl <;> exact ⟨by decide +kernel, by decide +kernel, by decide +kernel, by decide +kernel⟩
theorem fit0 (T : Nat) (W l : List Int) : Fit T ⟨W, 0, 0, [], [], l⟩ := ⟨by simp, by simp, by simp⟩
theorem Rr.under0 {w0 : World} {base o oc g gb gr A T : Nat} {L : List (Int × Int)} {bs rs : List (List Value)} {t lo : Nat} {r : Int} {d0 d : RA} {s s0 : RS} {ao : Option Addr} {co : Nat} {out : List Acc4} {wr w : World} {B : Nat} (h : Rr w0 base o oc g gb gr A T L bs rs t lo r d0 d s ao co out wr) (R : RtAt w0 base o t lo r A d0 s0) (hB : Below B w w0) (h1 : B ≤ w.heap.size) (h2 : B ≤ g ∧ B ≤ gb ∧ B ≤ base) : Below B w wr :=
  h.fr.below hB h1 (fun b hb => by
    simp only [List.mem_cons] at hb
    rcases hb with e | e | e
    · omega
    · omega
    · have := R.all_ge b e; omega)
set_option maxRecDepth 100000 in
set_option maxHeartbeats 6400000 in
theorem rtLives_any (w : World) : Calls Try.prog 6 #[] w fun e w' => e = .returned (.bool true) ∧ Below w.heap.size w w' := by
  have hg1 := rtGood (packI 1 1) (by simp)
  have hg2 := rtGood (packI 2 1) (by simp)
  have hg3 := rtGood (packI 3 1) (by simp)
  have hg4 := rtGood (packI 4 1) (by simp)
  go_enter Try.func6, Try.ntmps6
  go_wp2_with fail
  refine (mnew_yes 8 1 0 _ (by omega) (by omega) (by omega) (by omega) (by omega) (by omega)).mono ?_
  rintro e w1 ⟨o, oc, g, gb, gr, rfl, hM, hB, ho, hoc, hg, hgb, hgr⟩
  have hMB : MemB w1 w1.heap.size o oc g gb gr 8 1 (freshL 8 1 0) _ _ := ⟨hM, ⟨hM.head.lt, hM.cells.head.lt, hM.cells.rows.lt, hM.blocks.lt, hM.records.lt⟩⟩
  have hs1 := hB.size
  clear hM
  go_wp2_with fail
  have hrm := room_any 1 1 w1 (by omega) (by omega) (by omega) (by omega)
  rw [show roomI 1 1 = 3 from rfl] at hrm
  refine hrm.mono ?_
  rintro e wx ⟨rfl, rfl⟩
  go_wp2_with fail
  refine (hazNew_yes 3 _ (by omega) (by omega)).mono ?_
  rintro e w2 ⟨⟨lo, rfl, hlo, hL⟩, hb2⟩
  have L2 := hL w1.heap.size (Nat.le_refl _)
  have hs2 := hb2.size
  clear hL hrm
  go_wp2_with fail
  refine (dpack_any 1 1 _ (by omega) (by omega) (by omega) (by omega)).mono ?_
  rintro e wx ⟨rfl, rfl⟩
  go_wp2_with fail
  refine (add_yes w2 w1.heap.size lo 3 none 0 [] (packI 1 1) L2 (by simp) hg1.1 hs2).mono ?_
  rintro e w3 ⟨⟨a3, c3, rfl, L3, _⟩, B3⟩
  have hB3 : Below w1.heap.size w1 w3 := B3.below hb2 (Nat.le_refl _) hlo (by simp)
  have M3 := hMB.below hB3 (Nat.le_refl _)
  have hs3 := hB3.size
  clear L2 B3 hb2
  go_wp2_with fail
  refine (dpack_any 2 1 _ (by omega) (by omega) (by omega) (by omega)).mono ?_
  rintro e wx ⟨rfl, rfl⟩
  go_wp2_with fail
  have hl4 : Below w3.heap.size w3 (w3.alloc (.cells #[.int .u64 (packI 2 1)] 35)) := (Below.refl _ w3).alloc (Nat.le_refl _) _
  have HX : U64s (w3.alloc (.cells #[.int .u64 (packI 2 1)] 35)) (some ⟨w3.heap.size, 0, none⟩) [packI 2 1] :=
    ⟨Holds.of_blk' (Blk.new w3 #[.int .u64 (packI 2 1)] 35) _ _ (fun i hi => by rcases i with _ | i <;> first | rfl | (simp at hi; try omega)), by simpa using hg2.1, by simp⟩
  have L4 := L3.below hl4
  have M4 := M3.under hl4
  have hB4 := below_push2 hB3 hl4 (Nat.le_refl _)
  generalize w3.alloc (.cells #[.int .u64 (packI 2 1)] 35) = w4 at HX L4 M4 hB4 ⊢
  clear hl4 L3 M3 hB3
  refine (rtNew_any (o := o) (A := 8) (some ⟨w3.heap.size, 0, none⟩) 1 [packI 2 1] w4 L4 HX (by simp) (by simpa using hg2) (by simpa using hg1) hB4.size).mono ?_
  rintro e w5 ⟨rfl, R5, hb5⟩
  have M5 := M4.under hb5
  have hB5 := below_push2 hB4 hb5 (Nat.le_refl _)
  clear L4 HX M4 hB4 hb5
  go_wp2_with fail
  refine (rtRun_any 9 (by omega) w5 M5 R5 hB5.size (fit0 _ _ _)).mono ?_
  rw [show ([] ++ [packI 1 1] : List Int) = [packI 1 1] from rfl, rtEx1]
  rintro e w6 ⟨ao, co, d6, bs6, rfl, X6⟩
  have hB6 := X6.under0 R5 (hB5.mono (Nat.le_refl _)) (Nat.le_refl _)
  have hBB6 : Below w.heap.size w w6 := X6.under0 R5 (below_push2 hB (hB5.mono (Nat.le_refl _)) (Nat.le_refl _)) (Nat.le_refl _) ⟨hg, hgb, hs1⟩
  have L6 := X6.R.list
  have M6 := X6.m
  have hs6 : w1.heap.size ≤ w6.heap.size := X6.le
  clear X6 R5 M5 hB5 hB6 hMB
  simp only at L6 M6
  go_wp2_with fail
  refine (dpack_any 3 1 _ (by omega) (by omega) (by omega) (by omega)).mono ?_
  rintro e wx ⟨rfl, rfl⟩
  go_wp2_with fail
  refine (dpack_any 4 1 _ (by omega) (by omega) (by omega) (by omega)).mono ?_
  rintro e wx ⟨rfl, rfl⟩
  have hl7 : Below w6.heap.size w6 (w6.alloc (.cells #[.int .u64 (packI 3 1), .int .u64 (packI 4 1)] 35)) := (Below.refl _ w6).alloc (Nat.le_refl _) _
  have HX : U64s (w6.alloc (.cells #[.int .u64 (packI 3 1), .int .u64 (packI 4 1)] 35)) (some ⟨w6.heap.size, 0, none⟩) [packI 3 1, packI 4 1] :=
    ⟨Holds.of_blk' (Blk.new w6 #[.int .u64 (packI 3 1), .int .u64 (packI 4 1)] 35) _ _ (fun i hi => by rcases i with _ | _ | i <;> first | rfl | (simp at hi; try omega)), by simpa using ⟨hg3.1, hg4.1⟩, by simp⟩
  have L7 := L6.below hl7
  have M7 := M6.under hl7
  have hB7 := below_push2 hBB6 hl7 (Nat.le_refl _)
  have hs7 := hl7.size
  go_wp2_with fail
  generalize w6.alloc (.cells #[.int .u64 (packI 3 1), .int .u64 (packI 4 1)] 35) = w7 at HX L7 M7 hB7 hs7 ⊢
  clear hl7 L6 M6 hBB6
  refine (rtNew_any (o := o) (A := 8) (some ⟨w6.heap.size, 0, none⟩) 2 [packI 3 1, packI 4 1] w7 L7 HX (by simp) (by simpa using ⟨hg3, hg4⟩) (by simpa using ⟨hg1, hg2⟩) (by omega)).mono ?_
  rintro e w8 ⟨rfl, R8, hb8⟩
  have M8 := M7.under hb8
  have hB8 := below_push2 hB7 hb8 (Nat.le_refl _)
  have hs8 := hb8.size
  clear L7 HX M7 hB7 hb8
  go_wp2_with fail
  have hrun := rtRun_any 99 (by omega) w8 M8 R8 (by omega) (fit0 _ _ _)
  have hq := rtEx2
  change Calls _ _ _ _ (RunEnd _ _ _ _ _ _ _ _ _ _ _ _ _ _ rtQ) at hrun
  generalize rtQ = q at hq hrun
  obtain ⟨out, okb, s9, L9⟩ := q
  obtain ⟨h5, hk2, hok, hl1⟩ := hq
  simp only at h5 hk2 hok hl1
  subst hok
  refine hrun.mono ?_
  rintro e w9 ⟨ao, co, d9, bs9, rfl, X9⟩
  have hB9 := X9.under0 R8 hB8 (Nat.le_refl _) ⟨hg, hgb, hs1⟩
  have L9' := X9.R.list
  simp only at L9'
  have hsl : (Value.slice ao out.length co).ownBlock ≠ none := by
    rcases X9.out.own.2 with ⟨e, _⟩ | ⟨g', cap, cur, e, _⟩
    · injection e with e1 e2 e3; simp only at e2; omega
    · rw [e]; simp [Value.ownBlock]
  obtain ⟨b9, off9, rfl, hbl9, hc9⟩ := (OwnR.read X9.out).cell 2 (by simp only; omega) (by omega)
  have hc := hc9 0 (by omega)
  have hk : accF (out.getD 2 (0, 0, 0, 0)) 0 = .int .i64 2 := by
    generalize out.getD 2 (0, 0, 0, 0) = a at hk2
    obtain ⟨k, i, v, x⟩ := a
    simp only at hk2
    subst hk2
    rfl
  simp only at hc
  rw [hk] at hc
  clear hc9 hk hsl hrun X9 R8 M8 hB8
  simp only [h5]
  have hc2 : w9.cell? ⟨b9, off9 + 52, none⟩ = some (.int .i64 2) := by simpa using hc
  have hw := words_any w9 lo 3 d9.la d9.lc s9.l L9'.head L9'.words (by omega)
  go_wp2_with fail
  refine hw.mono ?_
  rintro e w10 ⟨a10, c10, rfl, O10, hb10⟩
  have hB10 := below_push2 hB9 hb10 (Nat.le_refl _)
  rw [hl1]
  go_wp2_with fail
  go_ret
  exact ⟨rfl, hB10⟩
end Go.Proofs.Ytchkiacmiljopaa.MemP
