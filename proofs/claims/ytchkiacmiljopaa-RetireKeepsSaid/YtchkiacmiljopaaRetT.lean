/-
  retire: Tell: contract.
-/
import Derived.Test.YtchkiacmiljopaaRetN
namespace Go.Proofs.Ytchkiacmiljopaa.MemP
open Go.RowKit RefP CellP HazP
set_option linter.unusedVariables false
set_option linter.unusedSimpArgs false
theorem rtNext_out {o oc g gb gr T : Nat} {L : List (Int × Int)} {bs rs : List (List Value)} {base t lo : Nat} {r : Int} {A : Nat} {d : RA} {s : RS} (w : World) (h : MemB w base o oc g gb gr A T L bs rs) (R : RtAt w base o t lo r A d s) (hbw : base ≤ w.heap.size) (hout : outB T s = true) {k i v wd : Int} (ha : accS A T s = (k, i, v, wd)) (b : Bool) (hb : (s.st != 0) = b) :
    Calls Try.prog 9 #[.pointer (some ⟨t, 0, none⟩)] w fun e w' => ∃ d', e = .returned (.tuple #[.agg (accY k i v wd), .bool b]) ∧ RtAt w' base o t lo r A d' s ∧ Mv (allB t lo d) (allB t lo d') w w' := by
  refine (rtNext_any w h R hbw).mono ?_
  rintro e w' ⟨d', rfl, X, M⟩
  rw [nrm_out hout] at X ⊢
  rw [ha, hb]
  exact ⟨d', rfl, X, M⟩
/-- a word is behind what is named -/
theorem RtAt.name1 {w wx wA : World} {base o t lo : Nat} {r : Int} {A : Nat} {wa : Option Addr} {wc : Nat} {na : Option Addr} {nc : Nat} {fa : Option Addr} {fc : Nat} {la : Option Addr} {lc : Nat} {W : List Int} {st a : Nat} {nm fr l : List Int}
    (R : RtAt w base o t lo r A ⟨wa, wc, na, nc, fa, fc, la, lc⟩ ⟨W, st, a, nm, fr, l⟩) (hb : Below w.heap.size w wx) {x : Int} {v : Value} {g cap : Nat} (K : AddedU wx base na nc nm v 1 (nm ++ [x]) g cap wA) (hsm : nm.length < 2000 ∧ a < 2000) :
    RtAt ((wA.setCell ⟨t, 5, none⟩ (.slice (some ⟨g, 0, none⟩) (nm.length + 1) cap)).setCell ⟨t, 4, none⟩ (.int .i64 ((a : Int) + 1))) base o t lo r A ⟨wa, wc, some ⟨g, 0, none⟩, cap, fa, fc, la, lc⟩ ⟨W, st, a + 1, nm ++ [x], fr, l⟩ ∧
      Mv (allB t lo ⟨wa, wc, na, nc, fa, fc, la, lc⟩) (allB t lo ⟨wa, wc, some ⟨g, 0, none⟩, cap, fa, fc, la, lc⟩) w ((wA.setCell ⟨t, 5, none⟩ (.slice (some ⟨g, 0, none⟩) (nm.length + 1) cap)).setCell ⟨t, 4, none⟩ (.int .i64 ((a : Int) + 1))) := by
  have H := R.under hb
  have hF1 : Fr (t :: blkS na) wx wA := Fr.of_grown K.grown (fun q e => List.mem_cons_of_mem _ (blkS_own e))
  have hF2 : Fr (t :: blkS na) wx ((wA.setCell ⟨t, 5, none⟩ (.slice (some ⟨g, 0, none⟩) (nm.length + 1) cap)).setCell ⟨t, 4, none⟩ (.int .i64 ((a : Int) + 1))) := Fr.set (Fr.set hF1 _ _ (.inl (by simp))) _ _ (.inl (by simp))
  have hF := (Fr.of_below (S := t :: blkS na) hb).trans hF2
  have hnt : ∀ b ∈ blkS na, b ≠ t := fun b k => (H.nb b k).1
  have hat : g ∈ blkS na ∨ w.heap.size ≤ g := by
    rcases K.at' with q | q
    · exact .inl (blkS_own q)
    · exact .inr (by rw [q]; exact hb.size)
  have hgt : g ≠ t ∧ g ≠ lo ∧ g ∉ blkS la ∧ g ∉ blkS wa ∧ g ∉ blkS fa := by
    rcases hat with q | q
    · have k := H.nb g q
      refine ⟨k.1, k.2.1, k.2.2, fun e => (H.wb g e).2.2 (by simp [ownB, q]), fun e => (H.fb g e).2.2 (by simp [ownB, q])⟩
    · refine ⟨by have := R.head.lt; omega, by have := R.list.head.lt; omega, fun e => by have := R.list.own.lt g (own_blkS e); omega, fun e => by have := (R.wb g e).2.1; omega, fun e => by have := (R.fb g e).2.1; omega⟩
  have hBt : Blk wA t (rtA o lo ⟨wa, wc, na, nc, fa, fc, la, lc⟩ ⟨W, st, a, nm, fr, l⟩) 77 := H.head.grown K.grown (fun e => hnt t (blkS_own e.symm) rfl)
  have hBt2 : Blk ((wA.setCell ⟨t, 5, none⟩ (.slice (some ⟨g, 0, none⟩) (nm.length + 1) cap)).setCell ⟨t, 4, none⟩ (.int .i64 ((a : Int) + 1))) t (rtA o lo ⟨wa, wc, some ⟨g, 0, none⟩, cap, fa, fc, la, lc⟩ ⟨W, st, a + 1, nm ++ [x], fr, l⟩) 77 := by
    simpa [rtA, rtZ] using (hBt.set 5 (.slice (some ⟨g, 0, none⟩) (nm.length + 1) cap)).set 4 (.int .i64 ((a : Int) + 1))
  have hOw : OwnsU ((wA.setCell ⟨t, 5, none⟩ (.slice (some ⟨g, 0, none⟩) (nm.length + 1) cap)).setCell ⟨t, 4, none⟩ (.int .i64 ((a : Int) + 1))) base (some ⟨g, 0, none⟩) cap (nm ++ [x]) :=
    (K.own.far _ _ (by simpa [Value.ownBlock] using hgt.1)).far _ _ (by simpa [Value.ownBlock] using hgt.1)
  have hnoW : ∀ b ∈ blkS wa, b ∉ t :: blkS na := fun b k hm => (H.wb b k).2.2 (by
    rcases List.mem_cons.1 hm with e | e
    · simp [ownB, e]
    · simp [ownB, e])
  have hnoF : ∀ b ∈ blkS fa, b ∉ t :: blkS na := fun b k hm => (H.fb b k).2.2 (by
    rcases List.mem_cons.1 hm with e | e
    · simp [ownB, e]
    · simp [ownB, e])
  have hnoL : ∀ b ∈ blkS la, b ∉ t :: blkS na := fun b k hm => by
    rcases List.mem_cons.1 hm with e | e
    · exact H.lb b k e
    · exact (H.nb b e).2.2 k
  have hnolo : lo ∉ t :: blkS na := fun hm => by
    rcases List.mem_cons.1 hm with e | e
    · exact H.tl e.symm
    · exact (H.nb lo e).2.1 rfl
  have hown' : ∀ b, b ∉ ownB t lo ⟨wa, wc, na, nc, fa, fc, la, lc⟩ → b ≠ g → b ∉ ownB t lo ⟨wa, wc, some ⟨g, 0, none⟩, cap, fa, fc, la, lc⟩ := fun b h1 h2 h3 => by
    simp only [ownB, List.mem_cons, List.mem_append, not_or] at h1 h3
    rcases h3 with e | e | e | e
    · exact h1.1 e
    · exact h1.2.1 e
    · exact h2 (by simpa [blkS] using e)
    · exact h1.2.2.2 e
  refine ⟨⟨hBt2, U64s.heap H.words hF2.size fun b k hl => hF2.block b hl (hnoW b k), U64s.heap H.free hF2.size fun b k hl => hF2.block b hl (hnoF b k), hOw,
    ⟨hF2.blk H.list.head hnolo, OwnsU.heap H.list.own fun q hq => hF2.block q (H.list.own.lt q hq).2 (hnoL q (blkS_own hq)), H.list.ge, H.list.ne, H.list.room, H.list.len⟩, H.ge, H.tl,
    fun b k => ⟨(H.wb b k).1, Nat.lt_of_lt_of_le (H.wb b k).2.1 hF2.size, hown' b (H.wb b k).2.2 (fun e => hgt.2.2.2.1 (e ▸ k))⟩, fun b k => ⟨(H.fb b k).1, Nat.lt_of_lt_of_le (H.fb b k).2.1 hF2.size, hown' b (H.fb b k).2.2 (fun e => hgt.2.2.2.2 (e ▸ k))⟩,
    fun b k => by
      obtain rfl : b = g := by simpa [blkS] using k
      exact ⟨hgt.1, hgt.2.1, hgt.2.2.1⟩, H.lb, H.good, H.st, ⟨H.sm.1, by simp; omega, by simp only; omega⟩, H.cp⟩, ?_⟩
  refine (Mv.refl _ w).step hF (fun b k => .inl ?_) (fun b k => ?_)
  · rcases List.mem_cons.1 k with e | e
    · simp [allB, ownB, e]
    · simp [allB, ownB, e]
  · simp only [allB, ownB, List.mem_append, List.mem_cons] at k ⊢
    rcases k with (e | e | e | e) | e | e
    · exact .inl (.inl (.inl e))
    · exact .inl (.inl (.inr (.inl e)))
    · obtain rfl : b = g := by simpa [blkS] using e
      rcases hat with q | q
      · exact .inl (.inl (.inr (.inr (.inl q))))
      · exact .inr q
    · exact .inl (.inl (.inr (.inr (.inr e))))
    · exact .inl (.inr (.inl e))
    · exact .inl (.inr (.inr e))
set_option maxRecDepth 100000 in
set_option maxHeartbeats 6400000 in
theorem rtTell_any {o oc g gb gr T : Nat} {L : List (Int × Int)} {bs rs : List (List Value)} {base t lo : Nat} {r : Int} {A : Nat} {d : RA} {s : RS} (w : World) (h : MemB w base o oc g gb gr A T L bs rs) (R : RtAt w base o t lo r A d s) (hbw : base ≤ w.heap.size) (hout : outB T s = true) (ok : Bool) (word ver : Int) (x0 : 0 ≤ word ∧ word ≤ 18446744073709551615) (hnm : s.st = 1 → s.nm.length = s.at_ ∧ s.at_ < 1000) :
    Calls Try.prog 10 #[.pointer (some ⟨t, 0, none⟩), .agg #[.bool ok, .int .u64 word, .int .u64 ver, .int .i64 0, .int .i64 0, .string ⟨#[]⟩, .string ⟨#[]⟩, .bool false, .int .i64 0, .slice none 0 0, .slice none 0 0, .slice none 0 0, .int .i64 0, .int .i64 0, .string ⟨#[]⟩, .int .u64 0, .slice none 0 0, .slice none 0 0, .slice none 0 0, .slice none 0 0, .int .i64 0, .string ⟨#[]⟩, .string ⟨#[]⟩, .int .u64 0, .int .i64 0]] w (RtEnd w base o t lo r A d (tellS s word) (.tuple #[])) := by
  obtain ⟨W, st, a, nm, fr, l⟩ := s
  have hst2 := R.st
  simp only at hst2
  have hst : st = 0 ∨ st = 1 ∨ st = 2 := by omega
  rcases hst with rfl | rfl | rfl
  · have hb0 : Below w.heap.size w (w.alloc (.cells #[.bool ok, .int .u64 word, .int .u64 ver, .int .i64 0, .int .i64 0, .string ⟨#[]⟩, .string ⟨#[]⟩, .bool false, .int .i64 0, .slice none 0 0, .slice none 0 0, .slice none 0 0, .int .i64 0, .int .i64 0, .string ⟨#[]⟩, .int .u64 0, .slice none 0 0, .slice none 0 0, .slice none 0 0, .slice none 0 0, .int .i64 0, .string ⟨#[]⟩, .string ⟨#[]⟩, .int .u64 0, .int .i64 0] 55)) := by (repeat (first | exact Below.refl _ _ | assumption | refine below_alloc2 ?_ (by first | exact Nat.le_refl _ | omega) _ | refine Below.drew ?_ | refine below_drewN ?_ _ | refine below_push2 ?_ ‹_› (by first | exact Nat.le_refl _ | omega) | refine Below.setCell ?_ (by first | (simp; done) | (simp; omega) | omega) _))
    have BQ := Blk.new w #[.bool ok, .int .u64 word, .int .u64 ver, .int .i64 0, .int .i64 0, .string ⟨#[]⟩, .string ⟨#[]⟩, .bool false, .int .i64 0, .slice none 0 0, .slice none 0 0, .slice none 0 0, .int .i64 0, .int .i64 0, .string ⟨#[]⟩, .int .u64 0, .slice none 0 0, .slice none 0 0, .slice none 0 0, .slice none 0 0, .int .i64 0, .string ⟨#[]⟩, .string ⟨#[]⟩, .int .u64 0, .int .i64 0] 55
    have hlt := R.head.lt
    have h1 := h.under hb0
    have R1 := R.under hb0
    have hbw1 := Nat.le_trans hbw hb0.size
    have hq1 : w.heap.size < (w.alloc (.cells #[.bool ok, .int .u64 word, .int .u64 ver, .int .i64 0, .int .i64 0, .string ⟨#[]⟩, .string ⟨#[]⟩, .bool false, .int .i64 0, .slice none 0 0, .slice none 0 0, .slice none 0 0, .int .i64 0, .int .i64 0, .string ⟨#[]⟩, .int .u64 0, .slice none 0 0, .slice none 0 0, .slice none 0 0, .slice none 0 0, .int .i64 0, .string ⟨#[]⟩, .string ⟨#[]⟩, .int .u64 0, .int .i64 0] 55)).heap.size := by simp
    go_enter Try.func10, Try.ntmps10
    go_wp2_with fail
    generalize w.alloc (.cells #[.bool ok, .int .u64 word, .int .u64 ver, .int .i64 0, .int .i64 0, .string ⟨#[]⟩, .string ⟨#[]⟩, .bool false, .int .i64 0, .slice none 0 0, .slice none 0 0, .slice none 0 0, .int .i64 0, .int .i64 0, .string ⟨#[]⟩, .int .u64 0, .slice none 0 0, .slice none 0 0, .slice none 0 0, .slice none 0 0, .int .i64 0, .string ⟨#[]⟩, .string ⟨#[]⟩, .int .u64 0, .int .i64 0] 55) = wz at hb0 BQ h1 R1 hbw1 hq1 ⊢
    refine (rtNext_out wz h1 R1 hbw1 hout (show accS A T ⟨W, 0, a, nm, fr, l⟩ = (0, 0, 0, 0) from rfl) false rfl).mono ?_
    rintro e w1 ⟨d1, rfl, X1, M1⟩
    have hbA : Below w1.heap.size w1 (w1.alloc (.cells (accY 0 0 0 0) 50)) := (Below.refl _ w1).alloc (Nat.le_refl _) _
    have BQ2 := (M1.fr.blk BQ (fun hm => by have := R.all_ge _ hm; omega)).below hbA
    have X2 := X1.under hbA
    have M2 := ((Mv.new hb0).trans M1).under hbA
    clear X1 M1 h1 R1 BQ hb0
    generalize hW : w1.alloc (.cells (accY 0 0 0 0) 50) = w2 at BQ2 X2 M2
    replace hW := Lib.hid hW
    have hbw2 : base ≤ w2.heap.size := Nat.le_trans hbw M2.fr.size
    have q1 := BQ2.at 1 rfl
    obtain ⟨wa, wc, na, nc, fa, fc, la, lc⟩ := d1
    go_wp2_with (refine wpList_store_row rfl 50 _ _ rfl _ _ rfl rfl 50 _ (Blk.new w1 _ _).h (by kernel_rfl) (by rfl) (by kernel_rfl) ?_; rw [World.setRow_alloc_new, hW.out])
    try go_end0
    try refine bodyPost_ret (results_none rfl _ _ _) rfl ?_
    exact ⟨_, rfl, X2, M2⟩
  · have hnm1 : nm.length < 1000 ∧ a < 1000 := by have := hnm rfl; simp only at this; omega
    clear hnm
    have hb0 : Below w.heap.size w (w.alloc (.cells #[.bool ok, .int .u64 word, .int .u64 ver, .int .i64 0, .int .i64 0, .string ⟨#[]⟩, .string ⟨#[]⟩, .bool false, .int .i64 0, .slice none 0 0, .slice none 0 0, .slice none 0 0, .int .i64 0, .int .i64 0, .string ⟨#[]⟩, .int .u64 0, .slice none 0 0, .slice none 0 0, .slice none 0 0, .slice none 0 0, .int .i64 0, .string ⟨#[]⟩, .string ⟨#[]⟩, .int .u64 0, .int .i64 0] 55)) := by (repeat (first | exact Below.refl _ _ | assumption | refine below_alloc2 ?_ (by first | exact Nat.le_refl _ | omega) _ | refine Below.drew ?_ | refine below_drewN ?_ _ | refine below_push2 ?_ ‹_› (by first | exact Nat.le_refl _ | omega) | refine Below.setCell ?_ (by first | (simp; done) | (simp; omega) | omega) _))
    have BQ := Blk.new w #[.bool ok, .int .u64 word, .int .u64 ver, .int .i64 0, .int .i64 0, .string ⟨#[]⟩, .string ⟨#[]⟩, .bool false, .int .i64 0, .slice none 0 0, .slice none 0 0, .slice none 0 0, .int .i64 0, .int .i64 0, .string ⟨#[]⟩, .int .u64 0, .slice none 0 0, .slice none 0 0, .slice none 0 0, .slice none 0 0, .int .i64 0, .string ⟨#[]⟩, .string ⟨#[]⟩, .int .u64 0, .int .i64 0] 55
    have hlt := R.head.lt
    have h1 := h.under hb0
    have R1 := R.under hb0
    have hbw1 := Nat.le_trans hbw hb0.size
    have hq1 : w.heap.size < (w.alloc (.cells #[.bool ok, .int .u64 word, .int .u64 ver, .int .i64 0, .int .i64 0, .string ⟨#[]⟩, .string ⟨#[]⟩, .bool false, .int .i64 0, .slice none 0 0, .slice none 0 0, .slice none 0 0, .int .i64 0, .int .i64 0, .string ⟨#[]⟩, .int .u64 0, .slice none 0 0, .slice none 0 0, .slice none 0 0, .slice none 0 0, .int .i64 0, .string ⟨#[]⟩, .string ⟨#[]⟩, .int .u64 0, .int .i64 0] 55)).heap.size := by simp
    go_enter Try.func10, Try.ntmps10
    go_wp2_with fail
    generalize w.alloc (.cells #[.bool ok, .int .u64 word, .int .u64 ver, .int .i64 0, .int .i64 0, .string ⟨#[]⟩, .string ⟨#[]⟩, .bool false, .int .i64 0, .slice none 0 0, .slice none 0 0, .slice none 0 0, .int .i64 0, .int .i64 0, .string ⟨#[]⟩, .int .u64 0, .slice none 0 0, .slice none 0 0, .slice none 0 0, .slice none 0 0, .int .i64 0, .string ⟨#[]⟩, .string ⟨#[]⟩, .int .u64 0, .int .i64 0] 55) = wz at hb0 BQ h1 R1 hbw1 hq1 ⊢
    refine (rtNext_out wz h1 R1 hbw1 hout (show accS A T ⟨W, 1, a, nm, fr, l⟩ = (1, hazI A T ((a : Int) / 2) ((a : Int) % 2), 0, 0) from rfl) true rfl).mono ?_
    rintro e w1 ⟨d1, rfl, X1, M1⟩
    have hbA : Below w1.heap.size w1 (w1.alloc (.cells (accY 1 (hazI A T ((a : Int) / 2) ((a : Int) % 2)) 0 0) 50)) := (Below.refl _ w1).alloc (Nat.le_refl _) _
    have BQ2 := (M1.fr.blk BQ (fun hm => by have := R.all_ge _ hm; omega)).below hbA
    have X2 := X1.under hbA
    have M2 := ((Mv.new hb0).trans M1).under hbA
    clear X1 M1 h1 R1 BQ hb0
    generalize hW : w1.alloc (.cells (accY 1 (hazI A T ((a : Int) / 2) ((a : Int) % 2)) 0 0) 50) = w2 at BQ2 X2 M2
    replace hW := Lib.hid hW
    have hbw2 : base ≤ w2.heap.size := Nat.le_trans hbw M2.fr.size
    have q1 := BQ2.at 1 rfl
    obtain ⟨wa, wc, na, nc, fa, fc, la, lc⟩ := d1
    have c3 : w2.cell? ⟨t, 3, none⟩ = some (.int .i64 1) := X2.head.at 3 rfl
    have c5 : w2.cell? ⟨t, 5, none⟩ = some (.slice na nm.length nc) := X2.head.at 5 rfl
    have hK1 : Below w2.heap.size w2 ((w2.alloc (.cells #[.int .u64 word] 35)).drew) := ((Below.refl _ w2).alloc (Nat.le_refl _) _).drew
    have HX : U64s ((w2.alloc (.cells #[.int .u64 word] 35)).drew) (some ⟨w2.heap.size, 0, none⟩) [word] :=
      ⟨Holds.of_blk' (Blk.new w2 #[.int .u64 word] 35).drew _ _ (fun i hi => by rcases i with _ | i <;> first | rfl | (simp at hi; try omega)), by simpa using x0, by simp⟩
    obtain ⟨g', cap', wA, K⟩ := addAll base (X2.under hK1).named (c' := 1) HX (by simp) (by simp; omega) (by simp; omega)
    have hrun := Lib.hid K.run
    have hend := X2.name1 hK1 K (by omega)
    have hBt : Blk wA t (rtA o lo ⟨wa, wc, na, nc, fa, fc, la, lc⟩ ⟨W, 1, a, nm, fr, l⟩) 77 := (X2.under hK1).head.grown K.grown (fun e => (X2.nb t (blkS_own e.symm)).1 rfl)
    have d5 : wA.cell? ⟨t, 5, none⟩ = some (.slice na nm.length nc) := hBt.at 5 rfl
    have d4 : wA.cell? ⟨t, 4, none⟩ = some (.int .i64 a) := hBt.at 4 rfl
    have f5 := hBt.free 5
    have f4 := hBt.free 4
    have hw : IntKind.i64.wrap ((a : Int) + 1) = (a : Int) + 1 := by rw [IntKind.wrap_i64]; omega
    have hqA : w.heap.size < w2.heap.size := by have := BQ2.lt; omega
    have htA : t < w2.heap.size := X2.head.lt
    clear K HX hK1 hBt X2
    go_upto_region 5 with (refine wpList_store_row rfl 50 _ _ rfl _ _ rfl rfl 50 _ (Blk.new w1 _ _).h (by kernel_rfl) (by rfl) (by kernel_rfl) ?_; rw [World.setRow_alloc_new, hW.out])
    go_region_law (
      ((with_reducible (show @ite _ _ _ (Oper.wp _ _ _ ((w2.alloc (.cells #[.int .u64 word] 35)).drew) _ _) _)); refine step_append_run hrun.out rfl (by rfl) (by rfl) (by rfl) ?_))
    all_goals
      go_wp2_with fail
      try go_end0
      try refine bodyPost_ret (results_none rfl _ _ _) rfl ?_
      exact ⟨_, rfl, hend.1, M2.trans hend.2⟩
  · have hb0 : Below w.heap.size w (w.alloc (.cells #[.bool ok, .int .u64 word, .int .u64 ver, .int .i64 0, .int .i64 0, .string ⟨#[]⟩, .string ⟨#[]⟩, .bool false, .int .i64 0, .slice none 0 0, .slice none 0 0, .slice none 0 0, .int .i64 0, .int .i64 0, .string ⟨#[]⟩, .int .u64 0, .slice none 0 0, .slice none 0 0, .slice none 0 0, .slice none 0 0, .int .i64 0, .string ⟨#[]⟩, .string ⟨#[]⟩, .int .u64 0, .int .i64 0] 55)) := by (repeat (first | exact Below.refl _ _ | assumption | refine below_alloc2 ?_ (by first | exact Nat.le_refl _ | omega) _ | refine Below.drew ?_ | refine below_drewN ?_ _ | refine below_push2 ?_ ‹_› (by first | exact Nat.le_refl _ | omega) | refine Below.setCell ?_ (by first | (simp; done) | (simp; omega) | omega) _))
    have BQ := Blk.new w #[.bool ok, .int .u64 word, .int .u64 ver, .int .i64 0, .int .i64 0, .string ⟨#[]⟩, .string ⟨#[]⟩, .bool false, .int .i64 0, .slice none 0 0, .slice none 0 0, .slice none 0 0, .int .i64 0, .int .i64 0, .string ⟨#[]⟩, .int .u64 0, .slice none 0 0, .slice none 0 0, .slice none 0 0, .slice none 0 0, .int .i64 0, .string ⟨#[]⟩, .string ⟨#[]⟩, .int .u64 0, .int .i64 0] 55
    have hlt := R.head.lt
    have h1 := h.under hb0
    have R1 := R.under hb0
    have hbw1 := Nat.le_trans hbw hb0.size
    have hq1 : w.heap.size < (w.alloc (.cells #[.bool ok, .int .u64 word, .int .u64 ver, .int .i64 0, .int .i64 0, .string ⟨#[]⟩, .string ⟨#[]⟩, .bool false, .int .i64 0, .slice none 0 0, .slice none 0 0, .slice none 0 0, .int .i64 0, .int .i64 0, .string ⟨#[]⟩, .int .u64 0, .slice none 0 0, .slice none 0 0, .slice none 0 0, .slice none 0 0, .int .i64 0, .string ⟨#[]⟩, .string ⟨#[]⟩, .int .u64 0, .int .i64 0] 55)).heap.size := by simp
    go_enter Try.func10, Try.ntmps10
    go_wp2_with fail
    generalize w.alloc (.cells #[.bool ok, .int .u64 word, .int .u64 ver, .int .i64 0, .int .i64 0, .string ⟨#[]⟩, .string ⟨#[]⟩, .bool false, .int .i64 0, .slice none 0 0, .slice none 0 0, .slice none 0 0, .int .i64 0, .int .i64 0, .string ⟨#[]⟩, .int .u64 0, .slice none 0 0, .slice none 0 0, .slice none 0 0, .slice none 0 0, .int .i64 0, .string ⟨#[]⟩, .string ⟨#[]⟩, .int .u64 0, .int .i64 0] 55) = wz at hb0 BQ h1 R1 hbw1 hq1 ⊢
    refine (rtNext_out wz h1 R1 hbw1 hout (show accS A T ⟨W, 2, a, nm, fr, l⟩ = (2, atI A T 1 (openP (at0 fr 0)), 0, freedI (at0 fr 0)) from rfl) true rfl).mono ?_
    rintro e w1 ⟨d1, rfl, X1, M1⟩
    have hbA : Below w1.heap.size w1 (w1.alloc (.cells (accY 2 (atI A T 1 (openP (at0 fr 0))) 0 (freedI (at0 fr 0))) 50)) := (Below.refl _ w1).alloc (Nat.le_refl _) _
    have BQ2 := (M1.fr.blk BQ (fun hm => by have := R.all_ge _ hm; omega)).below hbA
    have X2 := X1.under hbA
    have M2 := ((Mv.new hb0).trans M1).under hbA
    clear X1 M1 h1 R1 BQ hb0
    generalize hW : w1.alloc (.cells (accY 2 (atI A T 1 (openP (at0 fr 0))) 0 (freedI (at0 fr 0))) 50) = w2 at BQ2 X2 M2
    replace hW := Lib.hid hW
    have hbw2 : base ≤ w2.heap.size := Nat.le_trans hbw M2.fr.size
    have q1 := BQ2.at 1 rfl
    obtain ⟨wa, wc, na, nc, fa, fc, la, lc⟩ := d1
    have hf : fr ≠ [] := by
      simp only [outB] at hout
      simpa using hout
    have c3 : w2.cell? ⟨t, 3, none⟩ = some (.int .i64 2) := X2.head.at 3 rfl
    have c6 : w2.cell? ⟨t, 6, none⟩ = some (.slice fa fr.length fc) := X2.head.at 6 rfl
    have f6 := X2.head.free 6
    have hfl : 1 ≤ fr.length := by rcases fr with _ | ⟨x, fr⟩ <;> simp_all
    have hfl0 : 0 < fr.length := hfl
    have hfl1 : (1 : Int) ≤ (fr.length : Int) := by omega
    have hrest := run_rest fa fr.length fc hfl
    have hF3 := U64s.rest X2.free X2.cp.2
    have hFr : Fr [t] w2 (w2.setCell ⟨t, 6, none⟩ (.slice (rest1 fa fc) (fr.length - 1) (fc - 1))) := Fr.set (Fr.refl _ _) _ _ (.inl (by simp))
    have hB : Blk (w2.setCell ⟨t, 6, none⟩ (.slice (rest1 fa fc) (fr.length - 1) (fc - 1))) t (rtA o lo ⟨wa, wc, na, nc, rest1 fa fc, fc - 1, la, lc⟩ ⟨W, 2, a, nm, fr.tail, l⟩) 77 := by
      simpa [rtA, rtZ] using X2.head.set 6 (.slice (rest1 fa fc) (fr.length - 1) (fc - 1))
    have K := X2.put hFr hB ⟨rfl, rfl, rfl⟩ ⟨X2.words, fun b h => h⟩ ⟨hF3, rest1_blk _ _⟩ (.inl ⟨rfl, rfl, rfl⟩) ⟨X2.good.1, fun y hy => X2.good.2.1 y (List.mem_of_mem_tail hy)⟩ (by simp) ⟨X2.sm.1, X2.sm.2.2⟩ ⟨X2.cp.1, by have := X2.cp.2; simp only [List.length_tail] at this ⊢; omega⟩
    clear hFr hB hF3 X2
    go_wp2_with (refine wpList_store_row rfl 50 _ _ rfl _ _ rfl rfl 50 _ (Blk.new w1 _ _).h (by kernel_rfl) (by rfl) (by kernel_rfl) ?_; rw [World.setRow_alloc_new, hW.out])
    try go_end0
    try refine bodyPost_ret (results_none rfl _ _ _) rfl ?_
    exact ⟨_, rfl, K.1, M2.trans K.2⟩
end Go.Proofs.Ytchkiacmiljopaa.MemP
