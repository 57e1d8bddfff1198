/-
  CarryNobody: a task of carrying out that is none, or of no memory, or of a gate that is neither planned nor short, does nothing. For every helper and every gate; no condition.
-/
import Derived.Test.YtpmlbdnhgeeaoaaLift
import Derived.Test.YtpmlbdnhgeeaoaaCarryL
import Derived.Test.YtpmlbdnhgeeaoaaRecs
namespace Go.Proofs.Ytpmlbdnhgeeaoaa.carryNobody
open Go.ChangeShapes Go.WideShapes Go.ChangeAt Go.RowKit RefP CellP MemP
set_option linter.unusedVariables false
set_option linter.unusedSimpArgs false
abbrev ptrF (p : Option Addr) (_ : Nat) : Value := .pointer p
abbrev OwnP (w : World) (base : Nat) (a : Option Addr) (c : Nat) (l : List (Option Addr)) : Prop := OwnR 1 ptrF none w base 136 a c l
theorem infoPtr : (Try.prog.info? 136).map (fun i => (i.zero, i.size, i.bytes)) = some (some (.pointer none), 1, 8) := by kernel_rfl
theorem ownP3 {w : World} {base b : Nat} {p q r : Option Addr} (B : Blk w b #[.pointer p, .pointer q, .pointer r] 136) (hb : base ≤ b) : OwnP w base (some ⟨b, 0, none⟩) 3 [p, q, r] :=
  ⟨⟨by rw [rowL_length], .inr ⟨b, 3, _, rfl, hb, B.h, Nat.le_refl _, by decide, rfl, by simp [rowL, recF, List.range_succ]⟩⟩⟩
theorem addPtr {w : World} (base : Nat) {a : Option Addr} {c : Nat} {l : List (Option Addr)} (h : OwnP w base a c l) {b : Nat} (p : Option Addr) (B : Blk w b #[.pointer p] 136) (hn : l.length + 1 ≤ 60000) (hbase : base ≤ w.heap.size) :
    ∃ g cap w', AddedR Try.prog 1 ptrF none w base 149 136 a c l (.slice (some ⟨b, 0, none⟩) 1 1) 1 (l ++ [p]) g cap w' := by
  obtain ⟨i0, hi, hz0, hz1, hz2⟩ := info_parts' infoPtr
  have hx : RecS 1 ptrF none w (some ⟨b, 0, none⟩) [p] := rec_lit B p (fun j hj => by
    have e : j = 0 := by omega
    subst e
    rfl)
  exact addRecs base _ _ i0 _ 8 Try.underlying149 hi hz0 hz1 hz2 (by simp [Value.cells]) (by omega) (fun _ _ _ => rfl) h hx (by simp) (by simp [maxLen]; omega) (by simp; omega) hbase
/-- each is none -/
def Nones (w : World) (ps : List (Option Addr)) : Prop := ∀ p ∈ ps, p = none ∨ ∃ t, p = some ⟨t, 0, none⟩ ∧ NoCar w t false
theorem Nones.below {w w' : World} {ps : List (Option Addr)} (h : Nones w ps) (hb : Below w.heap.size w w') : Nones w' ps := fun p hp => by
  rcases h p hp with h | ⟨t, e, h⟩
  · exact .inl h
  · exact .inr ⟨t, e, h.below hb⟩
theorem row_cell {w : World} {a : Option Addr} {l : List (Option Addr)} (h : RecS 1 ptrF none w a l) (k : Nat) (hk : k < l.length) : ∃ b off, a = some ⟨b, off, none⟩ ∧ b < w.heap.size ∧ w.cell? ⟨b, off + k, none⟩ = some (.pointer (l.getD k none)) := by
  obtain ⟨b, off, e, hb, hc⟩ := h.cell k hk (by omega)
  refine ⟨b, off, e, hb, ?_⟩
  have := hc 0 (by omega)
  simpa using this
theorem getD_mem (l : List (Option Addr)) (k : Nat) (hk : k < l.length) : l.getD k none ∈ l := by
  simp [List.getD, hk]
set_option maxRecDepth 100000 in
set_option maxHeartbeats 6400000 in
theorem walk (h s t x : Int) (w : World) (h0 : -9223372036854775808 ≤ h ∧ h ≤ 9223372036854775807) (s0 : -9223372036854775808 ≤ s) (s1 : s ≤ 9223372036854775807) (t0 : -9223372036854775808 ≤ t) (t1 : t ≤ 9223372036854775807) (x0 : 0 ≤ x) (x1 : x ≤ 18446744073709551615) :
    Calls Try.prog 16 #[.int .i64 h, .agg #[.int .i64 s, .int .i64 t, .int .u64 x]] w fun e w' => e = .returned (.bool true) ∧ Below w.heap.size w w' := by
  have hb2 : Below w.heap.size w ((w.alloc (.cells #[.int .i64 s, .int .i64 t, .int .u64 x] 135)).alloc (.cells (carA none 0 0 0 0 0 0 (.slice none 0 0) 0 false false) 152)) := by (repeat (first | exact Below.refl _ _ | assumption | refine below_alloc2 ?_ (by first | exact Nat.le_refl _ | omega) _ | refine Below.drew ?_ | refine below_drewN ?_ _ | refine below_push2 ?_ ‹_› (by first | exact Nat.le_refl _ | omega) | refine Below.setCell ?_ (by first | (simp; done) | (simp; omega) | omega) _))
  have BG := (Blk.new w #[.int .i64 s, .int .i64 t, .int .u64 x] 135).alloc (.cells (carA none 0 0 0 0 0 0 (.slice none 0 0) 0 false false) 152)
  have BT : Blk ((w.alloc (.cells #[.int .i64 s, .int .i64 t, .int .u64 x] 135)).alloc (.cells (carA none 0 0 0 0 0 0 (.slice none 0 0) 0 false false) 152)) (w.heap.size + 1) (carA none 0 0 0 0 0 0 (.slice none 0 0) 0 false false) 152 := by
    have := Blk.new (w.alloc (.cells #[.int .i64 s, .int .i64 t, .int .u64 x] 135)) (carA none 0 0 0 0 0 0 (.slice none 0 0) 0 false false) 152
    simpa using this
  go_enter Try.func16, Try.ntmps16
  go_wp2_with fail
  refine (mnew_yes 3 2 0 _ (by omega) (by omega) (by omega) (by omega) (by omega) (by omega)).mono ?_
  rintro e w1 ⟨o, oc, g, gb, gr, rfl, hM, hb1, ho, hoc, hg, hgb, hgr⟩
  have l1 := hM.head.lt
  have l2 := hM.cells.head.lt
  have l3 := hM.cells.rows.lt
  have l4 := hM.blocks.lt
  have l5 := hM.records.lt
  have hB1 := below_push2 hb2 hb1 (Nat.le_refl _)
  replace BG := BG.below hb1
  replace BT := BT.below hb1
  have hB1t := BT.lt
  have g0 := BG.at 0 rfl
  have g1 := BG.at 1 rfl
  have g2 := BG.at 2 rfl
  clear hb2 hb1
  go_wp2_with fail
  refine (cnew_nil h s t x 0 _ s0 s1 t0 t1 x0 x1).mono ?_
  rintro e w2 ⟨rfl, BN, hb2⟩
  have hB2 := below_push2 hB1 hb2 (Nat.le_refl _)
  replace BG := BG.below hb2
  replace BT := BT.below hb2
  replace hM := hM.below hb2
  have l6 := hb2.size
  have l7 := BN.lt
  have l8 : w.heap.size + 1 < w1.heap.size := hB1t
  clear g0 g1 g2 hB1 hb2
  have hB3 := below_alloc2 hB2 (Nat.le_refl _) (.cells #[.pointer none, .pointer (some ⟨w.heap.size + 1, 0, none⟩), .pointer (some ⟨w1.heap.size + 1, 0, none⟩)] 136)
  have BL := Blk.new w2 #[.pointer none, .pointer (some ⟨w.heap.size + 1, 0, none⟩), .pointer (some ⟨w1.heap.size + 1, 0, none⟩)] 136
  replace BG := BG.alloc (.cells #[.pointer none, .pointer (some ⟨w.heap.size + 1, 0, none⟩), .pointer (some ⟨w1.heap.size + 1, 0, none⟩)] 136)
  replace BT := BT.alloc (.cells #[.pointer none, .pointer (some ⟨w.heap.size + 1, 0, none⟩), .pointer (some ⟨w1.heap.size + 1, 0, none⟩)] 136)
  replace BN := BN.alloc (.cells #[.pointer none, .pointer (some ⟨w.heap.size + 1, 0, none⟩), .pointer (some ⟨w1.heap.size + 1, 0, none⟩)] 136)
  replace hM := hM.below ((Below.refl _ w2).alloc (Nat.le_refl _) (.cells #[.pointer none, .pointer (some ⟨w.heap.size + 1, 0, none⟩), .pointer (some ⟨w1.heap.size + 1, 0, none⟩)] 136))
  have g0 := BG.at 0 rfl
  have g1 := BG.at 1 rfl
  have g2 := BG.at 2 rfl
  have hs2 := hB2.size
  have hN3 : Nones (w2.alloc (.cells #[.pointer none, .pointer (some ⟨w.heap.size + 1, 0, none⟩), .pointer (some ⟨w1.heap.size + 1, 0, none⟩)] 136)) [none, some ⟨w.heap.size + 1, 0, none⟩, some ⟨w1.heap.size + 1, 0, none⟩] := by
    intro p hp
    simp only [List.mem_cons, List.mem_nil_iff, or_false] at hp
    rcases hp with rfl | rfl | rfl
    · exact .inl rfl
    · exact .inr ⟨_, rfl, _, _, _, _, _, _, _, _, _, BT, .inl rfl⟩
    · exact .inr ⟨_, rfl, _, _, _, _, _, _, _, _, _, BN, .inl rfl⟩
  have O3 := ownP3 (base := w.heap.size) BL hs2
  clear BL BG
  by_cases e2 : s = 2
  · have q2 : (s != 2) = false := by simpa using e2
    clear e2 BT BN hM
    go_wp2_with fail
    have hB := hB3
    have hR := O3.read
    have hN := hN3
    generalize hps : ([none, some ⟨w.heap.size + 1, 0, none⟩, some ⟨w1.heap.size + 1, 0, none⟩] : List (Option Addr)) = ps at hR hN
    have hl : ps.length = 3 := by rw [← hps]; rfl
    clear hps hN3 O3 hB3
    go_loopw [34] (fun i wr => ∃ k : Nat, k ≤ 3 ∧ i = .int .i64 k ∧ Below w.heap.size w wr ∧ RecS 1 ptrF none wr (some ⟨w2.heap.size, 0, none⟩) ps ∧ Nones wr ps) (fun i _ => 3 - (intOf i).toNat)
    case atStart => exact ⟨0, Nat.zero_le _, rfl, hB, hR, hN⟩
    case round =>
      clear hB hR hN
      obtain ⟨k, hk, rfl, hB, hR, hN⟩ := hrel
      by_cases hlt : k < 3
      · have hltp : k < ps.length := by omega
        obtain ⟨b, off, e, hbl, hc⟩ := row_cell hR k hltp
        simp only [Option.some.injEq, Addr.mk.injEq, and_true] at e
        obtain ⟨rfl, rfl⟩ := e
        have hp := hN _ (getD_mem ps k hltp)
        have hlt' : (k : Int) < 3 := by omega
        clear hltp
        rw [Nat.zero_add] at hc
        generalize ps.getD k none = p at hc hp
        rcases hp with rfl | ⟨t, rfl, hT⟩
        · go_wp2_with fail
          refine (cTell_nil _).mono ?_
          rintro e w5 ⟨rfl, hb5⟩
          go_wp2_with fail
          refine (cNext_nil _).mono ?_
          rintro e w6 ⟨rfl, hb6⟩
          have hb7 := ((below_push2 hb5 hb6 (Nat.le_refl _))).alloc (by have h5 := hb5.size; have h6 := hb6.size; omega) (.cells (accY 0 0 0 0) 39)
          generalize hW : w6.alloc (.cells (accY 0 0 0 0) 39) = w7 at hb7
          replace hW := Lib.hid hW
          go_wp2_with (refine wpList_store_row rfl 39 _ _ rfl _ _ rfl rfl 39 _ (Blk.new w6 _ _).h (by kernel_rfl) (by rfl) (by kernel_rfl) ?_; rw [World.setRow_alloc_new, hW.out])
          clear hW
          refine (cTurned_nil _).mono ?_
          rintro e wx ⟨rfl, rfl⟩
          go_wp2_with fail
          refine (cEnded_nil _).mono ?_
          rintro e wx ⟨rfl, rfl⟩
          go_wp2_with fail
          go_roundw
          case rel => exact ⟨k + 1, by omega, by go_num, below_push2 hB hb7 (Nat.le_refl _), RecS.below hR hb7, hN.below hb7⟩
          case measure => simp [intOf]; omega
        · go_wp2_with fail
          refine (cTell_no t false _ hT).mono ?_
          rintro e w5 ⟨rfl, hb5⟩
          go_wp2_with fail
          refine (cNext_no t false _ (hT.below hb5)).mono ?_
          rintro e w6 ⟨rfl, hb6⟩
          have hb7 := ((below_push2 hb5 hb6 (Nat.le_refl _))).alloc (by have h5 := hb5.size; have h6 := hb6.size; omega) (.cells (accY 0 0 0 0) 39)
          generalize hW : w6.alloc (.cells (accY 0 0 0 0) 39) = w7 at hb7
          replace hW := Lib.hid hW
          go_wp2_with (refine wpList_store_row rfl 39 _ _ rfl _ _ rfl rfl 39 _ (Blk.new w6 _ _).h (by kernel_rfl) (by rfl) (by kernel_rfl) ?_; rw [World.setRow_alloc_new, hW.out])
          clear hW
          obtain ⟨q0, q1, q2, q3, q4, q5, q6, q7, q8, BT, hq⟩ := hT.below hb7
          clear hq
          refine (cTurned_any t _ _ _ _ _ _ _ _ _ _ _ _ BT).mono ?_
          rintro e wx ⟨rfl, rfl⟩
          go_wp2_with fail
          refine (cEnded_any t _ _ _ _ _ _ _ _ _ _ _ _ BT).mono ?_
          rintro e wx ⟨rfl, rfl⟩
          go_wp2_with fail
          go_roundw
          case rel => exact ⟨k + 1, by omega, by go_num, below_push2 hB hb7 (Nat.le_refl _), RecS.below hR hb7, hN.below hb7⟩
          case measure => simp [intOf]; omega
      · obtain rfl : k = 3 := by omega
        go_wp2_with fail
        refine (carLives_any _).mono ?_
        rintro e w5 ⟨rfl, hb5⟩
        go_wp2_with fail
        go_ret
        exact ⟨rfl, below_push2 hB hb5 (Nat.le_refl _)⟩
  by_cases e3 : s = 3
  · have q2 : (s != 2) = true := by simpa using e2
    have q3 : (s != 3) = false := by simpa using e3
    clear e2 e3 BT BN hM
    go_wp2_with fail
    have hB := hB3
    have hR := O3.read
    have hN := hN3
    generalize hps : ([none, some ⟨w.heap.size + 1, 0, none⟩, some ⟨w1.heap.size + 1, 0, none⟩] : List (Option Addr)) = ps at hR hN
    have hl : ps.length = 3 := by rw [← hps]; rfl
    clear hps hN3 O3 hB3
    go_loopw [34] (fun i wr => ∃ k : Nat, k ≤ 3 ∧ i = .int .i64 k ∧ Below w.heap.size w wr ∧ RecS 1 ptrF none wr (some ⟨w2.heap.size, 0, none⟩) ps ∧ Nones wr ps) (fun i _ => 3 - (intOf i).toNat)
    case atStart => exact ⟨0, Nat.zero_le _, rfl, hB, hR, hN⟩
    case round =>
      clear hB hR hN
      obtain ⟨k, hk, rfl, hB, hR, hN⟩ := hrel
      by_cases hlt : k < 3
      · have hltp : k < ps.length := by omega
        obtain ⟨b, off, e, hbl, hc⟩ := row_cell hR k hltp
        simp only [Option.some.injEq, Addr.mk.injEq, and_true] at e
        obtain ⟨rfl, rfl⟩ := e
        have hp := hN _ (getD_mem ps k hltp)
        have hlt' : (k : Int) < 3 := by omega
        clear hltp
        rw [Nat.zero_add] at hc
        generalize ps.getD k none = p at hc hp
        rcases hp with rfl | ⟨t, rfl, hT⟩
        · go_wp2_with fail
          refine (cTell_nil _).mono ?_
          rintro e w5 ⟨rfl, hb5⟩
          go_wp2_with fail
          refine (cNext_nil _).mono ?_
          rintro e w6 ⟨rfl, hb6⟩
          have hb7 := ((below_push2 hb5 hb6 (Nat.le_refl _))).alloc (by have h5 := hb5.size; have h6 := hb6.size; omega) (.cells (accY 0 0 0 0) 39)
          generalize hW : w6.alloc (.cells (accY 0 0 0 0) 39) = w7 at hb7
          replace hW := Lib.hid hW
          go_wp2_with (refine wpList_store_row rfl 39 _ _ rfl _ _ rfl rfl 39 _ (Blk.new w6 _ _).h (by kernel_rfl) (by rfl) (by kernel_rfl) ?_; rw [World.setRow_alloc_new, hW.out])
          clear hW
          refine (cTurned_nil _).mono ?_
          rintro e wx ⟨rfl, rfl⟩
          go_wp2_with fail
          refine (cEnded_nil _).mono ?_
          rintro e wx ⟨rfl, rfl⟩
          go_wp2_with fail
          go_roundw
          case rel => exact ⟨k + 1, by omega, by go_num, below_push2 hB hb7 (Nat.le_refl _), RecS.below hR hb7, hN.below hb7⟩
          case measure => simp [intOf]; omega
        · go_wp2_with fail
          refine (cTell_no t false _ hT).mono ?_
          rintro e w5 ⟨rfl, hb5⟩
          go_wp2_with fail
          refine (cNext_no t false _ (hT.below hb5)).mono ?_
          rintro e w6 ⟨rfl, hb6⟩
          have hb7 := ((below_push2 hb5 hb6 (Nat.le_refl _))).alloc (by have h5 := hb5.size; have h6 := hb6.size; omega) (.cells (accY 0 0 0 0) 39)
          generalize hW : w6.alloc (.cells (accY 0 0 0 0) 39) = w7 at hb7
          replace hW := Lib.hid hW
          go_wp2_with (refine wpList_store_row rfl 39 _ _ rfl _ _ rfl rfl 39 _ (Blk.new w6 _ _).h (by kernel_rfl) (by rfl) (by kernel_rfl) ?_; rw [World.setRow_alloc_new, hW.out])
          clear hW
          obtain ⟨q0, q1, q2, q3, q4, q5, q6, q7, q8, BT, hq⟩ := hT.below hb7
          clear hq
          refine (cTurned_any t _ _ _ _ _ _ _ _ _ _ _ _ BT).mono ?_
          rintro e wx ⟨rfl, rfl⟩
          go_wp2_with fail
          refine (cEnded_any t _ _ _ _ _ _ _ _ _ _ _ _ BT).mono ?_
          rintro e wx ⟨rfl, rfl⟩
          go_wp2_with fail
          go_roundw
          case rel => exact ⟨k + 1, by omega, by go_num, below_push2 hB hb7 (Nat.le_refl _), RecS.below hR hb7, hN.below hb7⟩
          case measure => simp [intOf]; omega
      · obtain rfl : k = 3 := by omega
        go_wp2_with fail
        refine (carLives_any _).mono ?_
        rintro e w5 ⟨rfl, hb5⟩
        go_wp2_with fail
        go_ret
        exact ⟨rfl, below_push2 hB hb5 (Nat.le_refl _)⟩
  have q2 : (s != 2) = true := by simpa using e2
  have q3 : (s != 3) = true := by simpa using e3
  go_wp2_with fail
  clear g0 g1 g2 hN3
  generalize hW3 : w2.alloc (.cells #[.pointer none, .pointer (some ⟨w.heap.size + 1, 0, none⟩), .pointer (some ⟨w1.heap.size + 1, 0, none⟩)] 136) = w3 at hB3 O3 BT BN hM ⊢
  have hs3 : w2.heap.size + 1 ≤ w3.heap.size := by rw [← hW3]; simp
  clear hW3
  refine (cnew_not (some ⟨o, 0, none⟩) h s t x 0 _ e2 e3 s0 s1 t0 t1 x0 x1).mono ?_
  rintro e w4 ⟨rfl, BN4, hb4⟩
  have hB4 := below_push2 hB3 hb4 (Nat.le_refl _)
  replace hM := hM.below hb4
  replace BT := BT.below hb4
  replace BN := BN.below hb4
  have O4 := OwnR.below O3 hb4
  have hs4 := hB4.size
  have hl4 := BN4.lt
  clear O3 hB3 hb4
  have hb5 : Below w4.heap.size w4 (w4.alloc (.cells #[.pointer (some ⟨w3.heap.size + 1, 0, none⟩)] 136)) := (Below.refl _ w4).alloc (Nat.le_refl _) _
  have hB5 := below_push2 hB4 hb5 (Nat.le_refl _)
  have B5 := Blk.new w4 #[.pointer (some ⟨w3.heap.size + 1, 0, none⟩)] 136
  have O5 := OwnR.below O4 hb5
  replace hM := hM.below hb5
  replace BT := BT.below hb5
  replace BN := BN.below hb5
  replace BN4 := BN4.below hb5
  obtain ⟨g', cap', w6, K⟩ := addPtr w.heap.size O5 (some ⟨w3.heap.size + 1, 0, none⟩) B5 (by simp) (by simp; omega)
  have hrun := Lib.hid K.run
  have hB6 : Below w.heap.size w w6 := K.keeps (fun q e => (OwnR.lt O5 q e).1) w _ (Nat.le_refl _) hB5 (by simp; omega)
  have hR6 := K.own.read
  have hgr := K.grown
  have hF6 : Fr [w2.heap.size] (w4.alloc (.cells #[.pointer (some ⟨w3.heap.size + 1, 0, none⟩)] 136)) w6 := Fr.of_grown hgr (fun q e => by simp [Value.ownBlock] at e; simp [e])
  have hM6 := hM.off hF6 (by simp; omega)
  have BT6 := hF6.blk BT (by simp; omega)
  have BN6 := hF6.blk BN (by simp; omega)
  have BM6 := hF6.blk BN4 (by simp; omega)
  have hN6 : Nones w6 ([none, some ⟨w.heap.size + 1, 0, none⟩, some ⟨w1.heap.size + 1, 0, none⟩] ++ [some ⟨w3.heap.size + 1, 0, none⟩]) := by
    intro p hp
    simp only [List.mem_append, List.mem_cons, List.mem_nil_iff, or_false] at hp
    rcases hp with (rfl | rfl | rfl) | rfl
    · exact .inl rfl
    · exact .inr ⟨_, rfl, _, _, _, _, _, _, _, _, _, BT6, .inl rfl⟩
    · exact .inr ⟨_, rfl, _, _, _, _, _, _, _, _, _, BN6, .inl rfl⟩
    · exact .inr ⟨_, rfl, _, _, _, _, _, _, _, _, _, BM6, .inr ⟨rfl, _, _, _, _, _, _, _, _, _, _, rfl, hM6⟩⟩
  clear hM BT BN BN4 B5 O4 O5 hb5 hB5 hB4 hgr K hF6 hM6 BT6 BN6 BM6 e2 e3 q2 q3
  have hB := hB6
  have hR := hR6
  have hN := hN6
  generalize hps : ([none, some ⟨w.heap.size + 1, 0, none⟩, some ⟨w1.heap.size + 1, 0, none⟩] ++ [some ⟨w3.heap.size + 1, 0, none⟩] : List (Option Addr)) = ps at hR hN
  have hl : ps.length = 4 := by rw [← hps]; rfl
  clear hB6 hR6 hN6 hps
  go_wp2_with (at_builtin; refine wpList_append_run hrun.out rfl (by rfl) (by rfl) (by rfl) ?_)
  clear hrun
  go_loopw [34] (fun i wr => ∃ k : Nat, k ≤ 4 ∧ i = .int .i64 k ∧ Below w.heap.size w wr ∧ RecS 1 ptrF none wr (some ⟨g', 0, none⟩) ps ∧ Nones wr ps) (fun i _ => 4 - (intOf i).toNat)
  case atStart => exact ⟨0, Nat.zero_le _, rfl, hB, hR, hN⟩
  case round =>
    clear hB hR hN
    obtain ⟨k, hk, rfl, hB, hR, hN⟩ := hrel
    by_cases hlt : k < 4
    · have hltp : k < ps.length := by omega
      obtain ⟨b, off, e, hbl, hc⟩ := row_cell hR k hltp
      simp only [Option.some.injEq, Addr.mk.injEq, and_true] at e
      obtain ⟨rfl, rfl⟩ := e
      have hp := hN _ (getD_mem ps k hltp)
      have hlt' : (k : Int) < 4 := by omega
      clear hltp
      rw [Nat.zero_add] at hc
      generalize ps.getD k none = p at hc hp
      rcases hp with rfl | ⟨t, rfl, hT⟩
      · go_wp2_with fail
        refine (cTell_nil _).mono ?_
        rintro e w5 ⟨rfl, hb5⟩
        go_wp2_with fail
        refine (cNext_nil _).mono ?_
        rintro e w6 ⟨rfl, hb6⟩
        have hb7 := ((below_push2 hb5 hb6 (Nat.le_refl _))).alloc (by have h5 := hb5.size; have h6 := hb6.size; omega) (.cells (accY 0 0 0 0) 39)
        generalize hW : w6.alloc (.cells (accY 0 0 0 0) 39) = w7 at hb7
        replace hW := Lib.hid hW
        go_wp2_with (refine wpList_store_row rfl 39 _ _ rfl _ _ rfl rfl 39 _ (Blk.new w6 _ _).h (by kernel_rfl) (by rfl) (by kernel_rfl) ?_; rw [World.setRow_alloc_new, hW.out])
        clear hW
        refine (cTurned_nil _).mono ?_
        rintro e wx ⟨rfl, rfl⟩
        go_wp2_with fail
        refine (cEnded_nil _).mono ?_
        rintro e wx ⟨rfl, rfl⟩
        go_wp2_with fail
        go_roundw
        case rel => exact ⟨k + 1, by omega, by go_num, below_push2 hB hb7 (Nat.le_refl _), RecS.below hR hb7, hN.below hb7⟩
        case measure => simp [intOf]; omega
      · go_wp2_with fail
        refine (cTell_no t false _ hT).mono ?_
        rintro e w5 ⟨rfl, hb5⟩
        go_wp2_with fail
        refine (cNext_no t false _ (hT.below hb5)).mono ?_
        rintro e w6 ⟨rfl, hb6⟩
        have hb7 := ((below_push2 hb5 hb6 (Nat.le_refl _))).alloc (by have h5 := hb5.size; have h6 := hb6.size; omega) (.cells (accY 0 0 0 0) 39)
        generalize hW : w6.alloc (.cells (accY 0 0 0 0) 39) = w7 at hb7
        replace hW := Lib.hid hW
        go_wp2_with (refine wpList_store_row rfl 39 _ _ rfl _ _ rfl rfl 39 _ (Blk.new w6 _ _).h (by kernel_rfl) (by rfl) (by kernel_rfl) ?_; rw [World.setRow_alloc_new, hW.out])
        clear hW
        obtain ⟨q0, q1, q2, q3, q4, q5, q6, q7, q8, BT, hq⟩ := hT.below hb7
        clear hq
        refine (cTurned_any t _ _ _ _ _ _ _ _ _ _ _ _ BT).mono ?_
        rintro e wx ⟨rfl, rfl⟩
        go_wp2_with fail
        refine (cEnded_any t _ _ _ _ _ _ _ _ _ _ _ _ BT).mono ?_
        rintro e wx ⟨rfl, rfl⟩
        go_wp2_with fail
        go_roundw
        case rel => exact ⟨k + 1, by omega, by go_num, below_push2 hB hb7 (Nat.le_refl _), RecS.below hR hb7, hN.below hb7⟩
        case measure => simp [intOf]; omega
    · obtain rfl : k = 4 := by omega
      go_wp2_with fail
      refine (carLives_any _).mono ?_
      rintro e w5 ⟨rfl, hb5⟩
      go_wp2_with fail
      go_ret
      exact ⟨rfl, below_push2 hB hb5 (Nat.le_refl _)⟩

set_option maxRecDepth 100000 in
theorem contract (H : Type) (enc : TypeId × Value → H) (W : World) (base : Nat) (args : Array Value) (ds : List (DataW H)) (p : List MemPlace)
    (hval : ∀ (j : Nat) t v, Try.f16.params[j]? = some t → args[j]? = some v → Value.okWide Try.prog W .any base t v)
    (hA : DataW.TrodAll enc Try.prog W 0 (fun _ => true) true Try.f16.params.toList args.toList ds p) :
    Calls Try.prog 16 args W fun e W' => e = .returned (.bool true) ∧ Below W.heap.size W W' := by
  rw [Try.params16] at hA hval
  obtain ⟨v0, vs0, d0, ds0, p0, q0, hargs, rfl, rfl, h0, r0⟩ := trodAll_cons hA
  obtain ⟨v1, vs1, d1, ds1, p1, q1, rfl, rfl, rfl, h1, r1⟩ := trodAll_cons r0
  obtain ⟨rfl, rfl, rfl⟩ := trodAll_nil r1
  obtain rfl : args = #[v0, v1] := by cases args; simp_all
  obtain ⟨a0, rfl, w0⟩ := Lift.int_of Try.underlying3 (hval 0 3 v0 rfl rfl) h0
  obtain ⟨s, t, y, rfl, u0, u1, u2⟩ := Lift.agg3_of Try.underlying135 (by kernel_rfl) (by kernel_rfl) Try.underlying3 Try.underlying3 Try.underlying22 (hval 1 135 v1 rfl rfl) h1
  have b0 := Lift.i64_range u0
  have b1 := Lift.i64_range u1
  have b2 := Lift.u64_range u2
  exact walk a0 s t y W (Lift.i64_range w0) b0.1 b0.2 b1.1 b1.2 b2.1 b2.2

/-! THE ROW's STEP -/
set_option maxRecDepth 100000 in
theorem lifted (os : Os) (started : os.Started) (H : Type) (enc : TypeId × Value → H) :
    ReturnsInHanded {} Try.checked os 16 .any (Rows.carryNobodySpec.pre6 enc Try.prog Try.f16 Rows.carryNobodyRow.domain false) (Rows.carryNobodySpec.post enc Try.prog Try.f16 false true false false) := by
  refine returnsInHanded_of_change (C := Try.checked) Lift.own started (by kernel_rfl) Try.func16
    (ChangeSpec.witness6 (enc := enc) (C := Try.checked) false ⟨#[], #[.int .i64 0, .agg #[.int .i64 0, .int .i64 0, .int .u64 0]], []⟩ 8 (by kernel_rfl) (by kernel_rfl) (by kernel_rfl) (by kernel_rfl)) ?_
  intro W base args ds gs before hval0 hW hcnd _
  have hval : ∀ (j : Nat) t v, Try.f16.params[j]? = some t → args[j]? = some v → Value.okWide Try.prog W .any base t v := hval0
  have hW' := hW
  obtain ⟨p, q, hA0, hV, rfl, hfz, hnd⟩ := hW
  have hA : DataW.TrodAll enc Try.prog W 0 (fun _ => true) true Try.f16.params.toList args.toList ds p := hA0
  have hlen : ds.length = 2 := by
    have hl := Lift.trodAll_len _ _ _ _ hA
    rw [Try.params16] at hl
    simpa using hl
  have hall := fun W' (hb : Below W.heap.size W W') => Lift.trodAll_below Lift.laidOut hb Try.f16.params.toList args.toList ds p (by kernel_rfl) hA
  obtain ⟨rfl, rfl⟩ := trodVars_none hV
  refine (contract H enc W base args ds p hval hA).mono fun e W' ⟨he, bel⟩ => ?_
  subst he
  have hspec : (Rows.carryNobodySpec.fn H (ds ++ [])).results = [.lit (.bool true)] ∧ (Rows.carryNobodySpec.fn H (ds ++ [])).args = ds ∧ (Rows.carryNobodySpec.fn H (ds ++ [])).vars = [] := by
    match ds, hlen with
    | [d1, d2], _ => exact ⟨rfl, rfl, rfl⟩
  exact ⟨_, rfl, _, _, _, [], _, [], hW', by rw [hspec.1]; exact trodAll_mk1 (shut_bool Try.underlying4 _), by rw [hspec.2.1]; exact hall W' bel, by rw [hspec.2.2]; rfl, bel.frame _, fun h => by cases h⟩

theorem over : Rows.carryNobodyRow.holds Try.pinned (OpenSpec.ofChange Rows.carryNobodySpec) :=
  OpenClaim.holds_of_wide 16 Try.f16 rfl rfl rfl rfl rfl rfl rfl ⟨rfl, rfl, rfl, rfl, rfl⟩ rfl rfl rfl rfl rfl (by kernel_rfl) Try.func16 (by kernel_rfl)
    (of_decide_eq_true (by kernel_rfl)) (by unfold Func.isWrapper; first | (rw [if_pos (by decide +kernel)]; kernel_rfl) | (rw [if_neg (by decide +kernel)]; exact ⟨rfl, rfl⟩))
    (fun os started H enc _ => lifted os started H enc)

theorem proved : Rows.CarryNobodySaid := over
#print axioms proved
end Go.Proofs.Ytpmlbdnhgeeaoaa.carryNobody
