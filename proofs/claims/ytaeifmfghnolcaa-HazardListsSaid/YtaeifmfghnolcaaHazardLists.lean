/-
  HazardLists: a list does, for any room and any acts, what the plain row of words does. No condition.
-/
import Derived.Test.YtaeifmfghnolcaaLift
import Derived.Test.YtaeifmfghnolcaaHazApp
import Derived.Test.YtaeifmfghnolcaaOpenActs
import Derived.Deep.RegionLaw
namespace Go.Proofs.Ytaeifmfghnolcaa.hazardLists
open Go.ChangeShapes Go.WideShapes Go.ChangeAt Go.RowKit RefP HazP
set_option linter.unusedVariables false
set_option linter.unusedSimpArgs false

theorem butWords {w w' : World} {o : Nat} {a x : Option Addr} {l : List Int} (k : But w w' o a) (h : U64s w x l) (h1 : 0 < l.length → ∀ p, x = some p → p.block ≠ o ∧ ∀ q, a = some q → q.block ≠ p.block) : U64s w' x l := by
  rcases Nat.eq_zero_or_pos l.length with h0 | h0
  · obtain rfl : l = [] := List.eq_nil_of_length_eq_zero h0
    exact U64s.nil _ _
  · exact k.words h (h1 h0)
structure LRel (w wr : World) (o : Nat) (r : Int) (ax : Option Addr) (cx : Nat) (l : List Int) (aw : Option Addr) : Prop where
  L : ListAt wr w.heap.size o r ax cx l
  U : U64s wr aw l
  sep : 0 < l.length → ∀ p, aw = some p → p.block ≠ o ∧ ∀ q, ax = some q → q.block ≠ p.block
  b : Below w.heap.size w wr
theorem LRel.below {w wr wx : World} {o : Nat} {r : Int} {ax : Option Addr} {cx : Nat} {l : List Int} {aw : Option Addr} (h : LRel w wr o r ax cx l aw) (hb : Below wr.heap.size wr wx) : LRel w wx o r ax cx l aw :=
  ⟨h.L.below hb, h.U.below hb, h.sep, below_push2 h.b hb (Nat.le_refl _)⟩
theorem listGe {w : World} {base o : Nat} {r : Int} {a : Option Addr} {c : Nat} {l : List Int} (h : ListAt w base o r a c l) : ∀ p, a = some p → base ≤ p.block ∧ p.block < w.heap.size := fun p e => h.own.lt p.block (by rw [e]; rfl)
theorem butBlk {w w' : World} {o : Nat} {a : Option Addr} (k : But w w' o a) {b : Nat} {cs : Array Value} {T : TypeId} (B : Blk w b cs T) (h1 : b ≠ o) (h2 : ∀ q, a = some q → q.block ≠ b) : Blk w' b cs T :=
  ⟨(k.block b B.lt h1 h2).trans B.h⟩
/-- the row of an act lies below, where it has words -/
theorem actBelow {w : World} {a : Option Addr} {n : Nat} {F : Nat → Open.ActE} (h : Open.Acts w a n F) (i : Nat) (hi : i < n) : 0 < (F i).xs.length → ∀ p, (F i).row = some p → p.block < w.heap.size := by
  intro h0 p hp
  obtain ⟨b, off, e, hb, _⟩ := (h.rows i hi).row.get h0
  rw [e] at hp
  simp only [Option.some.injEq] at hp
  subst hp
  exact hb
set_option maxRecDepth 100000 in
set_option maxHeartbeats 1600000 in
theorem walk_nil (a : Option Addr) (n c : Nat) (F : Nat → Open.ActE) (r : Int) (w : World) (h : Open.Acts w a n F) (hbig : ¬ 100 < n) (hr : r < 1 ∨ 1056 < r) (r0 : -9223372036854775808 ≤ r) (r1 : r ≤ 9223372036854775807) :
    Calls Try.prog 10 #[.int .i64 r, .slice a n c] w fun e w' => e = .returned (.bool true) ∧ Below w.heap.size w w' := by
  have hlen := h.len
  have hn := hazNew_no r w hr
  have d0 : decide ((100 : Int) < (n : Int)) = false := by simp; omega
  obtain ⟨bt, hbt⟩ : ∃ bt, decide (r < 1) = bt := ⟨_, rfl⟩
  have d2 : bt = false → decide (1056 < r) = true := by intro e; rw [e] at hbt; simp at hbt ⊢; omega
  go_enter Try.func10, Try.ntmps10
  go_wp2_with fail
  refine hn.mono ?_
  rintro e w1 ⟨rfl, rfl⟩
  cases bt
  all_goals
    have d3 := d2
    simp only [forall_const, reduceCtorEq, false_implies] at d3
    clear d2 hr hn
    go_wp2_with fail
    go_loopw [6, 28] (fun u6 i wr => ∃ k : Nat, k ≤ n ∧ i = .int .i64 k ∧ u6 = .slice none 0 0 ∧ Below w.heap.size w wr) (fun _ i _ => n - (intOf i).toNat)
    case atStart => exact ⟨0, Nat.zero_le _, rfl, rfl, Below.refl _ _⟩
    case round =>
      obtain ⟨k, hk, rfl, rfl, hb⟩ := hrel
      by_cases hlt : k < n
      · have hlt' : (k : Int) < (n : Int) := by omega
        obtain ⟨b', off, rfl, hbl, hc⟩ := (h.below hb).get (by omega)
        obtain ⟨c0, c1, c2⟩ := hc k hlt
        have hrg := h.rng k hlt
        clear hc
        have HA := below_alloc2 hb (Nat.le_refl _) (.cells #[.int .i64 (F k).kind, .int .u64 (F k).word, .slice (F k).row (F k).xs.length (F k).cap] 77)
        by_cases hx : 100 < (F k).xs.length
        · have d5 : decide ((100 : Int) < ((F k).xs.length : Int)) = true := by simp; omega
          go_wp2_with fail
          refine (lives_any _).mono ?_
          rintro e w2 ⟨rfl, hb2⟩
          go_wp2_with fail
          go_ret
          exact ⟨rfl, below_push2 HA hb2 (Nat.le_refl _)⟩
        · have d5 : decide ((100 : Int) < ((F k).xs.length : Int)) = false := by simp; omega
          by_cases hk0 : (F k).kind = 0
          · have q0 : ((F k).kind == 0) = true := by simp [hk0]
            clear hk0
            go_wp2_with fail
            refine (add_nil _ _).mono ?_
            rintro e w2 ⟨rfl, hb2⟩
            go_wp2_with fail
            refine (full_nil _).mono ?_
            rintro e w3 ⟨rfl, hb3⟩
            go_wp2_with fail
            refine (words_nil _).mono ?_
            rintro e w4 ⟨rfl, rfl⟩
            go_wp2_with fail
            refine (same_any none none 0 0 [] _ (U64s.nil _ _) (U64s.nil _ _)).mono ?_
            rintro e w4 ⟨rfl, hb4⟩
            go_wp2_with fail
            go_roundw
            case rel => exact ⟨k + 1, by omega, by go_num, rfl, below_push2 (below_push2 (below_push2 HA hb2 (Nat.le_refl _)) hb3 (Nat.le_refl _)) hb4 (Nat.le_refl _)⟩
            case measure => simp [intOf]; omega
          · have q0 : ((F k).kind == 0) = false := by simp [hk0]
            clear hk0
            go_wp2_with fail
            refine (keep_nil _ _ _ _).mono ?_
            rintro e w2 ⟨rfl, rfl⟩
            have hb2 := Below.refl (wr.alloc (.cells #[.int .i64 (F k).kind, .int .u64 (F k).word, .slice (F k).row (F k).xs.length (F k).cap] 77)).heap.size (wr.alloc (.cells #[.int .i64 (F k).kind, .int .u64 (F k).word, .slice (F k).row (F k).xs.length (F k).cap] 77))
            go_wp2_with fail
            refine (full_nil _).mono ?_
            rintro e w3 ⟨rfl, hb3⟩
            go_wp2_with fail
            refine (words_nil _).mono ?_
            rintro e w4 ⟨rfl, rfl⟩
            go_wp2_with fail
            refine (same_any none none 0 0 [] _ (U64s.nil _ _) (U64s.nil _ _)).mono ?_
            rintro e w4 ⟨rfl, hb4⟩
            go_wp2_with fail
            go_roundw
            case rel => exact ⟨k + 1, by omega, by go_num, rfl, below_push2 (below_push2 (below_push2 HA hb2 (Nat.le_refl _)) hb3 (Nat.le_refl _)) hb4 (Nat.le_refl _)⟩
            case measure => simp [intOf]; omega
      · obtain rfl : k = n := by omega
        go_wp2_with fail
        refine (full_nil _).mono ?_
        rintro e w3 ⟨rfl, hb3⟩
        have P3 := (Blk.new wr #[.int .i64 0, .slice none 0 0] 83).below hb3
        have E3 : Below w.heap.size w w3 := below_push2 (below_alloc2 hb (Nat.le_refl _) _) hb3 (Nat.le_refl _)
        go_wp2_with fail
        refine (full_zero _ _ 0 P3).mono ?_
        rintro e w4 ⟨rfl, hb4⟩
        have P4 := P3.below hb4
        have E4 := below_push2 E3 hb4 (Nat.le_refl _)
        clear P3 E3 hb3 hb4
        go_wp2_with fail
        refine (add_zero _ _ _ P4).mono ?_
        rintro e w5 ⟨rfl, hb5⟩
        have P5 := P4.below hb5
        have E5 := below_push2 E4 hb5 (Nat.le_refl _)
        clear P4 E4 hb5
        go_wp2_with fail
        refine (keep_zero _ _ _ _ _ P5).mono ?_
        rintro e w6 ⟨rfl, rfl⟩
        go_wp2_with fail
        refine (words_any _ _ 0 none 0 [] P5 (U64s.nil _ _) (by simp)).mono ?_
        rintro e w7 ⟨a7, c7, rfl, _, hb7⟩
        have E7 := below_push2 E5 hb7 (Nat.le_refl _)
        clear P5 E5 hb7
        go_wp2_with fail
        refine (lives_any _).mono ?_
        rintro e w8 ⟨rfl, hb8⟩
        go_wp2_with fail
        go_ret
        exact ⟨rfl, below_push2 E7 hb8 (Nat.le_refl _)⟩
set_option maxRecDepth 100000 in
set_option maxHeartbeats 3200000 in
theorem walk_yes (a : Option Addr) (n c : Nat) (F : Nat → Open.ActE) (r : Int) (w : World) (h : Open.Acts w a n F) (hbig : ¬ 100 < n) (h1 : 1 ≤ r) (h2 : r ≤ 1056) :
    Calls Try.prog 10 #[.int .i64 r, .slice a n c] w fun e w' => e = .returned (.bool true) ∧ Below w.heap.size w w' := by
  have hlen := h.len
  have hn := hazNew_yes r w h1 h2
  have d0 : decide ((100 : Int) < (n : Int)) = false := by simp; omega
  have d1 : decide (r < 1) = false := by simp; omega
  have d2 : decide (1056 < r) = false := by simp; omega
  have d3 : decide (0 < r) = true := by simp; omega
  go_enter Try.func10, Try.ntmps10
  go_wp2_with fail
  refine hn.mono ?_
  rintro e w1 ⟨⟨o, rfl, ho, hL⟩, hb1⟩
  have LR0 : LRel w w1 o r none 0 [] none := ⟨hL w.heap.size (Nat.le_refl _), U64s.nil _ _, by simp, hb1⟩
  clear hL hb1 hn
  go_wp2_with fail
  go_loopw [6, 28] (fun u6 i wr => ∃ (k : Nat) (ax : Option Addr) (cx : Nat) (l : List Int) (aw : Option Addr) (cw : Nat), k ≤ n ∧ i = .int .i64 k ∧ u6 = .slice aw l.length cw ∧ LRel w wr o r ax cx l aw) (fun _ i _ => n - (intOf i).toNat)
  case atStart => exact ⟨0, none, 0, [], none, 0, Nat.zero_le _, rfl, rfl, LR0⟩
  case round =>
    clear LR0
    obtain ⟨k, ax, cx, l, aw, cw, hk, rfl, rfl, R⟩ := hrel
    have hb := R.b
    have hbs := hb.size
    have hoz := R.L.head.lt
    by_cases hlt : k < n
    · have hlt' : (k : Int) < (n : Int) := by omega
      obtain ⟨b', off, rfl, hbl, hc⟩ := (h.below hb).get (by omega)
      obtain ⟨c0, c1, c2⟩ := hc k hlt
      have hrg := h.rng k hlt
      have hrow := (h.rows k hlt).below hb
      have hab := actBelow h k hlt
      clear hc
      obtain ⟨wa, hwa⟩ : ∃ wa, wa = wr.alloc (.cells #[.int .i64 (F k).kind, .int .u64 (F k).word, .slice (F k).row (F k).xs.length (F k).cap] 77) := ⟨_, rfl⟩
      have HA : Below wr.heap.size wr wa := by rw [hwa]; exact (Below.refl _ _).alloc (Nat.le_refl _) _
      have BA : Blk wa wr.heap.size #[.int .i64 (F k).kind, .int .u64 (F k).word, .slice (F k).row (F k).xs.length (F k).cap] 77 := by rw [hwa]; exact Blk.new _ _ _
      have RA := R.below HA
      have hroom := R.L.room
      have hll := R.L.len
      by_cases hx : 100 < (F k).xs.length
      · have d5 : decide ((100 : Int) < ((F k).xs.length : Int)) = true := by simp; omega
        go_wp2_with fail
        refine (lives_any _).mono ?_
        rintro e w2 ⟨rfl, hb2⟩
        go_wp2_with fail
        go_ret
        exact ⟨rfl, below_push2 (below_alloc2 hb (Nat.le_refl _) _) hb2 (Nat.le_refl _)⟩
      · have d5 : decide ((100 : Int) < ((F k).xs.length : Int)) = false := by simp; omega
        by_cases hk0 : (F k).kind = 0
        · have q0 : ((F k).kind == 0) = true := by simp [hk0]
          clear hk0
          by_cases hfull : (l.length : Int) < r
          · have d6 : decide ((l.length : Int) < r) = true := by simpa using hfull
            go_wp2_with fail
            rw [← hwa]
            refine (add_yes _ _ _ _ _ _ _ _ RA.L hfull hrg.2 RA.b.size).mono ?_
            rintro e w2 ⟨⟨a3, c3, rfl, L3, hmv⟩, C3⟩
            have hne : ∀ q, ax = some q → q.block ≠ wr.heap.size := fun q hq => by have := (listGe R.L q hq).2; omega
            have B2 := butBlk C3 BA (by omega) hne
            have U2 := butWords C3 RA.U RA.sep
            have E2 := C3.below RA.b (Nat.le_refl _) RA.L.ge (fun q hq => (listGe RA.L q hq).1)
            have hbs2 := E2.size
            have e1 := B2.at 1 rfl
            have hlz := B2.lt
            have hl3 : l.length ≤ 60000 := by omega
            clear R RA HA BA C3 hmv hrow
            go_upto_region 19 with (fail)
            go_cut [6] (fun u6 wx => ∃ (aw2 : Option Addr) (cw2 : Nat) (l2 : List Int), u6 = .slice aw2 l2.length cw2 ∧ LRel w wx o r a3 c3 l2 aw2)
            case first =>
              have hA1 : Below w2.heap.size w2 (w2.alloc (.cells #[] 23)) := (Below.refl _ _).alloc (Nat.le_refl _) _
              have hA2 : Below w2.heap.size w2 (w2.alloc (.cells #[.int .u64 (F k).word] 23)) := (Below.refl _ _).alloc (Nat.le_refl _) _
              have hB1 : Below w2.heap.size w2 (w2.alloc (.cells #[] 23)).drew := hA1.drew
              have hB3 : Below w2.heap.size w2 ((w2.alloc (.cells #[] 23)).alloc (.cells #[.int .u64 (F k).word] 23)).drew := (hA1.alloc hA1.size _).drew
              have hB4 : Below w2.heap.size w2 ((w2.alloc (.cells #[.int .u64 (F k).word] 23)).alloc (.cells #[] 23)).drew := (hA2.alloc hA2.size _).drew
              have hE0 : OwnsU (w2.alloc (.cells #[] 23)) w2.heap.size (some ⟨w2.heap.size, 0, none⟩) 0 [] := OwnsU.empty w2 w2.heap.size (Nat.le_refl _)
              have hE1 : OwnsU (w2.alloc (.cells #[] 23)).drew w2.heap.size (some ⟨w2.heap.size, 0, none⟩) 0 [] := hE0.below (Below.refl _ _).drew
              have hE4 : OwnsU ((w2.alloc (.cells #[.int .u64 (F k).word] 23)).alloc (.cells #[] 23)).drew w2.heap.size (some ⟨w2.heap.size + 1, 0, none⟩) 0 [] := by
                have := OwnsU.empty (w2.alloc (.cells #[.int .u64 (F k).word] 23)) w2.heap.size hA2.size
                exact OwnsU.below (by simpa using this) (Below.refl _ _).drew
              -- the row ahead of the word's block
              obtain ⟨g1, k1, v1, r1, o1, b1, gr1⟩ := addFirst w2 _ hB1 w2.heap.size hE1 cw (U2.below hB1) hl3
              have b1a : Below w2.heap.size w2 (v1.alloc (.cells #[.int .u64 (F k).word] 23)) := b1.alloc b1.size _
              obtain ⟨g2, k2, v2, r2, o2, b2⟩ := addSecond w2 _ b1a g1 k1 v1.heap.size (o1.below ((Below.refl _ _).alloc (Nat.le_refl _) _)) (Blk.new v1 _ _) hrg.2 hl3
              have e1a := (B2.below b1).at 1 rfl
              -- the word's block between
              obtain ⟨g3, k3, v3, r3, o3, b3, gr3⟩ := addFirst w2 _ hB3 w2.heap.size (hE0.below (((Below.refl _ _).alloc (Nat.le_refl _) _).drew)) cw (U2.below hB3) hl3
              have bx3 : Blk v3 (w2.heap.size + 1) #[.int .u64 (F k).word] 23 := by
                have := (Blk.new (w2.alloc (.cells #[] 23)) #[.int .u64 (F k).word] 23).drew
                simp only [World.size_alloc] at this
                exact this.grown gr3 (by simp)
              obtain ⟨g4, k4, v4, r4, o4, b4⟩ := addSecond w2 _ b3 g3 k3 _ o3 bx3 hrg.2 hl3
              -- the word's block ahead
              obtain ⟨g5, k5, v5, r5, o5, b5, gr5⟩ := addFirst w2 _ hB4 (w2.heap.size + 1) hE4 cw (U2.below hB4) hl3
              have bx5 : Blk v5 w2.heap.size #[.int .u64 (F k).word] 23 := ((Blk.new w2 _ _).alloc _).drew.grown gr5 (by simp)
              obtain ⟨g6, k6, v6, r6, o6, b6⟩ := addSecond w2 _ b5 g5 k5 _ o5 bx5 hrg.2 hl3
              have fin : ∀ v g q, OwnsU v w2.heap.size (some ⟨g, 0, none⟩) q (l ++ [(F k).word]) → Below w2.heap.size w2 v → ∃ (aw2 : Option Addr) (cw2 : Nat) (l2 : List Int), Value.slice (some ⟨g, 0, none⟩) (l.length + 1) q = .slice aw2 l2.length cw2 ∧ LRel w v o r a3 c3 l2 aw2 := by
                intro v g q O B
                have hlt3 := fun p e => (listGe L3 p e).2
                have hgg := (O.lt g rfl).1
                have ho3 := L3.head.lt
                refine ⟨some ⟨g, 0, none⟩, q, l ++ [(F k).word], by simp, L3.below B, O.words (by simp; omega), fun _ p hp => ?_, below_push2 E2 B (Nat.le_refl _)⟩
                simp only [Option.some.injEq] at hp
                subst hp
                exact ⟨by show g ≠ o; omega, fun p hp => by have := hlt3 p hp; show p.block ≠ g; omega⟩
              clear hA1 hA2 hB1 hB3 hB4 hE0 hE1 hE4 b1a bx3 bx5 gr1 gr3 gr5 o1 o3 o5 b1 b3 b5
              go_region_law ((first
                | ((with_reducible (show @ite _ _ _ (Oper.wp _ _ _ (World.drew (World.alloc w2 (.cells #[] _))) _ _) _)); refine step_append_run r1.out rfl (by rfl) (by rfl) (by rfl) ?_)
                | ((with_reducible (show @ite _ _ _ (Oper.wp _ _ _ (World.alloc v1 _) _ _) _)); refine step_append_run r2.out rfl (by rfl) (by rfl) (by rfl) ?_)
                | ((with_reducible (show @ite _ _ _ (Oper.wp _ _ _ (World.drew (World.alloc (World.alloc w2 (.cells #[] _)) _)) _ _) _)); refine step_append_run r3.out rfl (by rfl) (by rfl) (by rfl) ?_)
                | ((with_reducible (show @ite _ _ _ (Oper.wp _ _ _ v3 _ _) _)); refine step_append_run r4.out rfl (by rfl) (by rfl) (by rfl) ?_)
                | ((with_reducible (show @ite _ _ _ (Oper.wp _ _ _ (World.drew (World.alloc (World.alloc w2 (.cells #[.int .u64 _] _)) _)) _ _) _)); refine step_append_run r5.out rfl (by rfl) (by rfl) (by rfl) ?_)
                | ((with_reducible (show @ite _ _ _ (Oper.wp _ _ _ v5 _ _) _)); refine step_append_run r6.out rfl (by rfl) (by rfl) (by rfl) ?_)))
              all_goals
                go_wp2_with fail
                go_meet
                first
                  | exact fin _ _ _ o2 b2
                  | exact fin _ _ _ o4 b4
                  | exact fin _ _ _ o6 b6
            case rest =>
              obtain ⟨aw2, cw2, l2, rfl, LR⟩ := hcut
              go_wp2_with fail
              refine (full_any _ _ _ _ _ _ _ LR.L).mono ?_
              rintro e w3 ⟨rfl, hb3⟩
              have LR3 := LR.below hb3
              clear LR
              go_wp2_with fail
              refine (words_any _ _ _ _ _ _ LR3.L.head LR3.L.words (by have := LR3.L.len; have := LR3.L.room; omega)).mono ?_
              rintro e w4 ⟨a4, c4, rfl, O4, hb4⟩
              have U4 := O4.words (by have := LR3.L.len; have := LR3.L.room; omega)
              have LR4 := LR3.below hb4
              clear O4 LR3
              go_wp2_with fail
              refine (same_any _ _ _ _ _ _ U4 LR4.U).mono ?_
              rintro e w5 ⟨rfl, hb5⟩
              have LR5 := LR4.below hb5
              clear U4 LR4
              go_wp2_with fail
              go_roundw
              case rel => exact ⟨k + 1, _, _, _, _, _, by omega, by go_num, rfl, LR5⟩
              case measure => simp [intOf]; omega
          · have d6 : decide ((l.length : Int) < r) = false := by simp; omega
            go_wp2_with fail
            rw [← hwa]
            refine (add_no _ _ _ _ _ _ _ _ RA.L (by omega)).mono ?_
            rintro e w2 ⟨rfl, hb2⟩
            have LR := RA.below hb2
            clear R RA HA BA
            go_wp2_with fail
            refine (full_any _ _ _ _ _ _ _ LR.L).mono ?_
            rintro e w3 ⟨rfl, hb3⟩
            have LR3 := LR.below hb3
            clear LR
            go_wp2_with fail
            refine (words_any _ _ _ _ _ _ LR3.L.head LR3.L.words (by have := LR3.L.len; have := LR3.L.room; omega)).mono ?_
            rintro e w4 ⟨a4, c4, rfl, O4, hb4⟩
            have U4 := O4.words (by have := LR3.L.len; have := LR3.L.room; omega)
            have LR4 := LR3.below hb4
            clear O4 LR3
            go_wp2_with fail
            refine (same_any _ _ _ _ _ _ U4 LR4.U).mono ?_
            rintro e w5 ⟨rfl, hb5⟩
            have LR5 := LR4.below hb5
            clear U4 LR4
            go_wp2_with fail
            go_roundw
            case rel => exact ⟨k + 1, _, _, _, _, _, by omega, by go_num, rfl, LR5⟩
            case measure => simp [intOf]; omega
        · have q0 : ((F k).kind == 0) = false := by simp [hk0]
          clear hk0
          by_cases hfit : ((F k).xs.length : Int) ≤ r
          · have d6 : decide (((F k).xs.length : Int) ≤ r) = true := by simpa using hfit
            go_wp2_with fail
            rw [← hwa]
            refine (keep_yes _ _ _ _ _ _ _ _ _ _ RA.L (hrow.below HA) hfit RA.b.size).mono ?_
            rintro e w2 ⟨⟨a3, c3, rfl, L3, hmv⟩, C3⟩
            have B2 := butBlk C3 BA (by omega) (by simp)
            have e2 := B2.at 2 rfl
            have LR : LRel w w2 o r a3 c3 (F k).xs (F k).row := ⟨L3, butWords C3 (hrow.below HA) (fun h0 p hp => ⟨by have := hab h0 p hp; have := RA.L.ge; omega, by simp⟩), fun h0 p hp => ⟨by have := hab h0 p hp; have := RA.L.ge; omega, fun q hq => by
              have e1 := hab h0 p hp
              have e2 := hmv q hq
              have e3 := RA.b.size
              simp at e2
              omega⟩, C3.below RA.b (Nat.le_refl _) RA.L.ge (by simp)⟩
            clear R RA HA BA B2 L3 C3
            go_wp2_with fail
            refine (full_any _ _ _ _ _ _ _ LR.L).mono ?_
            rintro e w3 ⟨rfl, hb3⟩
            have LR3 := LR.below hb3
            clear LR
            go_wp2_with fail
            refine (words_any _ _ _ _ _ _ LR3.L.head LR3.L.words (by have := LR3.L.len; have := LR3.L.room; omega)).mono ?_
            rintro e w4 ⟨a4, c4, rfl, O4, hb4⟩
            have U4 := O4.words (by have := LR3.L.len; have := LR3.L.room; omega)
            have LR4 := LR3.below hb4
            clear O4 LR3
            go_wp2_with fail
            refine (same_any _ _ _ _ _ _ U4 LR4.U).mono ?_
            rintro e w5 ⟨rfl, hb5⟩
            have LR5 := LR4.below hb5
            clear U4 LR4
            go_wp2_with fail
            go_roundw
            case rel => exact ⟨k + 1, _, _, _, _, _, by omega, by go_num, rfl, LR5⟩
            case measure => simp [intOf]; omega
          · have d6 : decide (((F k).xs.length : Int) ≤ r) = false := by simp; omega
            go_wp2_with fail
            rw [← hwa]
            refine (keep_no _ _ _ _ _ _ _ _ _ _ RA.L (by omega)).mono ?_
            rintro e w2 ⟨rfl, rfl⟩
            have e2 := BA.at 2 rfl
            have LR := RA
            rw [hwa] at LR e2
            clear R RA HA BA
            go_wp2_with fail
            refine (full_any _ _ _ _ _ _ _ LR.L).mono ?_
            rintro e w3 ⟨rfl, hb3⟩
            have LR3 := LR.below hb3
            clear LR
            go_wp2_with fail
            refine (words_any _ _ _ _ _ _ LR3.L.head LR3.L.words (by have := LR3.L.len; have := LR3.L.room; omega)).mono ?_
            rintro e w4 ⟨a4, c4, rfl, O4, hb4⟩
            have U4 := O4.words (by have := LR3.L.len; have := LR3.L.room; omega)
            have LR4 := LR3.below hb4
            clear O4 LR3
            go_wp2_with fail
            refine (same_any _ _ _ _ _ _ U4 LR4.U).mono ?_
            rintro e w5 ⟨rfl, hb5⟩
            have LR5 := LR4.below hb5
            clear U4 LR4
            go_wp2_with fail
            go_roundw
            case rel => exact ⟨k + 1, _, _, _, _, _, by omega, by go_num, rfl, LR5⟩
            case measure => simp [intOf]; omega
    · obtain rfl : k = n := by omega
      go_wp2_with fail
      have LA := R.below ((Below.refl _ wr).alloc (Nat.le_refl _) (.cells #[.int .i64 0, .slice none 0 0] 83))
      refine (full_any _ _ _ _ _ _ _ LA.L).mono ?_
      clear LA R
      rintro e w3 ⟨rfl, hb3⟩
      have P3 := (Blk.new wr #[.int .i64 0, .slice none 0 0] 83).below hb3
      have E3 : Below w.heap.size w w3 := below_push2 (below_alloc2 hb (Nat.le_refl _) _) hb3 (Nat.le_refl _)
      go_wp2_with fail
      refine (full_zero _ _ 0 P3).mono ?_
      rintro e w4 ⟨rfl, hb4⟩
      have P4 := P3.below hb4
      have E4 := below_push2 E3 hb4 (Nat.le_refl _)
      clear P3 E3 hb3 hb4
      go_wp2_with fail
      refine (add_zero _ _ _ P4).mono ?_
      rintro e w5 ⟨rfl, hb5⟩
      have P5 := P4.below hb5
      have E5 := below_push2 E4 hb5 (Nat.le_refl _)
      clear P4 E4 hb5
      go_wp2_with fail
      refine (keep_zero _ _ _ _ _ P5).mono ?_
      rintro e w6 ⟨rfl, rfl⟩
      go_wp2_with fail
      refine (words_any _ _ 0 none 0 [] P5 (U64s.nil _ _) (by simp)).mono ?_
      rintro e w7 ⟨a7, c7, rfl, _, hb7⟩
      have E7 := below_push2 E5 hb7 (Nat.le_refl _)
      clear P5 E5 hb7
      go_wp2_with fail
      refine (lives_any _).mono ?_
      rintro e w8 ⟨rfl, hb8⟩
      go_wp2_with fail
      go_ret
      exact ⟨rfl, below_push2 E7 hb8 (Nat.le_refl _)⟩
set_option maxRecDepth 100000 in
set_option maxHeartbeats 800000 in
theorem walk (a : Option Addr) (n c : Nat) (F : Nat → Open.ActE) (r : Int) (w : World) (h : Open.Acts w a n F) (r0 : -9223372036854775808 ≤ r) (r1 : r ≤ 9223372036854775807) :
    Calls Try.prog 10 #[.int .i64 r, .slice a n c] w fun e w' => e = .returned (.bool true) ∧ Below w.heap.size w w' := by
  by_cases hbig : 100 < n
  · have d0 : decide ((100 : Int) < (n : Int)) = true := by simp; omega
    have hlen := h.len
    go_enter Try.func10, Try.ntmps10
    go_wp2_with fail
    refine (lives_any _).mono ?_
    rintro e w1 ⟨rfl, hb1⟩
    go_wp2_with fail
    go_ret
    exact ⟨rfl, hb1⟩
  · by_cases hr : r < 1 ∨ 1056 < r
    · exact walk_nil a n c F r w h hbig hr r0 r1
    · exact walk_yes a n c F r w h hbig (by omega) (by omega)

set_option maxRecDepth 100000 in
theorem contract (H : Type) (enc : TypeId × Value → H) (W : World) (base : Nat) (args : Array Value) (ds : List (DataW H)) (p : List MemPlace)
    (hval : ∀ (j : Nat) t v, Try.f10.params[j]? = some t → args[j]? = some v → Value.okWide Try.prog W .any base t v)
    (hA : DataW.TrodAll enc Try.prog W 0 (fun _ => true) true Try.f10.params.toList args.toList ds p) :
    Calls Try.prog 10 args W fun e W' => e = .returned (.bool true) ∧ Below W.heap.size W W' := by
  rw [Try.params10] at hA hval
  obtain ⟨v0, vs0, d0, ds0, p0, q0, hargs, rfl, rfl, h0, r0⟩ := trodAll_cons hA
  obtain ⟨v1, vs1, d1, ds1, p1, q1, rfl, rfl, rfl, h1, r1⟩ := trodAll_cons r0
  obtain ⟨rfl, rfl, rfl⟩ := trodAll_nil r1
  obtain rfl : args = #[v0, v1] := by cases args; simp_all
  obtain ⟨a0, rfl, w0⟩ := Lift.int_of Try.underlying3 (hval 0 3 v0 rfl rfl) h0
  obtain ⟨a, n, c, F, rfl, hnc, hN⟩ := Open.acts Try.underlying73 Try.underlying77 (by kernel_rfl) (by kernel_rfl) Try.underlying3 Try.underlying23 Try.underlying22 Try.underlying23 (by kernel_rfl) (hval 1 73 v1 rfl rfl) h1
  exact walk a n c F _ W hN (Lift.i64_range w0).1 (Lift.i64_range w0).2

/-! THE ROW's STEP -/
set_option maxRecDepth 100000 in
theorem lifted (os : Os) (started : os.Started) (H : Type) (enc : TypeId × Value → H) :
    ReturnsInHanded {} Try.checked os 10 .any (Rows.hazardListsSpec.pre6 enc Try.prog Try.f10 Rows.hazardListsRow.domain false) (Rows.hazardListsSpec.post enc Try.prog Try.f10 false true false false) := by
  refine returnsInHanded_of_change (C := Try.checked) Lift.own started (by kernel_rfl) Try.func10
    (ChangeSpec.witness6 (enc := enc) (C := Try.checked) false ⟨#[], #[.int .i64 0, .slice none 0 0], []⟩ 8 (by kernel_rfl) (by kernel_rfl) (by kernel_rfl) (by kernel_rfl)) ?_
  intro W base args ds gs before hval0 hW hcnd _
  have hval : ∀ (j : Nat) t v, Try.f10.params[j]? = some t → args[j]? = some v → Value.okWide Try.prog W .any base t v := hval0
  have hW' := hW
  obtain ⟨p, q, hA0, hV, rfl, hfz, hnd⟩ := hW
  have hA : DataW.TrodAll enc Try.prog W 0 (fun _ => true) true Try.f10.params.toList args.toList ds p := hA0
  have hlen : ds.length = 2 := by
    have hl := Lift.trodAll_len _ _ _ _ hA
    rw [Try.params10] at hl
    simpa using hl
  have hall := fun W' (hb : Below W.heap.size W W') => Lift.trodAll_below Lift.laidOut hb Try.f10.params.toList args.toList ds p (by kernel_rfl) hA
  obtain ⟨rfl, rfl⟩ := trodVars_none hV
  refine (contract H enc W base args ds p hval hA).mono fun e W' ⟨he, bel⟩ => ?_
  subst he
  have hspec : (Rows.hazardListsSpec.fn H (ds ++ [])).results = [.lit (.bool true)] ∧ (Rows.hazardListsSpec.fn H (ds ++ [])).args = ds ∧ (Rows.hazardListsSpec.fn H (ds ++ [])).vars = [] := by
    match ds, hlen with
    | [d1, d2], _ => exact ⟨rfl, rfl, rfl⟩
  exact ⟨_, rfl, _, _, _, [], _, [], hW', by rw [hspec.1]; exact trodAll_mk1 (shut_bool Try.underlying4 _), by rw [hspec.2.1]; exact hall W' bel, by rw [hspec.2.2]; rfl, bel.frame _, fun h => by cases h⟩

theorem over : Rows.hazardListsRow.holds Try.pinned (OpenSpec.ofChange Rows.hazardListsSpec) :=
  OpenClaim.holds_of_wide 10 Try.f10 rfl rfl rfl rfl rfl rfl rfl ⟨rfl, rfl, rfl, rfl, rfl⟩ rfl rfl rfl rfl rfl (by kernel_rfl) Try.func10 (by kernel_rfl)
    (of_decide_eq_true (by kernel_rfl)) (by unfold Func.isWrapper; first | (rw [if_pos (by decide +kernel)]; kernel_rfl) | (rw [if_neg (by decide +kernel)]; exact ⟨rfl, rfl⟩))
    (fun os started H enc _ => lifted os started H enc)

theorem proved : Rows.HazardListsSaid := over
#print axioms proved
end Go.Proofs.Ytaeifmfghnolcaa.hazardLists
