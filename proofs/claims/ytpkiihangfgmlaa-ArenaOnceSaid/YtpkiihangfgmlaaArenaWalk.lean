/-
  arena: contracts of the program's functions.
-/
import Derived.Test.YtpkiihangfgmlaaArenaPlain
import Derived.Test.YtpkiihangfgmlaaRefWalk
import Derived.Test.YtpkiihangfgmlaaRefOpen
import Derived.Test.YtpkiihangfgmlaaCellWalk
import Derived.WalkLawsBesides
import Derived.WalkSpells
import Derived.Outline
import Derived.BigQuiet
import Derived.LoopTactic
import Derived.Laws.NewDeep
import Derived.StillTailTactics
import Derived.Deep.DeepCutAuto
namespace Go.Proofs.Ytpkiihangfgmlaa.ArP
open Go.RowKit RefP CellP
set_option linter.unusedVariables false
set_option linter.unusedSimpArgs false

/-- an arena: its object, the block of its rows -/
structure ArenaAt (w : World) (o g : Nat) (l : List B3) : Prop where
  head : Blk w o #[.slice (some ⟨g, 0, none⟩) l.length l.length] 66
  rows : Blk w g (rec3 l) 115
  ne : o ≠ g
  rng : Rng3 l
  len : l.length ≤ 8192
  pos : 0 < l.length
theorem ArenaAt.below {w w' : World} {o g : Nat} {l : List B3} (h : ArenaAt w o g l) (hb : Below w.heap.size w w') : ArenaAt w' o g l := ⟨h.head.below hb, h.rows.below hb, h.ne, h.rng, h.len, h.pos⟩
theorem infoB3 : (Try.prog.info? 115).map (fun i => (i.zero, i.size, i.bytes)) = some (some (.agg #[.int .i64 0, .int .u64 0, .int .i64 0]), 3, 24) := by kernel_rfl
/-- the cells of the k-th -/
theorem ArenaAt.cells {w : World} {o g : Nat} {l : List B3} (h : ArenaAt w o g l) (k : Nat) (hk : k < l.length) : w.cell? ⟨g, k * 3, none⟩ = some (.int .i64 (at3 l k).1) ∧ w.cell? ⟨g, k * 3 + 1, none⟩ = some (.int .u64 (at3 l k).2.1) ∧ w.cell? ⟨g, k * 3 + 2, none⟩ = some (.int .i64 (at3 l k).2.2) :=
  ⟨rec_blk h.rows k 0 hk (by omega), rec_blk h.rows k 1 hk (by omega), rec_blk h.rows k 2 hk (by omega)⟩
theorem ArenaAt.write {w w1 : World} {o g : Nat} {l : List B3} (h : ArenaAt w o g l) (hb : Below w.heap.size w w1) (k : Nat) (hk : k < l.length) (p : B3) (hp : (-9223372036854775808 ≤ p.1 ∧ p.1 ≤ 9223372036854775807) ∧ (0 ≤ p.2.1 ∧ p.2.1 ≤ 18446744073709551615) ∧ -9223372036854775808 ≤ p.2.2 ∧ p.2.2 ≤ 9223372036854775807) :
    ArenaAt (((w1.setCell ⟨g, k * 3, none⟩ (.int .i64 p.1)).setCell ⟨g, k * 3 + 1, none⟩ (.int .u64 p.2.1)).setCell ⟨g, k * 3 + 2, none⟩ (.int .i64 p.2.2)) o g (l.set k p) := by
  have h1 := h.below hb
  refine ⟨?_, ?_, h.ne, h.rng.set _ _ hp, by simpa using h.len, by simpa using h.pos⟩
  · simpa using ((h1.head.far ⟨g, k * 3, none⟩ (.int .i64 p.1) h.ne).far ⟨g, k * 3 + 1, none⟩ (.int .u64 p.2.1) h.ne).far ⟨g, k * 3 + 2, none⟩ (.int .i64 p.2.2) h.ne
  · have := ((h1.rows.set (k * 3) (.int .i64 p.1)).set (k * 3 + 1) (.int .u64 p.2.1)).set (k * 3 + 2) (.int .i64 p.2.2)
    rwa [rec3_set l k p hk] at this
theorem ArenaAt.put {w w1 : World} {o g : Nat} {l : List B3} (h : ArenaAt w o g l) (hb : Below w.heap.size w w1) (k : Nat) (hk : k < l.length) (y : Int) (h0 : -9223372036854775808 ≤ y) (h1' : y ≤ 9223372036854775807) :
    ArenaAt (w1.setCell ⟨g, k * 3 + 2, none⟩ (.int .i64 y)) o g (l.set k ((at3 l k).1, (at3 l k).2.1, y)) := by
  have h1 := h.below hb
  refine ⟨?_, ?_, h.ne, h.rng.set _ _ ⟨(h.rng.at k).1, (h.rng.at k).2.1, h0, h1'⟩, by simpa using h.len, by simpa using h.pos⟩
  · simpa using h1.head.far ⟨g, k * 3 + 2, none⟩ (.int .i64 y) h.ne
  · have := h1.rows.set (k * 3 + 2) (.int .i64 y)
    rwa [rec3_put l k y hk] at this

set_option maxHeartbeats 800000 in
theorem rest_any (g : Int) (w : World) : Calls Try.prog 47 #[.int .u64 g] w fun e w' => e = .returned (.int .i64 (restI g)) ∧ w = w' := by
  by_cases h : g = 4294967295
  · subst h
    go_enter Try.func47, Try.ntmps47
    go_wp2_with fail
    go_ret
    exact ⟨rfl, rfl⟩
  · have e := Lib.hid (restI_no h)
    have q : (g == 4294967295) = false := by simpa using h
    clear h
    go_enter Try.func47, Try.ntmps47
    go_wp2_with fail
    go_ret
    exact ⟨ret_int e.out.symm, rfl⟩
set_option maxHeartbeats 800000 in
theorem alen_nil (w : World) : Calls Try.prog 21 #[.pointer none] w fun e w' => e = .returned (.int .i64 0) ∧ w = w' := by
  go_enter Try.func21, Try.ntmps21
  go_wp2_with fail
  go_ret
  exact ⟨rfl, rfl⟩
set_option maxHeartbeats 800000 in
theorem alen_at (o n c : Nat) (a : Option Addr) (w : World) (h : Blk w o #[.slice a n c] 66) : Calls Try.prog 21 #[.pointer (some ⟨o, 0, none⟩)] w fun e w' => e = .returned (.int .i64 n) ∧ w = w' := by
  have c0 := h.at 0 rfl
  go_enter Try.func21, Try.ntmps21
  go_wp2_with fail
  go_ret
  exact ⟨rfl, rfl⟩
theorem alen_any (o g : Nat) (l : List B3) (w : World) (h : ArenaAt w o g l) : Calls Try.prog 21 #[.pointer (some ⟨o, 0, none⟩)] w fun e w' => e = .returned (.int .i64 l.length) ∧ w = w' := alen_at o _ _ _ w h.head
set_option maxHeartbeats 800000 in
theorem new_no (n gen : Int) (w : World) (h : n < 1 ∨ 8192 < n ∨ 4294967295 < gen) : Calls Try.prog 13 #[.int .i64 n, .int .u64 gen] w fun e w' => e = .returned (.pointer none) ∧ w = w' := by
  obtain ⟨b1, h1⟩ : ∃ b, decide (n < 1) = b := ⟨_, rfl⟩
  obtain ⟨b2, h2⟩ : ∃ b, decide (8192 < n) = b := ⟨_, rfl⟩
  obtain ⟨b3, h3⟩ : ∃ b, decide (4294967295 < gen) = b := ⟨_, rfl⟩
  have hx : b1 = true ∨ b2 = true ∨ b3 = true := by
    rcases h with h | h | h
    · left; rw [← h1]; simpa using h
    · right; left; rw [← h2]; simpa using h
    · right; right; rw [← h3]; simpa using h
  clear h
  cases b1 <;> cases b2 <;> cases b3 <;> first | (exfalso; simp at hx; done) | skip
  all_goals
    clear hx
    go_enter Try.func13, Try.ntmps13
    go_wp2_with fail
    go_ret
    exact ⟨rfl, rfl⟩

/-- the first k are those, the rest are fresh -/
def mixed3 (n k : Nat) (p : B3) : List B3 := List.replicate k p ++ List.replicate (n - k) z3
theorem mixed3_length (n k : Nat) (p : B3) (h : k ≤ n) : (mixed3 n k p).length = n := by simp [mixed3]; omega
theorem mixed3_zero (n : Nat) (p : B3) : mixed3 n 0 p = List.replicate n z3 := by simp [mixed3]
theorem mixed3_all (n : Nat) (p : B3) : mixed3 n n p = List.replicate n p := by simp [mixed3]
theorem mixed3_succ (n k : Nat) (p : B3) (h : k < n) : (mixed3 n k p).set k p = mixed3 n (k + 1) p := by
  apply List.ext_getElem?
  intro j
  simp only [mixed3, List.getElem?_set, List.getElem?_append, List.getElem?_replicate, List.length_append, List.length_replicate]
  by_cases h1 : k = j
  · subst h1
    have h2 : k < k + (n - k) := by omega
    simp [h2]
  · by_cases h3 : j < k
    · have h4 : j < k + 1 := by omega
      simp [h1, h3, h4]
    · have h4 : ¬ j < k + 1 := by omega
      have : (j - k < n - k) ↔ (j - (k + 1) < n - (k + 1)) := by omega
      simp [h1, h3, h4, this]
/-- an arena was made -/
def MadeA (w : World) (l : List B3) (e : Ending) (w' : World) : Prop := ∃ o g, e = .returned (.pointer (some ⟨o, 0, none⟩)) ∧ ArenaAt w' o g l ∧ Below w.heap.size w w' ∧ w.heap.size ≤ o ∧ w.heap.size ≤ g
structure NewRel (w : World) (n k : Nat) (gen : Int) (wr : World) : Prop where
  b : Below w.heap.size w wr
  a : ArenaAt wr (w.heap.size + 1) w.heap.size (mixed3 n k (rest3 gen))
theorem rest3_rng {gen : Int} (h0 : 0 ≤ gen) (h1 : gen ≤ 4294967295) : (-9223372036854775808 ≤ (rest3 gen).1 ∧ (rest3 gen).1 ≤ 9223372036854775807) ∧ (0 ≤ (rest3 gen).2.1 ∧ (rest3 gen).2.1 ≤ 18446744073709551615) ∧ -9223372036854775808 ≤ (rest3 gen).2.2 ∧ (rest3 gen).2.2 ≤ 9223372036854775807 := by
  have := restI_rng gen
  exact ⟨by simp only [rest3]; omega, by simp only [rest3]; omega, by simp [rest3]⟩
theorem Rng3.zeros (n : Nat) : Rng3 (List.replicate n z3) := by
  intro c hc
  rw [List.eq_of_mem_replicate hc]; simp

set_option maxRecDepth 100000 in
set_option maxHeartbeats 1600000 in
theorem new_yes (n : Nat) (gen : Int) (w : World) (h0 : 1 ≤ n) (h1 : n ≤ 8192) (g0 : 0 ≤ gen) (g1 : gen ≤ 4294967295) : Calls Try.prog 13 #[.int .i64 n, .int .u64 gen] w (MadeA w (List.replicate n (rest3 gen))) := by
  obtain ⟨i0, hi, hz0, hz1, hz2⟩ := info_parts infoB3
  have hmk := fun W => run_make_rowN (P := Try.prog) 64 115 i0 _ Try.underlying64 hi hz0 .i64 .i64 n n (Nat.le_refl _) (by rw [hz2]; omega) (by omega) W
  have e0 : (Value.agg #[.int .i64 0, .int .u64 0, .int .i64 0]).cells = #[.int .i64 0, .int .u64 0, .int .i64 0] := by simp [Value.cells]
  rw [e0, hz1, z3_made n] at hmk
  clear e0 hz0 hz1 hz2 hi
  have q1 : decide ((n : Int) < 1) = false := by simp; omega
  have q2 : decide (8192 < (n : Int)) = false := by simp; omega
  have q3 : decide (4294967295 < gen) = false := by simp; omega
  go_enter Try.func13, Try.ntmps13
  go_wp2_with fail
  have R0 : NewRel w n 0 gen ((w.alloc (.cells (rec3 (List.replicate n z3)) 115)).alloc (.cells #[.slice (some ⟨w.heap.size, 0, none⟩) n n] 66)) := by
    refine ⟨by (repeat (first | exact Below.refl _ _ | assumption | refine below_alloc2 ?_ (by first | exact Nat.le_refl _ | omega) _ | refine Below.drew ?_ | refine below_drewN ?_ _ | refine below_push2 ?_ ‹_› (by first | exact Nat.le_refl _ | omega) | refine Below.setCell ?_ (by first | (simp; done) | (simp; omega) | omega) _)), ?_, ?_, by omega, ?_, ?_, ?_⟩
    · have := Blk.new (w.alloc (.cells (rec3 (List.replicate n z3)) 115)) #[.slice (some ⟨w.heap.size, 0, none⟩) n n] 66
      rw [mixed3_length _ _ _ (Nat.zero_le _)]
      simpa using this
    · rw [mixed3_zero]; exact (Blk.new w _ _).alloc _
    · rw [mixed3_zero]; exact Rng3.zeros n
    · rw [mixed3_length _ _ _ (Nat.zero_le _)]; omega
    · rw [mixed3_length _ _ _ (Nat.zero_le _)]; omega
  clear hmk q1 q2 q3
  go_loopw [26] (fun i wr => ∃ k : Nat, k ≤ n ∧ i = .int .i64 k ∧ NewRel w n k gen wr) (fun i _ => n - (intOf i).toNat)
  case atStart => exact ⟨0, Nat.zero_le _, rfl, R0⟩
  case round =>
    clear R0
    obtain ⟨k, hk, rfl, R⟩ := hrel
    have hml := mixed3_length n k (rest3 gen) hk
    by_cases hlt : k < n
    · have hlt' : (k : Int) < (n : Int) := by omega
      have c0 := R.a.head.at 0 rfl
      rw [hml] at c0
      obtain ⟨r0, r1, r2⟩ := R.a.cells k (by omega)
      have f0 := R.a.rows.free (k * 3)
      have f1 := R.a.rows.free (k * 3 + 1)
      have f2 := R.a.rows.free (k * 3 + 2)
      have gr := rest3_rng g0 g1
      go_upto_region 7 with (fail)
      go_still_tail 10, (by kernel_rfl)
      still_call ((rest_any _ _).flip)
      repeat still_step
      refine wpStill_nil ?_
      go_wp2_with fail
      go_roundw
      case rel =>
        have hW := R.a.write (Below.refl _ _) k (by omega) (rest3 gen) gr
        rw [mixed3_succ n k _ hlt] at hW
        exact ⟨k + 1, by omega, by go_num, ⟨(((R.b.setCell (Nat.le_refl _) _).setCell (Nat.le_refl _) _).setCell (Nat.le_refl _) _).drew, hW.below (Below.refl _ _).drew⟩⟩
      case measure => simp [intOf]; omega
    · obtain rfl : k = n := by omega
      go_wp2_with fail
      go_ret
      have ha := R.a
      rw [mixed3_all] at ha
      exact ⟨_, _, rfl, ha, R.b, by omega, by omega⟩
/-! what is asked of a block -/
abbrev agg3 (p : B3) : Value := .agg #[.int .i64 p.1, .int .u64 p.2.1, .int .i64 p.2.2]
set_option maxHeartbeats 800000 in
theorem bused_any (p : B3) (w : World) : Calls Try.prog 48 #[agg3 p] w fun e w' => e = .returned (.bool (p.1 == 1)) ∧ Below w.heap.size w w' := by
  go_enter Try.func48, Try.ntmps48
  go_wp2_with fail
  go_ret
  exact ⟨rfl, by (repeat (first | exact Below.refl _ _ | assumption | refine below_alloc2 ?_ (by first | exact Nat.le_refl _ | omega) _ | refine Below.drew ?_ | refine below_drewN ?_ _ | refine below_push2 ?_ ‹_› (by first | exact Nat.le_refl _ | omega) | refine Below.setCell ?_ (by first | (simp; done) | (simp; omega) | omega) _))⟩
set_option maxHeartbeats 800000 in
theorem bdrawn_any (p : B3) (w : World) : Calls Try.prog 49 #[agg3 p] w fun e w' => e = .returned (.bool (p.1 == 2)) ∧ Below w.heap.size w w' := by
  go_enter Try.func49, Try.ntmps49
  go_wp2_with fail
  go_ret
  exact ⟨rfl, by (repeat (first | exact Below.refl _ _ | assumption | refine below_alloc2 ?_ (by first | exact Nat.le_refl _ | omega) _ | refine Below.drew ?_ | refine below_drewN ?_ _ | refine below_push2 ?_ ‹_› (by first | exact Nat.le_refl _ | omega) | refine Below.setCell ?_ (by first | (simp; done) | (simp; omega) | omega) _))⟩
set_option maxRecDepth 100000 in
set_option maxHeartbeats 1600000 in
theorem count_used (g c : Nat) (l : List B3) (w : World) (h : Row3 w (some ⟨g, 0, none⟩) l) (hl : l.length ≤ 8192) : Calls Try.prog 52 #[.slice (some ⟨g, 0, none⟩) l.length c, .func (.func 48) #[] #[]] w fun e w' => e = .returned (.int .i64 (many3 l 1)) ∧ Below w.heap.size w w' := by
  go_enter Try.func52, Try.ntmps52
  go_wp2_with fail
  go_loopw [4, 9] (fun u4 i wr => ∃ k : Nat, k ≤ l.length ∧ i = .int .i64 k ∧ u4 = .int .i64 (many3 (l.take k) 1) ∧ Below w.heap.size w wr) (fun _ i _ => l.length - (intOf i).toNat)
  case atStart => exact ⟨0, Nat.zero_le _, rfl, by simp [many3], Below.refl _ _⟩
  case round =>
    obtain ⟨k, hk, rfl, rfl, hb⟩ := hrel
    by_cases hlt : k < l.length
    · have hlt' : (k : Int) < (l.length : Int) := by omega
      obtain ⟨b', off, e', hbl, c0, c1, c2⟩ := row3_cell (h.below hb) k hlt
      simp only [Option.some.injEq, Addr.mk.injEq, and_true] at e'
      obtain ⟨rfl, rfl⟩ := e'
      rw [Nat.zero_add] at c0 c1 c2
      have hm := many3_succ l 1 k hlt
      have hml := many3_le (l.take k) 1
      have hll : (l.take k).length ≤ 8192 := by simp; omega
      have hb1 := below_alloc2 hb (Nat.le_refl _) (.cells #[.int .i64 (at3 l k).1, .int .u64 (at3 l k).2.1, .int .i64 (at3 l k).2.2] 115)
      by_cases hs : (at3 l k).1 = 1
      · rw [if_pos hs] at hm
        have hq : ((at3 l k).1 == 1) = true := by simpa using hs
        have hE : Hid (((many3 (l.take (k + 1)) 1 : Nat) : Int) = many3 (l.take k) 1 + 1) := by show _ = _; omega
        have hfit : ((many3 (l.take k) 1 : Nat) : Int) + 1 ≤ 9223372036854775807 := by omega
        clear hs hm
        go_wp2_with fail
        refine (bused_any (at3 l k) _).mono ?_
        rw [hq]
        rintro e w1 ⟨rfl, hb2⟩
        go_wp2_with fail
        go_roundw
        case rel => exact ⟨k + 1, by omega, by go_num, by rw [hE.out], below_push2 hb1 hb2 (Nat.le_refl _)⟩
        case measure => simp [intOf]; omega
      · rw [if_neg hs] at hm
        have hq : ((at3 l k).1 == 1) = false := by simpa using hs
        have hE : Hid (many3 (l.take (k + 1)) 1 = many3 (l.take k) 1) := by show _ = _; omega
        clear hs hm
        go_wp2_with fail
        refine (bused_any (at3 l k) _).mono ?_
        rw [hq]
        rintro e w1 ⟨rfl, hb2⟩
        go_wp2_with fail
        go_roundw
        case rel => exact ⟨k + 1, by omega, by go_num, by rw [hE.out], below_push2 hb1 hb2 (Nat.le_refl _)⟩
        case measure => simp [intOf]; omega
    · obtain rfl : k = l.length := by omega
      rw [List.take_length]
      go_wp2_with fail
      go_ret
      exact ⟨rfl, hb⟩
set_option maxRecDepth 100000 in
set_option maxHeartbeats 1600000 in
theorem count_drawn (g c : Nat) (l : List B3) (w : World) (h : Row3 w (some ⟨g, 0, none⟩) l) (hl : l.length ≤ 8192) : Calls Try.prog 52 #[.slice (some ⟨g, 0, none⟩) l.length c, .func (.func 49) #[] #[]] w fun e w' => e = .returned (.int .i64 (many3 l 2)) ∧ Below w.heap.size w w' := by
  go_enter Try.func52, Try.ntmps52
  go_wp2_with fail
  go_loopw [4, 9] (fun u4 i wr => ∃ k : Nat, k ≤ l.length ∧ i = .int .i64 k ∧ u4 = .int .i64 (many3 (l.take k) 2) ∧ Below w.heap.size w wr) (fun _ i _ => l.length - (intOf i).toNat)
  case atStart => exact ⟨0, Nat.zero_le _, rfl, by simp [many3], Below.refl _ _⟩
  case round =>
    obtain ⟨k, hk, rfl, rfl, hb⟩ := hrel
    by_cases hlt : k < l.length
    · have hlt' : (k : Int) < (l.length : Int) := by omega
      obtain ⟨b', off, e', hbl, c0, c1, c2⟩ := row3_cell (h.below hb) k hlt
      simp only [Option.some.injEq, Addr.mk.injEq, and_true] at e'
      obtain ⟨rfl, rfl⟩ := e'
      rw [Nat.zero_add] at c0 c1 c2
      have hm := many3_succ l 2 k hlt
      have hml := many3_le (l.take k) 2
      have hll : (l.take k).length ≤ 8192 := by simp; omega
      have hb1 := below_alloc2 hb (Nat.le_refl _) (.cells #[.int .i64 (at3 l k).1, .int .u64 (at3 l k).2.1, .int .i64 (at3 l k).2.2] 115)
      by_cases hs : (at3 l k).1 = 2
      · rw [if_pos hs] at hm
        have hq : ((at3 l k).1 == 2) = true := by simpa using hs
        have hE : Hid (((many3 (l.take (k + 1)) 2 : Nat) : Int) = many3 (l.take k) 2 + 1) := by show _ = _; omega
        have hfit : ((many3 (l.take k) 2 : Nat) : Int) + 1 ≤ 9223372036854775807 := by omega
        clear hs hm
        go_wp2_with fail
        refine (bdrawn_any (at3 l k) _).mono ?_
        rw [hq]
        rintro e w1 ⟨rfl, hb2⟩
        go_wp2_with fail
        go_roundw
        case rel => exact ⟨k + 1, by omega, by go_num, by rw [hE.out], below_push2 hb1 hb2 (Nat.le_refl _)⟩
        case measure => simp [intOf]; omega
      · rw [if_neg hs] at hm
        have hq : ((at3 l k).1 == 2) = false := by simpa using hs
        have hE : Hid (many3 (l.take (k + 1)) 2 = many3 (l.take k) 2) := by show _ = _; omega
        clear hs hm
        go_wp2_with fail
        refine (bdrawn_any (at3 l k) _).mono ?_
        rw [hq]
        rintro e w1 ⟨rfl, hb2⟩
        go_wp2_with fail
        go_roundw
        case rel => exact ⟨k + 1, by omega, by go_num, by rw [hE.out], below_push2 hb1 hb2 (Nat.le_refl _)⟩
        case measure => simp [intOf]; omega
    · obtain rfl : k = l.length := by omega
      rw [List.take_length]
      go_wp2_with fail
      go_ret
      exact ⟨rfl, hb⟩
set_option maxRecDepth 100000 in
set_option maxHeartbeats 800000 in
theorem aused_any (o g : Nat) (l : List B3) (w : World) (h : ArenaAt w o g l) : Calls Try.prog 20 #[.pointer (some ⟨o, 0, none⟩)] w fun e w' => e = .returned (.int .i64 (many3 l 1)) ∧ Below w.heap.size w w' := by
  have c0 := h.head.at 0 rfl
  go_enter Try.func20, Try.ntmps20
  go_wp2_with fail
  refine (count_used _ _ l _ (RecS.of_blk h.rows) h.len).mono ?_
  rintro e w1 ⟨rfl, hb1⟩
  go_wp2_with fail
  go_ret
  exact ⟨rfl, hb1⟩
set_option maxRecDepth 100000 in
set_option maxHeartbeats 800000 in
theorem adrawn_any (o g : Nat) (l : List B3) (w : World) (h : ArenaAt w o g l) : Calls Try.prog 30 #[.pointer (some ⟨o, 0, none⟩)] w fun e w' => e = .returned (.int .i64 (many3 l 2)) ∧ Below w.heap.size w w' := by
  have c0 := h.head.at 0 rfl
  go_enter Try.func30, Try.ntmps30
  go_wp2_with fail
  refine (count_drawn _ _ l _ (RecS.of_blk h.rows) h.len).mono ?_
  rintro e w1 ⟨rfl, hb1⟩
  go_wp2_with fail
  go_ret
  exact ⟨rfl, hb1⟩
set_option maxHeartbeats 800000 in
theorem aused_nil (w : World) : Calls Try.prog 20 #[.pointer none] w fun e w' => e = .returned (.int .i64 0) ∧ w = w' := by
  go_enter Try.func20, Try.ntmps20
  go_wp2_with fail
  go_ret
  exact ⟨rfl, rfl⟩
set_option maxHeartbeats 800000 in
theorem adrawn_nil (w : World) : Calls Try.prog 30 #[.pointer none] w fun e w' => e = .returned (.int .i64 0) ∧ w = w' := by
  go_enter Try.func30, Try.ntmps30
  go_wp2_with fail
  go_ret
  exact ⟨rfl, rfl⟩
/-! State -/
set_option maxHeartbeats 800000 in
theorem state_out (o g : Nat) (l : List B3) (i : Int) (w : World) (h : ArenaAt w o g l) (hi : inB l.length i = false) : Calls Try.prog 15 #[.pointer (some ⟨o, 0, none⟩), .int .i64 i] w fun e w' => e = .returned (.tuple #[.int .i64 0, .int .u64 0, .bool false]) ∧ w = w' := by
  have hn := inB_no hi
  by_cases h0 : i < 0
  · have q : decide (i < 0) = true := by simpa using h0
    clear hn
    go_enter Try.func15, Try.ntmps15
    go_wp2_with fail
    go_ret3
    exact ⟨rfl, rfl⟩
  · have q : decide (i < 0) = false := by simpa using h0
    have q2 : decide ((l.length : Int) ≤ i) = true := by simp; omega
    clear hn h0
    go_enter Try.func15, Try.ntmps15
    go_wp2_with fail
    refine (alen_any _ _ _ _ h).mono ?_
    rintro e w1 ⟨rfl, rfl⟩
    go_wp2_with fail
    go_ret3
    exact ⟨rfl, rfl⟩
set_option maxHeartbeats 800000 in
theorem state_in (o g : Nat) (l : List B3) (k : Nat) (w : World) (h : ArenaAt w o g l) (hk : k < l.length) : Calls Try.prog 15 #[.pointer (some ⟨o, 0, none⟩), .int .i64 k] w fun e w' => e = .returned (.tuple #[.int .i64 (at3 l k).1, .int .u64 (at3 l k).2.1, .bool true]) ∧ Below w.heap.size w w' := by
  have c0 := h.head.at 0 rfl
  obtain ⟨r0, r1, r2⟩ := h.cells k hk
  have hk' : (k : Int) < (l.length : Int) := by omega
  have q2 : decide ((l.length : Int) ≤ (k : Int)) = false := by simp; omega
  go_enter Try.func15, Try.ntmps15
  go_wp2_with fail
  refine (alen_any _ _ _ _ h).mono ?_
  rintro e w1 ⟨rfl, rfl⟩
  go_wp2_with fail
  go_quiet (fail)
  go_wp2_with fail
  go_ret3
  exact ⟨rfl, below_drewN (Below.refl _ _) _⟩
set_option maxHeartbeats 800000 in
theorem claim_nil (i : Int) (w : World) : Calls Try.prog 16 #[.pointer none, .int .i64 i] w fun e w' => e = .returned (.tuple #[.int .u64 0, .int .i64 1]) ∧ w = w' := by
  go_enter Try.func16, Try.ntmps16
  go_wp2_with fail
  refine (alen_nil _).mono ?_
  rintro e w1 ⟨rfl, rfl⟩
  go_wp2_with fail
  go_ret2
  exact ⟨rfl, rfl⟩
theorem ret_wi {a b c d : Int} (h1 : a = b) (h2 : c = d) : Ending.returned (.tuple #[.int .u64 a, .int .i64 c]) = .returned (.tuple #[.int .u64 b, .int .i64 d]) := by rw [h1, h2]
theorem claimW_no {l : List B3} {i : Int} (h : claimE l i ≠ 0) : claimW l i = 0 := if_neg h
theorem claimL_no {l : List B3} {i : Int} (h : claimE l i ≠ 0) : claimL l i = l := if_neg h
theorem claimW_yes {l : List B3} {i : Int} (h : claimE l i = 0) : claimW l i = packI i (nextV (at3 l i.toNat).2.1) := if_pos h
theorem claimL_yes {l : List B3} {i : Int} (h : claimE l i = 0) : claimL l i = l.set i.toNat (1, nextV (at3 l i.toNat).2.1, 0) := if_pos h
set_option maxRecDepth 100000 in
set_option maxHeartbeats 1600000 in
theorem claim_any (o g : Nat) (l : List B3) (i : Int) (w : World) (h : ArenaAt w o g l) (i0 : -9223372036854775808 ≤ i) (i1 : i ≤ 9223372036854775807) : Calls Try.prog 16 #[.pointer (some ⟨o, 0, none⟩), .int .i64 i] w fun e w' => e = .returned (.tuple #[.int .u64 (claimW l i), .int .i64 (claimE l i)]) ∧ ArenaAt w' o g (claimL l i) ∧ Only w w' g := by
  have c0 := h.head.at 0 rfl
  have hp := h.pos
  have qz : (((l.length : Nat) : Int) == 0) = false := not_eq (by omega)
  cases hi : inB l.length i
  · have he := claimE_out hi
    have hR := Lib.hid (ret_wi (claimW_no (l := l) (i := i) (by rw [he]; decide)) he)
    have hL := claimL_no (l := l) (i := i) (by rw [he]; decide)
    rw [hL]
    have hn := inB_no hi
    clear he hL
    by_cases h0 : i < 0
    · have q : decide (i < 0) = true := by simpa using h0
      clear hn h0
      go_enter Try.func16, Try.ntmps16
      go_wp2_with fail
      refine (alen_any _ _ _ _ h).mono ?_
      rintro e w1 ⟨rfl, rfl⟩
      go_wp2_with fail
      go_ret2
      exact ⟨hR.out.symm, h, only_refl _ _⟩
    · have q : decide (i < 0) = false := by simpa using h0
      have q2 : decide ((l.length : Int) ≤ i) = true := by simp; omega
      clear hn h0
      go_enter Try.func16, Try.ntmps16
      go_wp2_with fail
      refine (alen_any _ _ _ _ h).mono ?_
      rintro e w1 ⟨rfl, rfl⟩
      go_wp2_with fail
      go_ret2
      exact ⟨hR.out.symm, h, only_refl _ _⟩
  · have he := claimE_in hi
    obtain ⟨h0, h1⟩ := inB_yes hi
    obtain ⟨k, rfl⟩ := Int.eq_ofNat_of_zero_le h0
    have hk : k < l.length := by omega
    rw [Int.toNat_natCast] at he
    have q2 : decide ((l.length : Int) ≤ (k : Int)) = false := by simp; omega
    have hg := (h.rng.at k).2.1
    obtain ⟨r0, r1, r2⟩ := h.cells k hk
    clear hi h0
    by_cases s1 : (at3 l k).1 = 1
    · rw [if_pos s1] at he
      have hR := Lib.hid (ret_wi (claimW_no (l := l) (i := k) (by rw [he]; decide)) he)
      have hL := claimL_no (l := l) (i := k) (by rw [he]; decide)
      rw [hL]
      have t1 : ((at3 l k).1 == 1) = true := by simpa using s1
      clear he hL s1
      go_enter Try.func16, Try.ntmps16
      go_wp2_with fail
      refine (alen_any _ _ _ _ h).mono ?_
      rintro e w1 ⟨rfl, rfl⟩
      go_wp2_with fail
      refine (bused_any (at3 l k) _).mono ?_
      rw [t1]
      rintro e w1 ⟨rfl, hb1⟩
      go_wp2_with fail
      go_ret2
      exact ⟨hR.out.symm, h.below hb1, only_of_below hb1 _⟩
    · rw [if_neg s1] at he
      have t1 : ((at3 l k).1 == 1) = false := by simpa using s1
      by_cases s2 : (at3 l k).1 = 2
      · rw [if_pos s2] at he
        have hR := Lib.hid (ret_wi (claimW_no (l := l) (i := k) (by rw [he]; decide)) he)
        have hL := claimL_no (l := l) (i := k) (by rw [he]; decide)
        rw [hL]
        have t2 : ((at3 l k).1 == 2) = true := by simpa using s2
        clear he hL s1 s2
        go_enter Try.func16, Try.ntmps16
        go_wp2_with fail
        refine (alen_any _ _ _ _ h).mono ?_
        rintro e w1 ⟨rfl, rfl⟩
        go_wp2_with fail
        refine (bused_any (at3 l k) _).mono ?_
        rw [t1]
        rintro e w1 ⟨rfl, hb1⟩
        have h1 := h.below hb1
        have c0 := h1.head.at 0 rfl
        obtain ⟨r0, r1, r2⟩ := h1.cells k hk
        go_wp2_with fail
        refine (bdrawn_any (at3 l k) _).mono ?_
        rw [t2]
        rintro e w2 ⟨rfl, hb2⟩
        go_wp2_with fail
        go_ret2
        exact ⟨hR.out.symm, h1.below hb2, only_of_below (below_push2 hb1 hb2 (Nat.le_refl _)) _⟩
      · rw [if_neg s2] at he
        have hR := Lib.hid (ret_wi (claimW_yes he) he)
        have hL := Lib.hid (claimL_yes he)
        rw [Int.toNat_natCast] at hR hL
        have t2 : ((at3 l k).1 == 2) = false := by simpa using s2
        clear he s1 s2
        go_enter Try.func16, Try.ntmps16
        go_wp2_with fail
        refine (alen_any _ _ _ _ h).mono ?_
        rintro e w1 ⟨rfl, rfl⟩
        go_wp2_with fail
        refine (bused_any (at3 l k) _).mono ?_
        rw [t1]
        rintro e w1 ⟨rfl, hb1⟩
        have h1 := h.below hb1
        have c0 := h1.head.at 0 rfl
        obtain ⟨r0, r1, r2⟩ := h1.cells k hk
        go_wp2_with fail
        refine (bdrawn_any (at3 l k) _).mono ?_
        rw [t2]
        rintro e w2 ⟨rfl, hb2⟩
        have h2 := h1.below hb2
        have c0 := h2.head.at 0 rfl
        obtain ⟨r0, r1, r2⟩ := h2.cells k hk
        have f0 := h2.rows.free (k * 3)
        have f1 := h2.rows.free (k * 3 + 1)
        have f2 := h2.rows.free (k * 3 + 2)
        have hB2 := below_push2 hb1 hb2 (Nat.le_refl _)
        have hk' : (k : Int) < (l.length : Int) := by omega
        clear hb1 hb2
        go_upto_region 9 with (fail)
        go_still_tail 15, (by kernel_rfl)
        have hW := h2.write (Below.refl _ _) k hk (1, nextV (at3 l k).2.1, 0) ⟨by simp, nextV_rng _, by simp⟩
        have hwr : IntKind.u64.wrap ((at3 l k).2.1 + 1) = nextV (at3 l k).2.1 := IntKind.wrap_u64 _
        have hnv := nextV_rng (at3 l k).2.1
        have hne := h.ne
        have hne' : ¬ g = o := fun e => h.ne e.symm
        go_wp2_with fail
        refine (pack_any _ _ _ (by omega) (by omega) hnv.1 hnv.2).mono ?_
        rintro e w3 ⟨rfl, rfl⟩
        go_wp2_with fail
        go_ret2
        rw [hL.out]
        exact ⟨hR.out.symm, hW.below (Below.refl _ _).drew, only_trans (only_set (only_set (only_set (only_of_below hB2 _) _ _) _ _) _ _) (only_of_below (Below.refl _ _).drew _)⟩
/-! the block of a word -/
theorem ret_pe {p : Option Addr} {c d : Int} (h2 : c = d) : Ending.returned (.tuple #[.pointer p, .int .i64 c]) = .returned (.tuple #[.pointer p, .int .i64 d]) := by rw [h2]
set_option maxHeartbeats 800000 in
theorem at_nil (x : Int) (w : World) : Calls Try.prog 51 #[.pointer none, .int .u64 x] w fun e w' => e = .returned (.tuple #[.pointer none, .int .i64 1]) ∧ w = w' := by
  go_enter Try.func51, Try.ntmps51
  go_wp2_with fail
  refine (alen_nil _).mono ?_
  rintro e w1 ⟨rfl, rfl⟩
  go_wp2_with fail
  go_ret2
  exact ⟨rfl, rfl⟩
set_option maxHeartbeats 1600000 in
theorem at_no (o g : Nat) (l : List B3) (x : Int) (w : World) (h : ArenaAt w o g l) (x0 : 0 ≤ x) (x1 : x ≤ 18446744073709551615) (he : atE l x ≠ 0) : Calls Try.prog 51 #[.pointer (some ⟨o, 0, none⟩), .int .u64 x] w fun e w' => e = .returned (.tuple #[.pointer none, .int .i64 (atE l x)]) ∧ Below w.heap.size w w' := by
  have hp := h.pos
  have qz : (((l.length : Nat) : Int) == 0) = false := not_eq (by omega)
  cases hi : namesB l x
  · have hR := Lib.hid (ret_pe (p := none) (atE_out hi))
    cases ho : opensB x
    · clear hi he
      go_enter Try.func51, Try.ntmps51
      go_wp2_with fail
      refine (alen_any _ _ _ _ h).mono ?_
      rintro e w1 ⟨rfl, rfl⟩
      go_wp2_with fail
      refine (open_any _ _ x0 x1).mono ?_
      rw [ho]
      rintro e w1 ⟨rfl, hb1⟩
      have c0 := (h.below hb1).head.at 0 rfl
      go_wp2_with fail
      go_ret2
      exact ⟨hR.out.symm, hb1⟩
    · have hlt : ¬ openP x < (l.length : Int) := by
        intro q; simp [namesB, ho, q] at hi
      have q2 : decide ((l.length : Int) ≤ openP x) = true := by simp; omega
      clear hi he hlt
      go_enter Try.func51, Try.ntmps51
      go_wp2_with fail
      refine (alen_any _ _ _ _ h).mono ?_
      rintro e w1 ⟨rfl, rfl⟩
      go_wp2_with fail
      refine (open_any _ _ x0 x1).mono ?_
      rw [ho]
      rintro e w1 ⟨rfl, hb1⟩
      have c0 := (h.below hb1).head.at 0 rfl
      go_wp2_with fail
      go_ret2
      exact ⟨hR.out.symm, hb1⟩
  · have hE := atE_in hi
    obtain ⟨ho, hx0, hx1⟩ := namesB_yes hi
    obtain ⟨k, hk⟩ := Int.eq_ofNat_of_zero_le hx0
    rw [hk, Int.toNat_natCast] at hE
    rw [hk] at hx1
    have hkl : k < l.length := by omega
    have q2 : decide ((l.length : Int) ≤ (k : Int)) = false := by simp; omega
    by_cases hg : (at3 l k).2.1 = openG x
    · rw [if_neg (by simpa using hg)] at hE
      have hq : ((at3 l k).2.1 != openG x) = false := by simpa using hg
      by_cases hs : (at3 l k).1 = 1
      · rw [if_neg (by simpa using hs)] at hE
        exact absurd hE he
      · rw [if_pos hs] at hE
        have hR := Lib.hid (ret_pe (p := none) hE)
        have hs' : ((at3 l k).1 == 1) = false := by simpa using hs
        clear hi he hx0 hE hg hs
        go_enter Try.func51, Try.ntmps51
        go_wp2_with fail
        refine (alen_any _ _ _ _ h).mono ?_
        rintro e w1 ⟨rfl, rfl⟩
        go_wp2_with fail
        refine (open_any _ _ x0 x1).mono ?_
        rw [ho, hk]
        rintro e w1 ⟨rfl, hb1⟩
        have h1 := h.below hb1
        have c0 := h1.head.at 0 rfl
        obtain ⟨r0, r1, r2⟩ := h1.cells k hkl
        go_wp2_with fail
        refine (bused_any (at3 l k) _).mono ?_
        rw [hs']
        rintro e w2 ⟨rfl, hb2⟩
        go_wp2_with fail
        go_ret2
        exact ⟨hR.out.symm, below_push2 hb1 hb2 (Nat.le_refl _)⟩
    · rw [if_pos (by simpa using hg)] at hE
      have hq : ((at3 l k).2.1 != openG x) = true := by simpa using hg
      have hR := Lib.hid (ret_pe (p := none) hE)
      clear hi he hx0 hE hg
      go_enter Try.func51, Try.ntmps51
      go_wp2_with fail
      refine (alen_any _ _ _ _ h).mono ?_
      rintro e w1 ⟨rfl, rfl⟩
      go_wp2_with fail
      refine (open_any _ _ x0 x1).mono ?_
      rw [ho, hk]
      rintro e w1 ⟨rfl, hb1⟩
      have h1 := h.below hb1
      have c0 := h1.head.at 0 rfl
      obtain ⟨r0, r1, r2⟩ := h1.cells k hkl
      go_wp2_with fail
      go_ret2
      exact ⟨hR.out.symm, hb1⟩
set_option maxHeartbeats 1600000 in
theorem at_yes (o g : Nat) (l : List B3) (x : Int) (w : World) (h : ArenaAt w o g l) (x0 : 0 ≤ x) (x1 : x ≤ 18446744073709551615) (k : Nat) (hk : openP x = k) (he : atE l x = 0) : Calls Try.prog 51 #[.pointer (some ⟨o, 0, none⟩), .int .u64 x] w fun e w' => e = .returned (.tuple #[.pointer (some ⟨g, k * 3, none⟩), .int .i64 0]) ∧ Below w.heap.size w w' := by
  have hp := h.pos
  have qz : (((l.length : Nat) : Int) == 0) = false := not_eq (by omega)
  obtain ⟨hi, hg, hs⟩ := atE_zero he
  obtain ⟨ho, hx0, hx1⟩ := namesB_yes hi
  rw [hk, Int.toNat_natCast] at hg hs
  rw [hk] at hx1
  have hkl : k < l.length := by omega
  have q2 : decide ((l.length : Int) ≤ (k : Int)) = false := by simp; omega
  have hq : ((at3 l k).2.1 != openG x) = false := by simpa using hg
  have hs' : ((at3 l k).1 == 1) = true := by simpa using hs
  clear hi he hx0 hg hs
  go_enter Try.func51, Try.ntmps51
  go_wp2_with fail
  refine (alen_any _ _ _ _ h).mono ?_
  rintro e w1 ⟨rfl, rfl⟩
  go_wp2_with fail
  refine (open_any _ _ x0 x1).mono ?_
  rw [ho, hk]
  rintro e w1 ⟨rfl, hb1⟩
  have h1 := h.below hb1
  have c0 := h1.head.at 0 rfl
  obtain ⟨r0, r1, r2⟩ := h1.cells k hkl
  go_wp2_with fail
  refine (bused_any (at3 l k) _).mono ?_
  rw [hs']
  rintro e w2 ⟨rfl, hb2⟩
  go_wp2_with fail
  go_ret2
  exact ⟨rfl, below_push2 hb1 hb2 (Nat.le_refl _)⟩
end Go.Proofs.Ytpkiihangfgmlaa.ArP
