/-
  The walk of ArenaPlays.
-/
import Derived.Test.YtpkiihangfgmlaaArenaLaw
import Derived.Test.YtpkiihangfgmlaaOpen
import Derived.Deep.RegionWith
import Derived.Deep.DeepCutAuto
namespace Go.Proofs.Ytpkiihangfgmlaa.arenaPlays
open Go.ChangeShapes Go.WideShapes Go.ChangeAt Go.RowKit RefP CellP ArP
set_option linter.unusedVariables false
set_option linter.unusedSimpArgs false

def actK (j : Nat) : IntKind := if j = 3 then .u64 else .i64
/-- a round's state: the arena, the document's rows, the words that were told -/
structure PR (w : World) (n o g : Nat) (a : Option Addr) (L : List B3) (at_ : Option Addr) (ct : Nat) (T : List Int) (wr : World) : Prop where
  b : Below w.heap.size w wr
  A : ArenaAt wr o g L
  p : Row3 wr a L
  l : L.length = n
  tw : OwnsU wr w.heap.size at_ ct T
  og : w.heap.size ≤ o ∧ w.heap.size ≤ g
  ne : ∀ b off, a = some ⟨b, off, none⟩ → b ≠ g ∧ b < wr.heap.size
  nt : ∀ q, (Value.slice at_ T.length ct).ownBlock = some q → q ≠ o ∧ q ≠ g ∧ ∀ b off, a = some ⟨b, off, none⟩ → b ≠ q
theorem PR.below {w : World} {n o g : Nat} {a : Option Addr} {L : List B3} {at_ : Option Addr} {ct : Nat} {T : List Int} {wr wx : World} (h : PR w n o g a L at_ ct T wr) (hb : Below wr.heap.size wr wx) : PR w n o g a L at_ ct T wx :=
  ⟨below_push2 h.b hb (Nat.le_refl _), h.A.below hb, RecS.below h.p hb, h.l, h.tw.below hb, h.og, fun b off e => ⟨(h.ne b off e).1, Nat.lt_of_lt_of_le (h.ne b off e).2 hb.size⟩, h.nt⟩
theorem Row3.grown {w w' : World} {a : Option Addr} {l : List B3} {g : Nat} (h : Row3 w a l) (hg : w.grownBy w' (some g)) (hne : ∀ b off, a = some ⟨b, off, none⟩ → b ≠ g) : Row3 w' a l := ⟨CellP.Holds.grown h.row hg hne⟩
/-- the arena was written, the rows of the document are what they were or new -/
theorem PR.wrote {w : World} {n o g : Nat} {a : Option Addr} {c : Nat} {L L' : List B3} {at_ : Option Addr} {ct : Nat} {T : List Int} {wr w1 wm w2 : World} (h : PR w n o g a L at_ ct T wr) (hg : wr.grownBy w1 (some g)) (hA : ArenaAt w1 o g L')
    (hm : Below w1.heap.size w1 wm) {a' : Option Addr} {c' : Nat} (hs : SameOr wm a c L L' a' c' w2) (hl : L'.length = n) (hn : 0 < n) : PR w n o g a' L' at_ ct T w2 := by
  obtain ⟨hr, hb, hor⟩ := hs
  have hB := below_push2 hm hb (Nat.le_refl _)
  have hsz := hm.size
  have hsg := hg.size
  have hgl := h.A.rows.lt
  have hol := h.A.head.lt
  refine ⟨below_push2 (below_only h.b hg (Nat.le_refl _) h.og.2) hB (Nat.le_refl _), hA.below hB, hr, hl, (h.tw.kept hg ?_).below hB, h.og, fun b off e => ?_, fun q e => ⟨(h.nt q e).1, (h.nt q e).2.1, fun b off e' => ?_⟩⟩
  · cases ho : (Value.slice at_ T.length ct).ownBlock with
    | none => exact .inl rfl
    | some q => exact .inr (fun e => (h.nt q ho).2.1 (by injection e))
  · refine ⟨?_, ?_⟩
    · rcases hor with ⟨e1, _, _⟩ | hf
      · rw [e1] at e; exact (h.ne b off e).1
      · have := hf b off e; omega
    · obtain ⟨b', off', e', hlt, _⟩ := hr.row.get (by omega)
      rw [e'] at e
      simp only [Option.some.injEq, Addr.mk.injEq, and_true] at e
      omega
  · rcases hor with ⟨e1, _, _⟩ | hf
    · rw [e1] at e'; exact (h.nt q e).2.2 b off e'
    · have h1 := hf b off e'
      have h2 := (h.tw.lt q e).2
      omega
/-- a word was told -/
theorem PR.told {w : World} {n o g : Nat} {a : Option Addr} {L : List B3} {at_ : Option Addr} {ct : Nat} {T : List Int} {wr : World} (h : PR w n o g a L at_ ct T wr) (x : Int) {b : Nat} {g' cap : Nat} {w' : World}
    (A : AddedU (wr.alloc (.cells #[.int .u64 x] 22)) w.heap.size at_ ct T (.slice (some ⟨b, 0, none⟩) 1 1) 1 (T ++ [x]) g' cap w') : PR w n o g a L (some ⟨g', 0, none⟩) cap (T ++ [x]) w' := by
  have h1 := h.below ((Below.refl _ wr).alloc (Nat.le_refl _) (.cells #[.int .u64 x] 22))
  have hgl := h1.A.rows.lt
  have hol := h1.A.head.lt
  have hne : ∀ b', (∀ q, (Value.slice at_ T.length ct).ownBlock = some q → q ≠ b') → some b' ≠ (Value.slice at_ T.length ct).ownBlock := fun b' k e => k b' e.symm rfl
  have hsz := h1.b.size
  refine ⟨A.keeps (fun k e => (h1.tw.lt k e).1) w _ (Nat.le_refl _) h1.b hsz, ⟨h1.A.head.grown A.grown (hne _ fun q e => (h.nt q e).1), h1.A.rows.grown A.grown (hne _ fun q e => (h.nt q e).2.1), h1.A.ne, h1.A.rng, h1.A.len, h1.A.pos⟩, ?_, h.l, A.own, h.og, fun b off e => ⟨(h1.ne b off e).1, Nat.lt_of_lt_of_le (h1.ne b off e).2 A.grown.size⟩, fun q e => ?_⟩
  · refine ⟨⟨fun h0 => ?_⟩⟩
    obtain ⟨b0, off, ha, hl, hc⟩ := h1.p.row.get h0
    exact ⟨b0, off, ha, Nat.lt_of_lt_of_le hl A.grown.size, fun i hi => (World.cell?_of_block (A.grown.block b0 hl (hne _ fun q e => Ne.symm ((h.nt q e).2.2 b0 off ha)))).trans (hc i hi)⟩
  · simp only [Value.ownBlock, Option.some.injEq] at e
    subst e
    rcases A.at' with q | q
    · exact h.nt _ q
    · subst q
      exact ⟨by omega, by omega, fun b off e => by have := (h1.ne b off e).2; omega⟩

theorem like_n (o g : Nat) (a : Option Addr) (c n : Nat) (l : List B3) (w : World) (h : ArenaAt w o g l) (hp : Row3 w a l) (hn : l.length = n) :
    Calls Try.prog 37 #[.pointer (some ⟨o, 0, none⟩), .slice a n c] w fun e w' => e = .returned (.bool true) ∧ Below w.heap.size w w' := by
  subst hn; exact like_any o g a c l w h hp
theorem dclaim_n (a : Option Addr) (c n : Nat) (l : List B3) (i : Int) (w : World) (h : Row3 w a l) (hl : l.length ≤ 8192) (hr : Rng3 l) (i0 : -9223372036854775808 ≤ i) (i1 : i ≤ 9223372036854775807) (hn : l.length = n) :
    Calls Try.prog 32 #[.slice a n c, .int .i64 i] w fun e w' => ∃ a' c', e = .returned (.tuple #[.slice a' n c', .int .u64 (claimW l i), .int .i64 (claimE l i)]) ∧ SameOr w a c l (claimL l i) a' c' w' := by
  subst hn; exact dclaim_any a c l i w h hl hr i0 i1
theorem dfree_n (a : Option Addr) (c n : Nat) (l : List B3) (x : Int) (w : World) (h : Row3 w a l) (hl : l.length ≤ 8192) (x0 : 0 ≤ x) (x1 : x ≤ 18446744073709551615) (hn : l.length = n) :
    Calls Try.prog 34 #[.slice a n c, .int .u64 x] w fun e w' => ∃ a' c', e = .returned (.tuple #[.slice a' n c', .int .i64 (atE l x)]) ∧ SameOr w a c l (freeL l x) a' c' w' := by
  subst hn; exact dfree_any a c l x w h hl x0 x1
theorem dput_n (a : Option Addr) (c n : Nat) (l : List B3) (x y : Int) (w : World) (h : Row3 w a l) (hl : l.length ≤ 8192) (x0 : 0 ≤ x) (x1 : x ≤ 18446744073709551615) (hn : l.length = n) :
    Calls Try.prog 35 #[.slice a n c, .int .u64 x, .int .i64 y] w fun e w' => ∃ a' c', e = .returned (.tuple #[.slice a' n c', .int .i64 (atE l x)]) ∧ SameOr w a c l (putL l x y) a' c' w' := by
  subst hn; exact dput_any a c l x y w h hl x0 x1
theorem datn_yes (a : Option Addr) (c n : Nat) (l : List B3) (x : Int) (w : World) (h : Row3 w a l) (hl : l.length ≤ 8192) (x0 : 0 ≤ x) (x1 : x ≤ 18446744073709551615) (hn : l.length = n) (k : Nat) (hk : openP x = k) (he : atE l x = 0) :
    Calls Try.prog 36 #[.slice a n c, .int .u64 x] w fun e w' => e = .returned (.tuple #[.int .i64 k, .int .i64 0]) ∧ Below w.heap.size w w' := by
  subst hn; exact dat_yes a c l x w h hl x0 x1 k hk he
theorem datn_no (a : Option Addr) (c n : Nat) (l : List B3) (x : Int) (w : World) (h : Row3 w a l) (hl : l.length ≤ 8192) (x0 : 0 ≤ x) (x1 : x ≤ 18446744073709551615) (hn : l.length = n) (he : atE l x ≠ 0) :
    Calls Try.prog 36 #[.slice a n c, .int .u64 x] w fun e w' => e = .returned (.tuple #[.int .i64 0, .int .i64 (atE l x)]) ∧ Below w.heap.size w w' := by
  subst hn; exact dat_no a c l x w h hl x0 x1 he
theorem told_words {w wr : World} {n o g : Nat} {a : Option Addr} {L : List B3} {at_ : Option Addr} {ct : Nat} {T : List Int} (h : PR w n o g a L at_ ct T wr) (hT : T.length ≤ 80) : U64s wr at_ T := h.tw.words (by omega)

set_option maxRecDepth 100000 in
set_option maxHeartbeats 3200000 in
theorem walk_yes (n : Nat) (gen : Int) (a : Option Addr) (c m : Nat) (F : Nat → Nat → Int) (w : World) (n0 : 1 ≤ n) (n1 : n ≤ 40) (g0 : 0 ≤ gen) (g1 : gen ≤ 4294967295) (hA : Nums w a m 5 actK F) (hm : m ≤ 80) :
    Calls Try.prog 6 #[.int .i64 n, .int .u64 gen, .slice a m c] w fun e w' => e = .returned (.bool true) ∧ Below w.heap.size w w' := by
  have q1 : decide (80 < (m : Int)) = false := by simp; omega
  have q2 : decide (40 < (n : Int)) = false := by simp; omega
  have q3 : decide ((n : Int) < 1) = false := by simp; omega
  have q4 : decide (8192 < (n : Int)) = false := by simp; omega
  have q5 : decide (4294967295 < gen) = false := by simp; omega
  go_enter Try.func6, Try.ntmps6
  go_wp2_with fail
  refine (new_yes n gen _ (by omega) (by omega) g0 g1).mono ?_
  rintro e w1 ⟨o, g, rfl, hC, hb1, hO, hG⟩
  go_wp2_with fail
  refine (dnew_any n gen _ (by omega)).mono ?_
  rintro e w2 ⟨aa, cc, rfl, hP, hb2, hf2⟩
  have R0 : PR w n o g aa (List.replicate n (rest3 gen)) none 0 [] w2 := by
    refine ⟨below_push2 hb1 hb2 (Nat.le_refl _), hC.below hb2, hP, by simp, OwnsU.nil _ _, ⟨hO, hG⟩, fun b off e => ⟨?_, ?_⟩, fun q e => by simp [Value.ownBlock] at e⟩
    · have := hf2 b off e; have := hC.rows.lt; omega
    · obtain ⟨b', off', e', hlt, _⟩ := hP.row.get (by simp; omega)
      rw [e'] at e
      simp only [Option.some.injEq, Addr.mk.injEq, and_true] at e
      omega
  rw [List.length_replicate]
  clear q1 q2 q3 q4 q5 hC hb1 hO hG hP hb2 hf2
  go_wp2_with fail
  go_loopw [12, 13, 91] (fun u12 u13 i wr => ∃ k : Nat, k ≤ m ∧ i = .int .i64 k ∧ ∃ a c L at_ ct T, u12 = .slice a n c ∧ u13 = .slice at_ T.length ct ∧ T.length ≤ k ∧ PR w n o g a L at_ ct T wr) (fun _ _ i _ => m - (intOf i).toNat)
  case atStart => exact ⟨0, Nat.zero_le _, rfl, aa, cc, _, none, 0, [], rfl, rfl, Nat.le_refl _, R0⟩
  case round =>
    clear R0
    obtain ⟨k, hk, rfl, aw, cw, L, at_, ct, T, rfl, rfl, hTk, R⟩ := hrel
    by_cases hlt : k < m
    · obtain ⟨b, off, rfl, hbl, hc⟩ := (hA.below R.b).cell k hlt
      have c0 : wr.cell? ⟨b, off + k * 5, none⟩ = some (.int .i64 (F k 0)) := hc 0 (by omega)
      have c1' : wr.cell? ⟨b, off + k * 5 + 1, none⟩ = some (.int .i64 (F k 1)) := hc 1 (by omega)
      have c2 : wr.cell? ⟨b, off + k * 5 + 2, none⟩ = some (.int .i64 (F k 2)) := hc 2 (by omega)
      have c3 : wr.cell? ⟨b, off + k * 5 + 3, none⟩ = some (.int .u64 (F k 3)) := hc 3 (by omega)
      have c4 : wr.cell? ⟨b, off + k * 5 + 4, none⟩ = some (.int .i64 (F k 4)) := hc 4 (by omega)
      have hpl := Lift.i64_range (hA.wf k 1 hlt (by omega))
      have hrw := Lift.u64_range (hA.wf k 3 hlt (by omega))
      have hxx := Lift.i64_range (hA.wf k 4 hlt (by omega))
      clear hc
      generalize F k 0 = kd at c0
      generalize F k 1 = pl at c1' hpl
      generalize F k 2 = ago at c2
      generalize F k 3 = raw at c3 hrw
      generalize F k 4 = x at c4 hxx
      have R1 := R.below (below_alloc2 (Below.refl _ wr) (Nat.le_refl _) (.cells #[.int .i64 kd, .int .i64 pl, .int .i64 ago, .int .u64 raw, .int .i64 x] 80))
      have N1 := Blk.new wr #[.int .i64 kd, .int .i64 pl, .int .i64 ago, .int .u64 raw, .int .i64 x] 80
      have hne : some wr.heap.size ≠ some g := by have := R.A.rows.lt; intro e; injection e; omega
      have hLl := R.A.len
      have hlL := R.l
      by_cases k0 : kd = 0
      · subst k0
        have n0 := N1.at 0 rfl
        have n1 := N1.at 1 rfl
        have n2 := N1.at 2 rfl
        have n3 := N1.at 3 rfl
        have n4 := N1.at 4 rfl
        go_wp2_with fail
        refine (claim_any _ _ _ _ _ R1.A hpl.1 hpl.2).mono ?_
        rintro e wx ⟨rfl, hA2, hg2⟩
        clear n0 n1 n2 n3 n4
        have N2 := N1.grown hg2 hne
        have n0 := N2.at 0 rfl
        have n1 := N2.at 1 rfl
        have n2 := N2.at 2 rfl
        have n3 := N2.at 3 rfl
        have n4 := N2.at 4 rfl
        have P2 := Row3.grown R1.p hg2 (fun b off e => (R1.ne b off e).1)
        go_wp2_with fail
        refine (dclaim_n _ _ _ _ _ _ P2 hLl R1.A.rng hpl.1 hpl.2 hlL).mono ?_
        rintro e wy ⟨a3, c3, rfl, hS⟩
        have R3 := R1.wrote hg2 hA2 (Below.refl _ _) hS (by rw [claimL_length, hlL]) (by omega)
        clear hA2 hg2 hS P2 R1
        by_cases hz : claimE L pl = 0
        · have hq : (claimE L pl == 0) = true := by simpa using hz
          have hcr : 0 ≤ claimW L pl ∧ claimW L pl ≤ 18446744073709551615 := by rw [claimW_yes hz]; exact ⟨packI_lo _ _, packI_hi _ _⟩
          clear hz
          obtain ⟨g', cap, w', A⟩ := addOne w.heap.size R3.tw (claimW L pl) hcr (by omega) R3.b.size
          have hrun := Lib.hid A.run
          have R4 := R3.told (claimW L pl) A
          have hT1 : (T ++ [claimW L pl]).length = T.length + 1 := by simp
          clear A R3
          go_wp2_with (at_builtin; refine wpList_append_run hrun.out rfl (by rfl) (by rfl) (by rfl) ?_)
          refine (like_n _ _ _ _ _ _ _ R4.A R4.p R4.l).mono ?_
          rintro e wz ⟨rfl, hbz⟩
          go_wp2_with fail
          go_roundw
          case rel => exact ⟨k + 1, by omega, by go_num, _, _, _, _, _, _, rfl, by rw [hT1], by omega, R4.below hbz⟩
          case measure => simp [intOf]; omega
        · have hq : (claimE L pl == 0) = false := not_eq hz
          clear hz
          go_wp2_with fail
          refine (like_n _ _ _ _ _ _ _ R3.A R3.p R3.l).mono ?_
          rintro e wz ⟨rfl, hbz⟩
          go_wp2_with fail
          go_roundw
          case rel => exact ⟨k + 1, by omega, by go_num, _, _, _, _, _, _, rfl, rfl, by omega, R3.below hbz⟩
          case measure => simp [intOf]; omega
      have q0 : (kd == 0) = false := not_eq k0
      clear k0
      have hT := told_words R1 (by omega)
      have hwr := wordI_rng ago raw hT hrw.1 hrw.2
      by_cases k1 : kd = 1
      · subst k1
        have n0 := N1.at 0 rfl
        have n1 := N1.at 1 rfl
        have n2 := N1.at 2 rfl
        have n3 := N1.at 3 rfl
        have n4 := N1.at 4 rfl
        go_wp2_with fail
        refine (word_any _ _ _ _ _ _ _ T _ hT (by omega)).mono ?_
        rintro e wx ⟨rfl, hbx⟩
        have R2 := R1.below hbx
        clear n0 n1 n2 n3 n4
        go_wp2_with fail
        refine (free_any _ _ _ _ _ R2.A hwr.1 hwr.2).mono ?_
        rintro e wy ⟨rfl, hA3, hg3⟩
        have N3 := (N1.below hbx).grown hg3 hne
        have n0 := N3.at 0 rfl
        have n1 := N3.at 1 rfl
        have n2 := N3.at 2 rfl
        have n3 := N3.at 3 rfl
        have n4 := N3.at 4 rfl
        have T3 := R2.tw.kept hg3 (by
          cases ho : (Value.slice at_ T.length ct).ownBlock with
          | none => exact .inl rfl
          | some q => exact .inr (fun e => (R2.nt q ho).2.1 (by injection e)))
        have P3 := Row3.grown R2.p hg3 (fun b off e => (R2.ne b off e).1)
        go_wp2_with fail
        refine (word_any _ _ _ _ _ _ _ T _ (T3.words (by omega)) (by omega)).mono ?_
        rintro e wz ⟨rfl, hbz⟩
        go_wp2_with fail
        refine (dfree_n _ _ _ _ _ _ (RecS.below P3 hbz) hLl hwr.1 hwr.2 hlL).mono ?_
        rintro e wv ⟨a3, c3', rfl, hS⟩
        have R3 := R2.wrote hg3 hA3 hbz hS (by rw [freeL_length, hlL]) (by omega)
        clear hA3 hg3 hS P3 T3 R1 R2 n0 n1 n2 n3 n4
        go_wp2_with fail
        refine (like_n _ _ _ _ _ _ _ R3.A R3.p R3.l).mono ?_
        rintro e wu ⟨rfl, hbu⟩
        go_wp2_with fail
        go_roundw
        case rel => exact ⟨k + 1, by omega, by go_num, _, _, _, _, _, _, rfl, rfl, by omega, R3.below hbu⟩
        case measure => simp [intOf]; omega
      have q1 : (kd == 1) = false := not_eq k1
      clear k1
      by_cases k2 : kd = 2
      · subst k2
        have n0 := N1.at 0 rfl
        have n1 := N1.at 1 rfl
        have n2 := N1.at 2 rfl
        have n3 := N1.at 3 rfl
        have n4 := N1.at 4 rfl
        have R1d := R1.below (Below.refl _ _).drew
        have N1d := N1.drew
        go_upto_region 34 with (fail)
        go_cut [17] (fun u17 wx => u17 = .int .i64 (atE L (wordI ago raw T)) ∧ ∃ wm, PR w n o g aw L at_ ct T wm ∧ Blk wm wr.heap.size #[.int .i64 2, .int .i64 pl, .int .i64 ago, .int .u64 raw, .int .i64 x] 80 ∧ wm.grownBy wx (some g) ∧ ArenaAt wx o g (putL L (wordI ago raw T) x))
        case first =>
          go_region_with (first
            | (go_at_call 33; refine (word_any _ _ _ _ _ _ _ T _ (told_words R1d (by omega)) (by omega)).mono ?_; rintro e wx ⟨rfl, hbx⟩; have R2 := R1d.below hbx; have N2 := N1d.below hbx; have m4 := N2.at 4 rfl)
            | (go_at_call 17; refine (put_any _ _ _ _ _ _ R2.A hwr.1 hwr.2 hxx.1 hxx.2).mono ?_; rintro e wy ⟨rfl, hA3, hg3⟩))
          all_goals
            go_wp2_with fail
            go_meet
            exact ⟨rfl, _, R2, N2, hg3, hA3⟩
        case rest =>
          clear n0 n1 n2 n3 n4 R1d N1d
          obtain ⟨rfl, wm, R2, N2, hg3, hA3⟩ := hcut
          have T3 := R2.tw.kept hg3 (by
            cases ho : (Value.slice at_ T.length ct).ownBlock with
            | none => exact .inl rfl
            | some q => exact .inr (fun e => (R2.nt q ho).2.1 (by injection e)))
          have P3 := Row3.grown R2.p hg3 (fun b off e => (R2.ne b off e).1)
          have N3 := N2.grown hg3 hne
          have n0 := N3.at 0 rfl
          have n1 := N3.at 1 rfl
          have n2 := N3.at 2 rfl
          have n3 := N3.at 3 rfl
          have n4 := N3.at 4 rfl
          have N3d := N3.drew
          have T3d := (T3.below (Below.refl _ _).drew).words (show T.length ≤ 9223372036854775807 by omega)
          have P3d := RecS.below P3 (Below.refl _ _).drew
          go_upto_region 35 with (fail)
          go_region_with (first
            | (go_at_call 33; refine (word_any _ _ _ _ _ _ _ T _ T3d (by omega)).mono ?_; rintro e wx ⟨rfl, hbx⟩; have m4 := (N3d.below hbx).at 4 rfl)
            | (go_at_call 35; refine (dput_n _ _ _ _ _ _ _ (RecS.below P3d hbx) hLl hwr.1 hwr.2 hlL).mono ?_; rintro e wy ⟨a3, c3', rfl, hS⟩))
          all_goals
            have R3 := R2.wrote hg3 hA3 (below_push2 (Below.refl _ _).drew hbx (Nat.le_refl _)) hS (by rw [putL_length, hlL]) (by omega)
            clear N3d T3d P3d R2 T3 P3 hg3 hA3 hS
            go_wp2_with fail
            refine (like_n _ _ _ _ _ _ _ R3.A R3.p R3.l).mono ?_
            rintro e wu ⟨rfl, hbu⟩
            go_wp2_with fail
            go_roundw
            case rel => exact ⟨k + 1, by omega, by go_num, _, _, _, _, _, _, rfl, rfl, by omega, R3.below hbu⟩
            case measure => simp [intOf]; omega
      · have q2 : (kd == 2) = false := not_eq k2
        clear k2
        have n0 := N1.at 0 rfl
        have n1 := N1.at 1 rfl
        have n2 := N1.at 2 rfl
        have n3 := N1.at 3 rfl
        have n4 := N1.at 4 rfl
        go_wp2_with fail
        refine (word_any _ _ _ _ _ _ _ T _ hT (by omega)).mono ?_
        rintro e wx ⟨rfl, hbx⟩
        have R2 := R1.below hbx
        have N2 := N1.below hbx
        clear n0 n1 n2 n3 n4 R1
        have n0 := N2.at 0 rfl
        have n1 := N2.at 1 rfl
        have n2 := N2.at 2 rfl
        have n3 := N2.at 3 rfl
        have n4 := N2.at 4 rfl
        go_wp2_with fail
        refine (get_any _ _ _ _ _ R2.A hwr.1 hwr.2).mono ?_
        rintro e wy ⟨rfl, hby⟩
        have R3 := R2.below hby
        have N3 := N2.below hby
        clear n0 n1 n2 n3 n4 R2
        have n0 := N3.at 0 rfl
        have n1 := N3.at 1 rfl
        have n2 := N3.at 2 rfl
        have n3 := N3.at 3 rfl
        have n4 := N3.at 4 rfl
        go_wp2_with fail
        refine (word_any _ _ _ _ _ _ _ T _ (told_words R3 (by omega)) (by omega)).mono ?_
        rintro e wz ⟨rfl, hbz⟩
        have R4 := R3.below hbz
        clear R3 n0 n1 n2 n3 n4
        by_cases hz : atE L (wordI ago raw T) = 0
        · obtain ⟨j, hj, hjl⟩ := at_place hz
          have hG := getX_yes hz
          rw [hj, Int.toNat_natCast] at hG
          have hd := fun W (h : Row3 W aw L) => datn_yes aw cw n L (wordI ago raw T) W h hLl hwr.1 hwr.2 hlL j hj hz
          have hjn : (j : Int) < (n : Int) := by omega
          rw [hz, hG]
          go_wp2_with fail
          refine (hd _ R4.p).mono ?_
          rintro e wv ⟨rfl, hbv⟩
          have R5 := R4.below hbv
          obtain ⟨b', off', rfl, hbl', r0, r1, r2⟩ := row3_cell R5.p j hjl
          clear hd hz hG
          go_wp2_with fail
          refine (like_n _ _ _ _ _ _ _ R5.A R5.p R5.l).mono ?_
          rintro e wu ⟨rfl, hbu⟩
          go_wp2_with fail
          go_roundw
          case rel => exact ⟨k + 1, by omega, by go_num, _, _, _, _, _, _, rfl, rfl, by omega, R5.below hbu⟩
          case measure => simp [intOf]; omega
        · have hq : (atE L (wordI ago raw T) == 0) = false := not_eq hz
          have hq2 : (atE L (wordI ago raw T) != 0) = true := bne_zero hz
          have hd := fun W (h : Row3 W aw L) => datn_no aw cw n L (wordI ago raw T) W h hLl hwr.1 hwr.2 hlL hz
          rw [getX_no hz]
          clear hz
          go_wp2_with fail
          refine (hd _ R4.p).mono ?_
          rintro e wv ⟨rfl, hbv⟩
          have R5 := R4.below hbv
          clear hd
          go_wp2_with fail
          refine (like_n _ _ _ _ _ _ _ R5.A R5.p R5.l).mono ?_
          rintro e wu ⟨rfl, hbu⟩
          go_wp2_with fail
          go_roundw
          case rel => exact ⟨k + 1, by omega, by go_num, _, _, _, _, _, _, rfl, rfl, by omega, R5.below hbu⟩
          case measure => simp [intOf]; omega
    · obtain rfl : k = m := by omega
      go_wp2_with fail
      refine (lives_any _).mono ?_
      rintro e w3 ⟨rfl, hb3⟩
      go_wp2_with fail
      go_ret
      exact ⟨rfl, below_push2 R.b hb3 (Nat.le_refl _)⟩
set_option maxRecDepth 100000 in
set_option maxHeartbeats 1600000 in
theorem walk_no (n gen : Int) (a : Option Addr) (c m : Nat) (w : World) (hm : m ≤ 80) (hn : ¬ (40 < n ∧ n ≤ 8192)) (h : n < 1 ∨ 8192 < n ∨ 4294967295 < gen) :
    Calls Try.prog 6 #[.int .i64 n, .int .u64 gen, .slice a m c] w fun e w' => e = .returned (.bool true) ∧ Below w.heap.size w w' := by
  have q1 : decide (80 < (m : Int)) = false := by simp; omega
  have hnew := new_no n gen w h
  obtain ⟨b1, h1⟩ : ∃ b, decide (n < 1) = b := ⟨_, rfl⟩
  obtain ⟨b2, h2⟩ : ∃ b, decide (8192 < n) = b := ⟨_, rfl⟩
  obtain ⟨b3, h3⟩ : ∃ b, decide (4294967295 < gen) = b := ⟨_, rfl⟩
  have hx : b1 = true ∨ b2 = true ∨ b3 = true := by
    rcases h with h | h | h
    · left; rw [← h1]; simpa using h
    · right; left; rw [← h2]; simpa using h
    · right; right; rw [← h3]; simpa using h
  have hlo : (40 < n) = true → decide (n ≤ 8192) = false := fun e => by simp at e ⊢; omega
  obtain ⟨b4, h4⟩ : ∃ b, decide (40 < n) = b := ⟨_, rfl⟩
  have h5 : b4 = true → decide (n ≤ 8192) = false := fun e => by rw [e] at h4; simp at h4 ⊢; omega
  clear h hn hlo
  cases b4 <;> cases b1 <;> cases b2 <;> cases b3 <;> first | (exfalso; simp at hx; done) | skip
  all_goals
    have h6 := h5
    simp only [forall_const, reduceCtorEq, false_implies] at h6
    clear hx h5
    go_enter Try.func6, Try.ntmps6
    go_wp2_with fail
    refine hnew.mono ?_
    rintro e w1 ⟨rfl, rfl⟩
    go_wp2_with fail
    refine (claim_nil _ _).mono ?_
    rintro e w1 ⟨rfl, rfl⟩
    go_wp2_with fail
    refine (get_nil _ _).mono ?_
    rintro e w1 ⟨rfl, rfl⟩
    go_wp2_with fail
    refine (free_nil _ _).mono ?_
    rintro e w1 ⟨rfl, rfl⟩
    go_wp2_with fail
    refine (alen_nil _).mono ?_
    rintro e w1 ⟨rfl, rfl⟩
    go_wp2_with fail
    refine (aused_nil _).mono ?_
    rintro e w1 ⟨rfl, rfl⟩
    go_wp2_with fail
    refine (adrawn_nil _).mono ?_
    rintro e w1 ⟨rfl, rfl⟩
    go_wp2_with fail
    refine (lives_any _).mono ?_
    rintro e w2 ⟨rfl, hb2⟩
    go_wp2_with fail
    go_ret
    exact ⟨rfl, hb2⟩
end Go.Proofs.Ytpkiihangfgmlaa.arenaPlays
