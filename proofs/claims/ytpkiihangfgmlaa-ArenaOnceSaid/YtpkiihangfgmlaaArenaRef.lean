/-
  bowerref09: contracts of the document's functions.
-/
import Derived.Test.YtpkiihangfgmlaaArenaDo
import Derived.Test.YtpkiihangfgmlaaRefState
namespace Go.Proofs.Ytpkiihangfgmlaa.ArP
open Go.RowKit RefP CellP
set_option linter.unusedVariables false
set_option linter.unusedSimpArgs false

theorem infoRB : (Try.prog.info? 90).map (fun i => (i.zero, i.size, i.bytes)) = some (some (.agg #[.int .i64 0, .int .u64 0, .int .i64 0]), 3, 24) := by kernel_rfl
/-- new rows -/
def RowsAt (w : World) (l : List B3) (e : Ending) (w' : World) : Prop := ∃ a c, e = .returned (.slice a l.length c) ∧ Row3 w' a l ∧ Below w.heap.size w w' ∧ ∀ b off, a = some ⟨b, off, none⟩ → w.heap.size ≤ b
abbrev Own3 (w : World) (base : Nat) (a : Option Addr) (c : Nat) (l : List B3) : Prop := OwnR 3 b3F z3 w base 90 a c l
/-- rows appended to rows that are owned -/
theorem add3 {w : World} (base : Nat) {a : Option Addr} {c : Nat} {l : List B3} (h : Own3 w base a c l) {b : Option Addr} (c' : Nat) {xs : List B3} (hx : Row3 w b xs) (h0 : 0 < xs.length) (hn : l.length + xs.length ≤ 60000) (hbase : base ≤ w.heap.size) :
    ∃ g cap w', AddedR Try.prog 3 b3F z3 w base 77 90 a c l (.slice b xs.length c') xs.length (l ++ xs) g cap w' := by
  obtain ⟨i0, hi, hz0, hz1, hz2⟩ := info_parts infoRB
  exact addRecs base _ _ i0 _ 24 Try.underlying77 hi hz0 hz1 hz2 (by simp [Value.cells]) (by omega) b3F_one h hx h0 (by unfold maxLen; omega) (by omega) hbase
theorem lit3 {w : World} {b : Nat} {T : TypeId} (p : B3) (B : Blk w b #[.int .i64 p.1, .int .u64 p.2.1, .int .i64 p.2.2] T) : Row3 w (some ⟨b, 0, none⟩) [p] :=
  rec_lit B p (fun j hj => by rcases j with _ | _ | _ | j <;> first | rfl | omega)

set_option maxHeartbeats 800000 in
theorem drest_any (gen : Int) (w : World) : Calls Try.prog 54 #[.int .u64 gen] w fun e w' => e = .returned (agg3 (rest3 gen)) ∧ Below w.heap.size w w' := by
  by_cases h : gen = 4294967295
  · subst h
    go_enter Try.func54, Try.ntmps54
    go_wp2_with fail
    refine bodyPost_ret (v := .agg #[.int .i64 2, .int .u64 4294967295, .int .i64 0]) (by simp (maxDischargeDepth := 8) [results, Try.results54, go_sem]) rfl ⟨rfl, by (repeat (first | exact Below.refl _ _ | assumption | refine below_alloc2 ?_ (by first | exact Nat.le_refl _ | omega) _ | refine Below.drew ?_ | refine below_drewN ?_ _ | refine below_push2 ?_ ‹_› (by first | exact Nat.le_refl _ | omega) | refine Below.setCell ?_ (by first | (simp; done) | (simp; omega) | omega) _))⟩
  · have q : (gen == 4294967295) = false := not_eq h
    have e : Hid (agg3 (rest3 gen) = .agg #[.int .i64 0, .int .u64 gen, .int .i64 0]) := by simp [Hid, rest3, restI_no h]
    clear h
    go_enter Try.func54, Try.ntmps54
    go_wp2_with fail
    refine bodyPost_ret (v := .agg #[.int .i64 0, .int .u64 gen, .int .i64 0]) (by simp (maxDischargeDepth := 8) [results, Try.results54, go_sem]) rfl ⟨by rw [e.out], by (repeat (first | exact Below.refl _ _ | assumption | refine below_alloc2 ?_ (by first | exact Nat.le_refl _ | omega) _ | refine Below.drew ?_ | refine below_drewN ?_ _ | refine below_push2 ?_ ‹_› (by first | exact Nat.le_refl _ | omega) | refine Below.setCell ?_ (by first | (simp; done) | (simp; omega) | omega) _))⟩
set_option maxRecDepth 100000 in
set_option maxHeartbeats 1600000 in
theorem dnew_any (n : Nat) (gen : Int) (w : World) (h1 : n ≤ 8192) : Calls Try.prog 31 #[.int .i64 n, .int .u64 gen] w (RowsAt w (List.replicate n (rest3 gen))) := by
  go_enter Try.func31, Try.ntmps31
  go_wp2_with fail
  go_loopw [5, 6] (fun u5 i wr => ∃ k : Nat, k ≤ n ∧ i = .int .i64 k ∧ ∃ a c, u5 = .slice a k c ∧ Own3 wr w.heap.size a c (List.replicate k (rest3 gen)) ∧ Below w.heap.size w wr) (fun _ i _ => n - (intOf i).toNat)
  case atStart => exact ⟨0, Nat.zero_le _, rfl, none, 0, rfl, OwnR.nil _ _ _ _ _ _, Below.refl _ _⟩
  case round =>
    obtain ⟨k, hk, rfl, a, c, rfl, O, hb⟩ := hrel
    by_cases hlt : k < n
    · have hlt' : (k : Int) < (n : Int) := by omega
      go_wp2_with fail
      refine (drest_any _ _).mono ?_
      rintro e w1 ⟨rfl, hb1⟩
      have hb2 := below_push2 hb hb1 (Nat.le_refl _)
      have hs := hb2.size
      obtain ⟨g, cap, w', A⟩ := add3 (w := w1.alloc (.cells #[.int .i64 (restI gen), .int .u64 gen, .int .i64 0] 90)) w.heap.size ((O.below hb1).below ((Below.refl _ _).alloc (Nat.le_refl _) _)) 1 (lit3 (rest3 gen) (Blk.new w1 _ _)) (by simp) (by simp; omega) (by simp; omega)
      have hrun := A.run
      simp only [List.length_replicate, List.length_singleton] at hrun
      have hrun := Lib.hid hrun
      have hkeep := A.keeps (fun q e => ((O.below hb1).lt q e).1) w w.heap.size (Nat.le_refl _) (hb2.alloc hs _) (by simp; omega)
      have hown := A.own
      rw [← List.replicate_succ'] at hown
      clear A hs
      go_wp2_with (at_builtin; refine wpList_append_run hrun.out rfl (by rfl) (by rfl) (by rfl) ?_)
      go_roundw
      case rel => exact ⟨k + 1, by omega, by go_num, _, _, rfl, hown, hkeep⟩
      case measure => simp [intOf]; omega
    · obtain rfl : k = n := by omega
      go_wp2_with fail
      go_ret
      have hr := O.read
      refine ⟨a, c, by simp, hr, hb, fun b off e => ?_⟩
      subst e
      exact O.own.blk b off rfl
theorem sliceLen (a : Option Addr) (n m c : Nat) (h : n = m) : Value.slice a n c = .slice a m c := by rw [h]
theorem recF3_set (l : List B3) (k j : Nat) (p : B3) (hk : k < l.length) : (if j = k * 3 + 2 then .int .i64 p.2.2 else if j = k * 3 + 1 then .int .u64 p.2.1 else if j = k * 3 then .int .i64 p.1 else recF 3 b3F z3 l j) = recF 3 b3F z3 (l.set k p) j := by
  have hs := at3_set l k (j / 3) p hk
  show _ = b3F (at3 (l.set k p) (j / 3)) (j % 3)
  rw [hs]
  show (if j = k * 3 + 2 then _ else if j = k * 3 + 1 then _ else if j = k * 3 then _ else b3F (at3 l (j / 3)) (j % 3)) = _
  by_cases e2 : j = k * 3 + 2
  · have a1 : j / 3 = k := by omega
    have a2 : j % 3 = 2 := by omega
    rw [if_pos e2, if_pos a1, a2]; rfl
  · by_cases e1 : j = k * 3 + 1
    · have a1 : j / 3 = k := by omega
      have a2 : j % 3 = 1 := by omega
      rw [if_neg e2, if_pos e1, if_pos a1, a2]; rfl
    · by_cases e0 : j = k * 3
      · have a1 : j / 3 = k := by omega
        have a2 : j % 3 = 0 := by omega
        rw [if_neg e2, if_neg e1, if_pos e0, if_pos a1, a2]; rfl
      · have a1 : ¬ j / 3 = k := by omega
        rw [if_neg e2, if_neg e1, if_neg e0, if_neg a1]
set_option maxRecDepth 100000 in
set_option maxHeartbeats 1600000 in
theorem set_any (a : Option Addr) (c : Nat) (l : List B3) (k : Nat) (p : B3) (w : World) (h : Row3 w a l) (hk : k < l.length) (hl : l.length ≤ 8192) :
    Calls Try.prog 55 #[.slice a l.length c, .int .i64 k, agg3 p] w (RowsAt w (l.set k p)) := by
  have hB1 : Below w.heap.size w (w.alloc (.cells #[.int .i64 p.1, .int .u64 p.2.1, .int .i64 p.2.2] 90)) := by (repeat (first | exact Below.refl _ _ | assumption | refine below_alloc2 ?_ (by first | exact Nat.le_refl _ | omega) _ | refine Below.drew ?_ | refine below_drewN ?_ _ | refine below_push2 ?_ ‹_› (by first | exact Nat.le_refl _ | omega) | refine Below.setCell ?_ (by first | (simp; done) | (simp; omega) | omega) _))
  have BX := Blk.new w #[.int .i64 p.1, .int .u64 p.2.1, .int .i64 p.2.2] 90
  have hE := OwnR.empty 3 b3F z3 (w.alloc (.cells #[.int .i64 p.1, .int .u64 p.2.1, .int .i64 p.2.2] 90)) w.heap.size 90 hB1.size
  have hB2 : Below w.heap.size w ((w.alloc (.cells #[.int .i64 p.1, .int .u64 p.2.1, .int .i64 p.2.2] 90)).alloc (.cells #[] 90)) := by (repeat (first | exact Below.refl _ _ | assumption | refine below_alloc2 ?_ (by first | exact Nat.le_refl _ | omega) _ | refine Below.drew ?_ | refine below_drewN ?_ _ | refine below_push2 ?_ ‹_› (by first | exact Nat.le_refl _ | omega) | refine Below.setCell ?_ (by first | (simp; done) | (simp; omega) | omega) _))
  obtain ⟨g, cap, w1, A⟩ := add3 w.heap.size hE c (RecS.below h hB2) (by omega) (by simp; omega) hB2.size
  have hrun := A.run
  have hown := A.own
  simp only [List.length_nil, Nat.zero_add, World.size_alloc] at hrun
  rw [List.nil_append] at hown
  have hrun := Lib.hid hrun
  have hkeep := A.keeps (fun q e => (hE.lt q e).1) w w.heap.size (Nat.le_refl _) hB2 hB2.size
  have hg := A.ge
  have BX1 : Blk w1 w.heap.size #[.int .i64 p.1, .int .u64 p.2.1, .int .i64 p.2.2] 90 := (BX.alloc _).grown A.grown (by simp [Value.ownBlock])
  have hne : ¬ g = w.heap.size := by
    intro e
    rcases A.at' with q | q
    · simp [Value.ownBlock] at q; omega
    · simp at q; omega
  have x0 := BX1.at 0 rfl
  have x1 := BX1.at 1 rfl
  have x2 := BX1.at 2 rfl
  obtain ⟨b', off', e', _, r0, r1, r2⟩ := row3_cell hown.read k hk
  simp only [Option.some.injEq, Addr.mk.injEq, and_true] at e'
  obtain ⟨rfl, rfl⟩ := e'
  simp only [Nat.zero_add] at r0 r1 r2
  have f0 := hown.own.frozenAt (k * 3)
  have f1 := hown.own.frozenAt (k * 3 + 1)
  have f2 := hown.own.frozenAt (k * 3 + 2)
  have hkl : (k : Int) < (l.length : Int) := by omega
  have hrow := hown.read.row
  clear A hE BX BX1 hB1 hB2
  go_enter Try.func55, Try.ntmps55
  go_wp2_with (at_builtin; refine wpList_append_run hrun.out rfl (by rfl) (by rfl) (by rfl) ?_)
  go_ret
  refine ⟨some ⟨g, 0, none⟩, cap, by rw [List.length_set]; rfl, ⟨?_⟩, ((hkeep.setCell hg _).setCell hg _).setCell hg _, fun b off e => ?_⟩
  · have S := Holds.set (Holds.set (Holds.set hrow (k * 3) (by omega) (.int .i64 p.1)) (k * 3 + 1) (by omega) (.int .u64 p.2.1)) (k * 3 + 2) (by omega) (.int .i64 p.2.2)
    simp only [Nat.zero_add] at S
    rw [List.length_set]
    exact S.congr fun j _ => recF3_set l k j p hk
  · simp only [Option.some.injEq, Addr.mk.injEq, and_true] at e
    omega
set_option maxHeartbeats 1600000 in
theorem many_any (a : Option Addr) (c : Nat) (l : List B3) (s : Int) (w : World) (h : Row3 w a l) (hl : l.length ≤ 8192) : Calls Try.prog 56 #[.slice a l.length c, .int .i64 s] w fun e w' => e = .returned (.int .i64 (many3 l s)) ∧ w = w' := by
  go_enter Try.func56, Try.ntmps56
  go_wp2_with fail
  go_loopw [5, 6] (fun u5 i wr => ∃ k : Nat, k ≤ l.length ∧ i = .int .i64 k ∧ u5 = .int .i64 (many3 (l.take k) s) ∧ wr = w) (fun _ i _ => l.length - (intOf i).toNat)
  case atStart => exact ⟨0, Nat.zero_le _, rfl, by simp [many3], rfl⟩
  case round =>
    obtain ⟨k, hk, rfl, rfl, rfl⟩ := hrel
    by_cases hlt : k < l.length
    · have hlt' : (k : Int) < (l.length : Int) := by omega
      obtain ⟨b, off, rfl, hbl, c0, c1, c2⟩ := row3_cell h k hlt
      have hm := many3_succ l s k hlt
      have hml := many3_le (l.take k) s
      have hll : (l.take k).length ≤ 8192 := by simp; omega
      by_cases hs : (at3 l k).1 = s
      · rw [if_pos hs] at hm
        have hq : ((at3 l k).1 == s) = true := by simpa using hs
        have hE : Hid (((many3 (l.take (k + 1)) s : Nat) : Int) = many3 (l.take k) s + 1) := by show _ = _; omega
        have hfit : ((many3 (l.take k) s : Nat) : Int) + 1 ≤ 9223372036854775807 := by omega
        clear hs hm
        go_wp2_with fail
        go_roundw
        case rel => exact ⟨k + 1, by omega, by go_num, by rw [hE.out], trivial⟩
        case measure => simp [intOf]; omega
      · rw [if_neg hs] at hm
        have hq : ((at3 l k).1 == s) = false := by simpa using hs
        have hE : Hid (many3 (l.take (k + 1)) s = many3 (l.take k) s) := by show _ = _; omega
        clear hs hm
        go_wp2_with fail
        go_roundw
        case rel => exact ⟨k + 1, by omega, by go_num, by rw [hE.out], trivial⟩
        case measure => simp [intOf]; omega
    · obtain rfl : k = l.length := by omega
      rw [List.take_length]
      go_wp2_with fail
      go_ret
      exact ⟨rfl, rfl⟩
/-- what a call that makes rows anew, or hands back those that came, tells -/
def SameOr (w : World) (a : Option Addr) (c : Nat) (l l' : List B3) (a' : Option Addr) (c' : Nat) (w' : World) : Prop :=
  Row3 w' a' l' ∧ Below w.heap.size w w' ∧ ((a' = a ∧ c' = c ∧ l' = l) ∨ ∀ b off, a' = some ⟨b, off, none⟩ → w.heap.size ≤ b)
def ClaimedAt (w : World) (a : Option Addr) (c : Nat) (l : List B3) (i : Int) (e : Ending) (w' : World) : Prop :=
  ∃ a' c', e = .returned (.tuple #[.slice a' l.length c', .int .u64 (claimW l i), .int .i64 (claimE l i)]) ∧ SameOr w a c l (claimL l i) a' c' w'
theorem ret_swi {v : Value} {a b c d : Int} (h1 : a = b) (h2 : c = d) : Ending.returned (.tuple #[v, .int .u64 a, .int .i64 c]) = .returned (.tuple #[v, .int .u64 b, .int .i64 d]) := by rw [h1, h2]
set_option maxRecDepth 100000 in
set_option maxHeartbeats 1600000 in
theorem dclaim_any (a : Option Addr) (c : Nat) (l : List B3) (i : Int) (w : World) (h : Row3 w a l) (hl : l.length ≤ 8192) (hr : Rng3 l) (i0 : -9223372036854775808 ≤ i) (i1 : i ≤ 9223372036854775807) :
    Calls Try.prog 32 #[.slice a l.length c, .int .i64 i] w (ClaimedAt w a c l i) := by
  cases hi : inB l.length i
  · have he := claimE_out hi
    have hL := claimL_no (l := l) (i := i) (by rw [he]; decide)
    have hR := fun v => Lib.hid (ret_swi (v := v) (claimW_no (l := l) (i := i) (by rw [he]; decide)) he)
    have hn := inB_no hi
    have hS : SameOr w a c l (claimL l i) a c w := by rw [hL]; exact ⟨h, Below.refl _ _, .inl ⟨rfl, rfl, rfl⟩⟩
    clear he hL
    by_cases h0 : i < 0
    · have q : decide (i < 0) = true := by simpa using h0
      clear hn h0
      go_enter Try.func32, Try.ntmps32
      go_wp2_with fail
      go_ret3
      exact ⟨a, c, (hR _).out.symm, hS⟩
    · have q : decide (i < 0) = false := by simpa using h0
      have q2 : decide ((l.length : Int) ≤ i) = true := by simp; omega
      clear hn h0
      go_enter Try.func32, Try.ntmps32
      go_wp2_with fail
      go_ret3
      exact ⟨a, c, (hR _).out.symm, hS⟩
  · have he := claimE_in hi
    obtain ⟨h0, h1⟩ := inB_yes hi
    obtain ⟨k, rfl⟩ := Int.eq_ofNat_of_zero_le h0
    have hk : k < l.length := by omega
    rw [Int.toNat_natCast] at he
    have q2 : decide ((l.length : Int) ≤ (k : Int)) = false := by simp; omega
    have hk' : (k : Int) < (l.length : Int) := by omega
    obtain ⟨b, off, rfl, hbl, r0, r1, r2⟩ := row3_cell h k hk
    clear hi h0
    by_cases s1 : (at3 l k).1 = 1
    · rw [if_pos s1] at he
      have hL := claimL_no (l := l) (i := k) (by rw [he]; decide)
      have hR := fun v => Lib.hid (ret_swi (v := v) (claimW_no (l := l) (i := k) (by rw [he]; decide)) he)
      have hS : SameOr w (some ⟨b, off, none⟩) c l (claimL l k) (some ⟨b, off, none⟩) c w := by rw [hL]; exact ⟨h, Below.refl _ _, .inl ⟨rfl, rfl, rfl⟩⟩
      have t1 : ((at3 l k).1 == 1) = true := by simpa using s1
      clear he hL s1
      go_enter Try.func32, Try.ntmps32
      go_wp2_with fail
      go_ret3
      exact ⟨_, c, (hR _).out.symm, hS⟩
    · rw [if_neg s1] at he
      have t1 : ((at3 l k).1 == 1) = false := by simpa using s1
      by_cases s2 : (at3 l k).1 = 2
      · rw [if_pos s2] at he
        have hL := claimL_no (l := l) (i := k) (by rw [he]; decide)
        have hR := fun v => Lib.hid (ret_swi (v := v) (claimW_no (l := l) (i := k) (by rw [he]; decide)) he)
        have hS : SameOr w (some ⟨b, off, none⟩) c l (claimL l k) (some ⟨b, off, none⟩) c w := by rw [hL]; exact ⟨h, Below.refl _ _, .inl ⟨rfl, rfl, rfl⟩⟩
        have t2 : ((at3 l k).1 == 2) = true := by simpa using s2
        clear he hL s1 s2
        go_enter Try.func32, Try.ntmps32
        go_wp2_with fail
        go_ret3
        exact ⟨_, c, (hR _).out.symm, hS⟩
      · rw [if_neg s2] at he
        have hR := fun v => Lib.hid (ret_swi (v := v) (claimW_yes he) he)
        have hL := claimL_yes he
        rw [Int.toNat_natCast] at hR hL
        have t2 : ((at3 l k).1 == 2) = false := by simpa using s2
        have hwr : IntKind.u64.wrap ((at3 l k).2.1 + 1) = nextV (at3 l k).2.1 := IntKind.wrap_u64 _
        have hnv := nextV_rng (at3 l k).2.1
        clear he s1 s2
        go_enter Try.func32, Try.ntmps32
        go_wp2_with fail
        refine (set_any _ c l k (1, nextV (at3 l k).2.1, 0) _ h hk hl).mono ?_
        rintro e w1 ⟨a1, c1, rfl, hR1, hb1, hf1⟩
        go_wp2_with fail
        refine (dpack_any _ _ _ (by omega) (by omega) hnv.1 hnv.2).mono ?_
        rintro e w2 ⟨rfl, rfl⟩
        go_wp2_with fail
        go_ret3
        refine ⟨a1, c1, ?_, by rw [hL]; exact ⟨hR1, hb1, .inr hf1⟩⟩
        exact (hR _).out.symm
def atP (l : List B3) (x : Int) : Int := if atE l x = 0 then openP x else 0
set_option maxHeartbeats 1600000 in
theorem dat_any (a : Option Addr) (c : Nat) (l : List B3) (x : Int) (w : World) (h : Row3 w a l) (hl : l.length ≤ 8192) (x0 : 0 ≤ x) (x1 : x ≤ 18446744073709551615) :
    Calls Try.prog 36 #[.slice a l.length c, .int .u64 x] w fun e w' => e = .returned (.tuple #[.int .i64 (atP l x), .int .i64 (atE l x)]) ∧ Below w.heap.size w w' := by
  cases hi : namesB l x
  · have hE := atE_out hi
    have hR : Hid (Ending.returned (.tuple #[.int .i64 (atP l x), .int .i64 (atE l x)]) = .returned (.tuple #[.int .i64 0, .int .i64 20])) := by rw [atP, hE]; exact rfl
    cases ho : opensB x
    · clear hi hE
      go_enter Try.func36, Try.ntmps36
      go_wp2_with fail
      refine (dopen_any _ _ x0 x1).mono ?_
      rw [ho]
      rintro e w1 ⟨rfl, rfl⟩
      go_wp2_with fail
      go_ret2
      exact ⟨hR.out.symm, Below.refl _ _⟩
    · have hlt : ¬ openP x < (l.length : Int) := by
        intro q; simp [namesB, ho, q] at hi
      have q2 : decide ((l.length : Int) ≤ openP x) = true := by simp; omega
      clear hi hE hlt
      go_enter Try.func36, Try.ntmps36
      go_wp2_with fail
      refine (dopen_any _ _ x0 x1).mono ?_
      rw [ho]
      rintro e w1 ⟨rfl, rfl⟩
      go_wp2_with fail
      go_ret2
      exact ⟨hR.out.symm, Below.refl _ _⟩
  · have hE := atE_in hi
    obtain ⟨ho, hx0, hx1⟩ := namesB_yes hi
    obtain ⟨k, hk⟩ := Int.eq_ofNat_of_zero_le hx0
    rw [hk, Int.toNat_natCast] at hE
    rw [hk] at hx1
    have hkl : k < l.length := by omega
    have q2 : decide ((l.length : Int) ≤ (k : Int)) = false := by simp; omega
    by_cases hg : (at3 l k).2.1 = openG x
    · rw [if_neg (by simpa using hg)] at hE
      have hq : ((at3 l k).2.1 != openG x) = false := by simpa using hg
      by_cases hs : (at3 l k).1 = 1
      · rw [if_neg (by simpa using hs)] at hE
        have hR : Hid (Ending.returned (.tuple #[.int .i64 (atP l x), .int .i64 (atE l x)]) = .returned (.tuple #[.int .i64 k, .int .i64 0])) := by rw [atP, hE, hk]; exact rfl
        have hs' : ((at3 l k).1 != 1) = false := by simpa using hs
        clear hi hx0 hE hg hs
        go_enter Try.func36, Try.ntmps36
        go_wp2_with fail
        refine (dopen_any _ _ x0 x1).mono ?_
        rw [ho, hk]
        rintro e w1 ⟨rfl, rfl⟩
        obtain ⟨b, off, rfl, hbl, r0, r1, r2⟩ := row3_cell h k hkl
        go_wp2_with fail
        go_ret2
        exact ⟨hR.out.symm, Below.refl _ _⟩
      · rw [if_pos hs] at hE
        have hR : Hid (Ending.returned (.tuple #[.int .i64 (atP l x), .int .i64 (atE l x)]) = .returned (.tuple #[.int .i64 0, .int .i64 24])) := by rw [atP, hE]; exact rfl
        have hs' : ((at3 l k).1 != 1) = true := by simpa using hs
        clear hi hx0 hE hg hs
        go_enter Try.func36, Try.ntmps36
        go_wp2_with fail
        refine (dopen_any _ _ x0 x1).mono ?_
        rw [ho, hk]
        rintro e w1 ⟨rfl, rfl⟩
        obtain ⟨b, off, rfl, hbl, r0, r1, r2⟩ := row3_cell h k hkl
        go_wp2_with fail
        go_ret2
        exact ⟨hR.out.symm, Below.refl _ _⟩
    · rw [if_pos (by simpa using hg)] at hE
      have hR : Hid (Ending.returned (.tuple #[.int .i64 (atP l x), .int .i64 (atE l x)]) = .returned (.tuple #[.int .i64 0, .int .i64 23])) := by rw [atP, hE]; exact rfl
      have hq : ((at3 l k).2.1 != openG x) = true := by simpa using hg
      clear hi hx0 hE hg
      go_enter Try.func36, Try.ntmps36
      go_wp2_with fail
      refine (dopen_any _ _ x0 x1).mono ?_
      rw [ho, hk]
      rintro e w1 ⟨rfl, rfl⟩
      obtain ⟨b, off, rfl, hbl, r0, r1, r2⟩ := row3_cell h k hkl
      go_wp2_with fail
      go_ret2
      exact ⟨hR.out.symm, Below.refl _ _⟩
def ToldAt (w : World) (a : Option Addr) (c : Nat) (l l' : List B3) (x : Int) (e : Ending) (w' : World) : Prop :=
  ∃ a' c', e = .returned (.tuple #[.slice a' l.length c', .int .i64 (atE l x)]) ∧ SameOr w a c l l' a' c' w'
theorem dat_yes (a : Option Addr) (c : Nat) (l : List B3) (x : Int) (w : World) (h : Row3 w a l) (hl : l.length ≤ 8192) (x0 : 0 ≤ x) (x1 : x ≤ 18446744073709551615) (k : Nat) (hk : openP x = k) (he : atE l x = 0) :
    Calls Try.prog 36 #[.slice a l.length c, .int .u64 x] w fun e w' => e = .returned (.tuple #[.int .i64 k, .int .i64 0]) ∧ Below w.heap.size w w' := by
  refine (dat_any a c l x w h hl x0 x1).mono ?_
  rintro e w' ⟨rfl, hb⟩
  rw [atP, he, if_pos rfl, hk]; exact ⟨rfl, hb⟩
theorem dat_no (a : Option Addr) (c : Nat) (l : List B3) (x : Int) (w : World) (h : Row3 w a l) (hl : l.length ≤ 8192) (x0 : 0 ≤ x) (x1 : x ≤ 18446744073709551615) (he : atE l x ≠ 0) :
    Calls Try.prog 36 #[.slice a l.length c, .int .u64 x] w fun e w' => e = .returned (.tuple #[.int .i64 0, .int .i64 (atE l x)]) ∧ Below w.heap.size w w' := by
  refine (dat_any a c l x w h hl x0 x1).mono ?_
  rintro e w' ⟨rfl, hb⟩
  rw [atP, if_neg he]; exact ⟨rfl, hb⟩
theorem ret_si {v : Value} {c d : Int} (h2 : c = d) : Ending.returned (.tuple #[v, .int .i64 c]) = .returned (.tuple #[v, .int .i64 d]) := by rw [h2]
set_option maxHeartbeats 1600000 in
theorem dfree_any (a : Option Addr) (c : Nat) (l : List B3) (x : Int) (w : World) (h : Row3 w a l) (hl : l.length ≤ 8192) (x0 : 0 ≤ x) (x1 : x ≤ 18446744073709551615) :
    Calls Try.prog 34 #[.slice a l.length c, .int .u64 x] w (ToldAt w a c l (freeL l x) x) := by
  by_cases he : atE l x = 0
  · obtain ⟨k, hk, hkl⟩ := at_place he
    have hR := fun v => Lib.hid (ret_si (v := v) he)
    have hL := Lib.hid (freeL_yes he)
    rw [hk, Int.toNat_natCast] at hL
    have ha := dat_yes a c l x w h hl x0 x1 k hk he
    have hk' : (k : Int) < (l.length : Int) := by omega
    clear he
    go_enter Try.func34, Try.ntmps34
    go_wp2_with fail
    refine ha.mono ?_
    rintro e w1 ⟨rfl, hb1⟩
    obtain ⟨b, off, rfl, hbl, r0, r1, r2⟩ := row3_cell (RecS.below h hb1) k hkl
    go_wp2_with fail
    refine (drest_any _ _).mono ?_
    rintro e w2 ⟨rfl, hb2⟩
    go_wp2_with fail
    refine (set_any _ c l k (rest3 (at3 l k).2.1) _ (RecS.below (RecS.below h hb1) hb2) hkl hl).mono ?_
    rintro e w3 ⟨a3, c3, rfl, hR3, hb3, hf3⟩
    go_wp2_with fail
    go_ret2
    have hB2 := below_push2 hb1 hb2 (Nat.le_refl _)
    have hsz := hB2.size
    refine ⟨a3, c3, (hR _).out.symm, ?_⟩
    rw [hL.out]
    exact ⟨hR3, below_push2 hB2 hb3 (Nat.le_refl _), .inr fun b off e => Nat.le_trans hsz (hf3 b off e)⟩
  · have hq : (atE l x != 0) = true := bne_zero he
    have ha := dat_no a c l x w h hl x0 x1 he
    rw [freeL_no he]
    clear he
    go_enter Try.func34, Try.ntmps34
    go_wp2_with fail
    refine ha.mono ?_
    rintro e w1 ⟨rfl, hb1⟩
    go_wp2_with fail
    go_ret2
    exact ⟨a, c, rfl, RecS.below h hb1, hb1, .inl ⟨rfl, rfl, rfl⟩⟩
set_option maxHeartbeats 1600000 in
theorem dput_any (a : Option Addr) (c : Nat) (l : List B3) (x y : Int) (w : World) (h : Row3 w a l) (hl : l.length ≤ 8192) (x0 : 0 ≤ x) (x1 : x ≤ 18446744073709551615) :
    Calls Try.prog 35 #[.slice a l.length c, .int .u64 x, .int .i64 y] w (ToldAt w a c l (putL l x y) x) := by
  by_cases he : atE l x = 0
  · obtain ⟨k, hk, hkl⟩ := at_place he
    have hR := fun v => Lib.hid (ret_si (v := v) he)
    have hL := Lib.hid (putL_yes (y := y) he)
    rw [hk, Int.toNat_natCast] at hL
    have ha := dat_yes a c l x w h hl x0 x1 k hk he
    have hk' : (k : Int) < (l.length : Int) := by omega
    clear he
    go_enter Try.func35, Try.ntmps35
    go_wp2_with fail
    refine ha.mono ?_
    rintro e w1 ⟨rfl, hb1⟩
    obtain ⟨b, off, rfl, hbl, r0, r1, r2⟩ := row3_cell (RecS.below h hb1) k hkl
    go_wp2_with fail
    refine (set_any _ c l k ((at3 l k).1, (at3 l k).2.1, y) _ (RecS.below (RecS.below h hb1) ((Below.refl _ w1).alloc (Nat.le_refl _) _)) hkl hl).mono ?_
    rintro e w3 ⟨a3, c3, rfl, hR3, hb3, hf3⟩
    go_wp2_with fail
    go_ret2
    refine ⟨a3, c3, (hR _).out.symm, ?_⟩
    rw [hL.out]
    have hB2 := below_alloc2 hb1 (Nat.le_refl _) (.cells #[.int .i64 (at3 l k).1, .int .u64 (at3 l k).2.1, .int .i64 y] 90)
    have hsz := hB2.size
    exact ⟨hR3, below_push2 hB2 hb3 (Nat.le_refl _), .inr fun b off e => Nat.le_trans hsz (hf3 b off e)⟩
  · have hq : (atE l x != 0) = true := bne_zero he
    have ha := dat_no a c l x w h hl x0 x1 he
    rw [putL_no he]
    clear he
    go_enter Try.func35, Try.ntmps35
    go_wp2_with fail
    refine ha.mono ?_
    rintro e w1 ⟨rfl, hb1⟩
    go_wp2_with fail
    go_ret2
    exact ⟨a, c, rfl, RecS.below h hb1, hb1, .inl ⟨rfl, rfl, rfl⟩⟩
end Go.Proofs.Ytpkiihangfgmlaa.ArP
