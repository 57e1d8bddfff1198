/-
  cell.New, Len, has, Load, Cas, Store: contracts.
-/
import Derived.Test.YtfnjggefinkcaaaRows
import Derived.Test.YtfnjggefinkcaaaCellPlain
import Derived.WalkLawsBesides
import Derived.WalkSpells
import Derived.Outline
import Derived.BigQuiet
import Derived.LoopTactic
import Derived.Laws.NewDeep
namespace Go.Proofs.Ytfnjggefinkcaaa.CellP
open Go.RowKit RefP
set_option linter.unusedVariables false
set_option linter.unusedSimpArgs false

theorem run_make_rowN {P : Program} (t e : TypeId) (i : TypeInfo) (z : Value) (ht : P.underlying t = some (.slice e)) (hi : P.info? e = some i) (hz : i.zero = some z)
    (kl kc : IntKind) (n c : Nat) (hnc : n ≤ c) (hbytes : i.bytes * c ≤ 281474976710656) (h63 : c ≤ 9223372036854775807) (w : World) :
    (Instr.makeSlice t (.int kl (n : Int)) (.int kc (c : Int))).run P w = .ok (.slice (some ⟨w.heap.size, 0, none⟩) n c) (w.alloc (.cells (madeCells z.cells (c * i.size)) e)) := by
  have hb : (i.bytes : Int) * (c : Int) ≤ 281474976710656 := by
    have h : ((i.bytes * c : Nat) : Int) ≤ 281474976710656 := by omega
    rwa [Int.natCast_mul] at h
  have hr := run_make (P := P) w t e i z ht hi hz kl kc n c (by omega) (by omega) hb (by omega)
  simp only [Int.toNat_natCast] at hr
  exact hr

/-- the cells of an object o whose rows lie in block g -/
structure CellsAt (w : World) (o g : Nat) (l : List (Int × Int)) : Prop where
  head : Blk w o #[.slice (some ⟨g, 0, none⟩) l.length l.length] 107
  rows : Blk w g (pairsA l) 104
  ne : o ≠ g
  rng : Rng l
  len : l.length ≤ 65536
theorem CellsAt.below {w w' : World} {o g : Nat} {l : List (Int × Int)} (h : CellsAt w o g l) (hb : Below w.heap.size w w') : CellsAt w' o g l := ⟨h.head.below hb, h.rows.below hb, h.ne, h.rng, h.len⟩
/-- cells were made -/
def MadeAt (w : World) (l : List (Int × Int)) (e : Ending) (w' : World) : Prop := ∃ o g, e = .returned (.pointer (some ⟨o, 0, none⟩)) ∧ CellsAt w' o g l ∧ Below w.heap.size w w' ∧ w.heap.size ≤ o ∧ w.heap.size ≤ g
theorem Rng.zeros (n : Nat) : Rng (List.replicate n (0, 0)) := by
  intro c hc
  rw [List.eq_of_mem_replicate hc]; simp
theorem infoRow : (Try.prog.info? 104).map (fun i => (i.zero, i.size, i.bytes)) = some (some (.agg #[.int .u64 0, .int .u64 0]), 2, 16) := by kernel_rfl

set_option maxHeartbeats 800000 in
theorem new_no (n : Int) (w : World) (h : n < 0 ∨ ¬ n < 0 ∧ 65536 < n) : Calls Try.prog 71 #[.int .i64 n] w fun e w' => e = .returned (.pointer none) ∧ w = w' := by
  rcases h with h | ⟨h, k⟩
  all_goals
    go_enter Try.func71, Try.ntmps71
    go_wp2_with fail
    go_ret
    exact ⟨rfl, rfl⟩
set_option maxHeartbeats 800000 in
theorem new_yes (n : Nat) (w : World) (h : n ≤ 65536) : Calls Try.prog 71 #[.int .i64 n] w (MadeAt w (List.replicate n (0, 0))) := by
  obtain ⟨i0, hi, hz0, hz1, hz2⟩ := info_parts infoRow
  have hmk := fun W => run_make_rowN (P := Try.prog) 105 104 i0 _ Try.underlying105 hi hz0 .i64 .i64 n n (Nat.le_refl _) (by rw [hz2]; omega) (by omega) W
  have e0 : (Value.agg #[.int .u64 0, .int .u64 0]).cells = #[.int .u64 0, .int .u64 0] := by simp [Value.cells]
  rw [e0, hz1, pairsA_made n] at hmk
  clear e0 hz0 hz1 hz2 hi
  go_enter Try.func71, Try.ntmps71
  go_wp2_with fail
  go_ret
  refine ⟨w.heap.size + 1, w.heap.size, rfl, ⟨?_, ?_, by omega, Rng.zeros n, by simpa using h⟩, by (repeat (first | exact Below.refl _ _ | assumption | refine below_alloc2 ?_ (by first | exact Nat.le_refl _ | omega) _ | refine Below.drew ?_ | refine below_drewN ?_ _ | refine below_push2 ?_ ‹_› (by first | exact Nat.le_refl _ | omega) | refine Below.setCell ?_ (by first | (simp; done) | (simp; omega) | omega) _)), by omega, by omega⟩
  · have := Blk.new (w.alloc (.cells (pairsA (List.replicate n (0, 0))) 104)) #[.slice (some ⟨w.heap.size, 0, none⟩) n n] 107
    simpa using this
  · exact (Blk.new w _ _).alloc _

set_option maxHeartbeats 800000 in
theorem len_nil (w : World) : Calls Try.prog 36 #[.pointer none] w fun e w' => e = .returned (.int .i64 0) ∧ w = w' := by
  go_enter Try.func36, Try.ntmps36
  go_wp2_with fail
  go_ret
  exact ⟨rfl, rfl⟩
set_option maxHeartbeats 800000 in
theorem len_any (o g : Nat) (l : List (Int × Int)) (w : World) (h : CellsAt w o g l) : Calls Try.prog 36 #[.pointer (some ⟨o, 0, none⟩)] w fun e w' => e = .returned (.int .i64 l.length) ∧ w = w' := by
  have c0 := h.head.at 0 rfl
  go_enter Try.func36, Try.ntmps36
  go_wp2_with fail
  go_ret
  exact ⟨rfl, rfl⟩
set_option maxHeartbeats 800000 in
theorem has_nil (i : Int) (w : World) : Calls Try.prog 59 #[.pointer none, .int .i64 i] w fun e w' => e = .returned (.bool false) ∧ w = w' := by
  by_cases c : 0 ≤ i
  · go_enter Try.func59, Try.ntmps59
    go_wp2_with fail
    refine (len_nil _).mono ?_
    rintro e w1 ⟨rfl, rfl⟩
    go_wp2_with fail
    go_ret
    exact ⟨by simp; omega, rfl⟩
  · go_enter Try.func59, Try.ntmps59
    go_wp2_with fail
    go_ret
    exact ⟨rfl, rfl⟩
set_option maxHeartbeats 800000 in
theorem has_any (o g : Nat) (l : List (Int × Int)) (i : Int) (w : World) (h : CellsAt w o g l) : Calls Try.prog 59 #[.pointer (some ⟨o, 0, none⟩), .int .i64 i] w fun e w' => e = .returned (.bool (inB l.length i)) ∧ w = w' := by
  by_cases c : 0 ≤ i
  · have e : Hid (inB l.length i = decide (i < l.length)) := by simp [Hid, inB, c]
    go_enter Try.func59, Try.ntmps59
    go_wp2_with fail
    refine (len_any _ _ _ _ h).mono ?_
    rintro e w1 ⟨rfl, rfl⟩
    go_wp2_with fail
    go_ret
    exact ⟨ret_b e.out.symm, rfl⟩
  · have e : Hid (inB l.length i = false) := by simp [Hid, inB, c]
    go_enter Try.func59, Try.ntmps59
    go_wp2_with fail
    go_ret
    exact ⟨ret_b e.out.symm, rfl⟩

theorem ret_uub {a b c d : Int} {x y : Bool} (h1 : a = b) (h2 : c = d) (h3 : x = y) : Ending.returned (.tuple #[.int .u64 a, .int .u64 c, .bool x]) = .returned (.tuple #[.int .u64 b, .int .u64 d, .bool y]) := by rw [h1, h2, h3]
set_option maxHeartbeats 800000 in
theorem load_nil (i : Int) (w : World) : Calls Try.prog 35 #[.pointer none, .int .i64 i] w fun e w' => e = .returned (.tuple #[.int .u64 0, .int .u64 0, .bool false]) ∧ w = w' := by
  go_enter Try.func35, Try.ntmps35
  go_wp2_with fail
  refine (has_nil _ _).mono ?_
  rintro e w1 ⟨rfl, rfl⟩
  go_wp2_with fail
  go_ret3
  exact ⟨rfl, rfl⟩
set_option maxHeartbeats 800000 in
theorem load_any (o g : Nat) (l : List (Int × Int)) (i : Int) (w : World) (h : CellsAt w o g l) :
    Calls Try.prog 35 #[.pointer (some ⟨o, 0, none⟩), .int .i64 i] w fun e w' => e = .returned (.tuple #[.int .u64 (loadW l i), .int .u64 (loadV l i), .bool (inB l.length i)]) ∧ Below w.heap.size w w' := by
  cases c : inB l.length i
  · have e := Lib.hid (ret_uub (loadW_no c) (loadV_no c) (Eq.refl false))
    go_enter Try.func35, Try.ntmps35
    go_wp2_with fail
    refine (has_any _ _ _ _ _ h).mono ?_
    rintro e w1 ⟨rfl, rfl⟩
    go_wp2_with fail
    go_ret3
    exact ⟨e.out.symm, Below.refl _ _⟩
  · have e := Lib.hid (ret_uub (loadW_yes c) (loadV_yes c) (Eq.refl true))
    obtain ⟨i0, i1⟩ := inB_yes c
    obtain ⟨k, rfl⟩ := Int.eq_ofNat_of_zero_le i0
    have hk : k < l.length := by omega
    have hl := h.len
    rw [Int.toNat_natCast] at e
    have c0 := h.head.at 0 rfl
    have r0 := h.rows.at _ (pairsA_0 l k hk)
    have r1 := h.rows.at _ (pairsA_1 l k hk)
    go_enter Try.func35, Try.ntmps35
    go_wp2_with fail
    refine (has_any _ _ _ _ _ h).mono ?_
    rintro e w1 ⟨rfl, rfl⟩
    go_wp2_with fail
    go_quiet (fail)
    go_wp2_with fail
    go_ret3
    exact ⟨e.out.symm, below_drewN (Below.refl _ _) _⟩

/-- only the block g was written -/
abbrev Only (w w' : World) (g : Nat) : Prop := w.grownBy w' (some g)
theorem only_refl (w : World) (row : Option Nat) : w.grownBy w row := ⟨rfl, rfl, rfl, Nat.le_refl _, fun _ _ _ => rfl⟩
theorem only_of_below {a w : World} (h : Below a.heap.size a w) (row : Option Nat) : a.grownBy w row := ⟨h.os, h.tape, h.output, h.size, fun i hi _ => h.block i hi⟩
theorem only_set {a w : World} {g : Nat} (h : a.grownBy w (some g)) (i : Nat) (v : Value) : a.grownBy (w.setCell ⟨g, i, none⟩ v) (some g) :=
  ⟨h.os, h.tape, h.output, by simpa using h.size, fun k hk hne => (Below.heap_setCell w _ v k (fun e => hne (by rw [e]))).trans (h.block k hk hne)⟩
theorem only_trans {a b c : World} {row : Option Nat} (h : a.grownBy b row) (k : b.grownBy c row) : a.grownBy c row :=
  ⟨k.os.trans h.os, k.tape.trans h.tape, k.output.trans h.output, Nat.le_trans h.size k.size, fun i hi hne => (k.block i (Nat.lt_of_lt_of_le hi h.size) hne).trans (h.block i hi hne)⟩
theorem CellsAt.write {w w1 : World} {o g : Nat} {l : List (Int × Int)} (h : CellsAt w o g l) (hb : Below w.heap.size w w1) (k : Nat) (hk : k < l.length) (a b : Int) (ha : 0 ≤ a ∧ a ≤ 18446744073709551615) (hv : 0 ≤ b ∧ b ≤ 18446744073709551615) :
    CellsAt ((w1.setCell ⟨g, k * 2, none⟩ (.int .u64 a)).setCell ⟨g, k * 2 + 1, none⟩ (.int .u64 b)) o g (l.set k (a, b)) := by
  have h1 := h.below hb
  refine ⟨?_, ?_, h.ne, h.rng.set _ _ ⟨ha, hv⟩, by simpa using h.len⟩
  · simpa using (h1.head.far ⟨g, k * 2, none⟩ (.int .u64 a) h.ne).far ⟨g, k * 2 + 1, none⟩ (.int .u64 b) h.ne
  · have := (h1.rows.set (k * 2) (.int .u64 a)).set (k * 2 + 1) (.int .u64 b)
    rwa [pairsA_set l k a b hk] at this

set_option maxHeartbeats 800000 in
theorem cas_any (o g : Nat) (l : List (Int × Int)) (i ver word : Int) (w : World) (h : CellsAt w o g l) (v0 : 0 ≤ ver) (v1 : ver ≤ 18446744073709551615) (x0 : 0 ≤ word) (x1 : word ≤ 18446744073709551615) :
    Calls Try.prog 51 #[.pointer (some ⟨o, 0, none⟩), .int .i64 i, .int .u64 ver, .int .u64 word] w fun e w' => e = .returned (.bool (casB l i ver)) ∧ CellsAt w' o g (casL l i ver word) ∧ Only w w' g := by
  cases c : casB l i ver
  · rw [casL_no word c]
    cases ci : inB l.length i
    · go_enter Try.func51, Try.ntmps51
      go_wp2_with fail
      refine (load_any _ _ _ _ _ h).mono ?_
      rintro e w1 ⟨rfl, hb1⟩
      have H1 := h.below hb1
      go_wp2_with fail
      go_ret
      exact ⟨rfl, H1, only_of_below hb1 _⟩
    · have hv : loadV l i ≠ ver := by
        intro e; rw [loadV_yes ci] at e; rw [casB, ci] at c; simp [e] at c
      have hq : (loadV l i != ver) = true := by simpa using hv
      clear hv c
      go_enter Try.func51, Try.ntmps51
      go_wp2_with fail
      refine (load_any _ _ _ _ _ h).mono ?_
      rintro e w1 ⟨rfl, hb1⟩
      have H1 := h.below hb1
      go_wp2_with fail
      go_ret
      exact ⟨rfl, H1, only_of_below hb1 _⟩
  · have hc := c
    simp only [casB, Bool.and_eq_true, decide_eq_true_eq] at hc
    obtain ⟨ci, cv⟩ := hc
    have hq : (loadV l i != ver) = false := by rw [loadV_yes ci]; simp [cv]
    have hE := Lib.hid (casL_yes word c)
    obtain ⟨i0, i1⟩ := inB_yes ci
    obtain ⟨k, rfl⟩ := Int.eq_ofNat_of_zero_le i0
    rw [Int.toNat_natCast] at cv
    have hk : k < l.length := by omega
    have hl := h.len
    have hW : Hid (writeL l k word = l.set k (word, nextV ver)) := by simp [Hid, writeL, cv]
    clear cv c
    go_enter Try.func51, Try.ntmps51
    go_wp2_with fail
    refine (load_any _ _ _ _ _ h).mono ?_
    rintro e w1 ⟨rfl, hb1⟩
    have H1 := h.below hb1
    have c0 := H1.head.at 0 rfl
    have r0 := H1.rows.at _ (pairsA_0 l k hk)
    have r1 := H1.rows.at _ (pairsA_1 l k hk)
    have f0 := H1.rows.free (k * 2)
    have f1 := H1.rows.free (k * 2 + 1)
    go_wp2_with fail
    go_ret
    refine ⟨rfl, ?_, only_set (only_set (only_of_below hb1 _) _ _) _ _⟩
    rw [hE.out, hW.out, show IntKind.u64.wrap (ver + 1) = nextV ver from IntKind.wrap_u64 _]
    exact h.write hb1 k hk _ _ ⟨x0, x1⟩ (nextV_rng _)

set_option maxHeartbeats 800000 in
theorem store_nil (i word : Int) (w : World) : Calls Try.prog 50 #[.pointer none, .int .i64 i, .int .u64 word] w fun e w' => e = .returned (.bool false) ∧ w = w' := by
  go_enter Try.func50, Try.ntmps50
  go_wp2_with fail
  refine (load_nil _ _).mono ?_
  rintro e w1 ⟨rfl, rfl⟩
  go_wp2_with fail
  go_ret
  exact ⟨rfl, rfl⟩
set_option maxHeartbeats 800000 in
theorem store_any (o g : Nat) (l : List (Int × Int)) (i word : Int) (w : World) (h : CellsAt w o g l) (x0 : 0 ≤ word) (x1 : word ≤ 18446744073709551615) :
    Calls Try.prog 50 #[.pointer (some ⟨o, 0, none⟩), .int .i64 i, .int .u64 word] w fun e w' => e = .returned (.bool (inB l.length i)) ∧ CellsAt w' o g (storeL l i word) ∧ Only w w' g := by
  cases c : inB l.length i
  · rw [storeL_no word c]
    go_enter Try.func50, Try.ntmps50
    go_wp2_with fail
    refine (load_any _ _ _ _ _ h).mono ?_
    rintro e w1 ⟨rfl, hb1⟩
    have H1 := h.below hb1
    go_wp2_with fail
    go_ret
    exact ⟨rfl, H1, only_of_below hb1 _⟩
  · have hv := loadV_yes c
    have hcb := casB_load c
    have hE := Lib.hid ((casL_yes word hcb).trans (storeL_yes word c).symm)
    rw [← hv] at hcb hE
    have hr := load_rng h.rng i
    clear hv
    go_enter Try.func50, Try.ntmps50
    go_wp2_with fail
    refine (load_any _ _ _ _ _ h).mono ?_
    rintro e w1 ⟨rfl, hb1⟩
    have H1 := h.below hb1
    go_wp2_with fail
    refine (cas_any _ _ _ _ _ _ _ H1 (by omega) (by omega) x0 x1).mono ?_
    rintro e w2 ⟨rfl, H2, hg2⟩
    rw [hE.out] at H2
    have H2' := Lib.hid H2
    clear H2
    go_wp2_with fail
    go_ret
    exact ⟨rfl, H2'.out, only_trans (only_of_below hb1 _) hg2⟩
end Go.Proofs.Ytfnjggefinkcaaa.CellP
