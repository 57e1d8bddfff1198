/-
  carry: a task that is none: contracts.
-/
import Derived.Test.YtpmlbdnhgeeaoaaMemZero
import Derived.Test.YtpmlbdnhgeeaoaaRefGate
namespace Go.Proofs.Ytpmlbdnhgeeaoaa.MemP
open Go.RowKit RefP CellP
set_option linter.unusedVariables false
set_option linter.unusedSimpArgs false
/-- an access without a block and an operation -/
abbrev accY (k i ver word : Int) : Array Value := #[.int .i64 k, .int .i64 i, .int .u64 ver, .int .u64 word, .int .i64 0, .int .i64 0, .string ⟨#[]⟩, .string ⟨#[]⟩, .bool false, .int .i64 0, .slice none 0 0, .slice none 0 0, .slice none 0 0, .int .i64 0, .int .i64 0, .string ⟨#[]⟩, .int .u64 0, .slice none 0 0, .slice none 0 0, .slice none 0 0, .slice none 0 0, .int .i64 0, .string ⟨#[]⟩, .string ⟨#[]⟩, .int .u64 0, .int .i64 0]
abbrev carA (m : Option Addr) (hp s t x ver at_ : Int) (st : Value) (done : Int) (tu en : Bool) : Array Value := #[.pointer m, .int .i64 hp, .int .i64 s, .int .i64 t, .int .u64 x, .int .u64 ver, .int .i64 at_, st, .int .u64 done, .bool tu, .bool en]
theorem setCell_self {w : World} {b i : Nat} {cs : Array Value} {T : TypeId} (h : Blk w b cs T) {v : Value} (hv : cs[i]? = some v) : w.setCell ⟨b, i, none⟩ v = w := by
  have e : cs.setIfInBounds i v = cs := by
    apply Array.ext_getElem?
    intro k
    rw [Array.getElem?_setIfInBounds]
    split
    · rename_i hk
      subst hk
      split
      · exact hv.symm
      · rename_i hn
        rw [Array.getElem?_eq_none (by omega)] at hv; cases hv
    · rfl
  have e2 : ∀ f : Obj → Obj, f (.cells cs T (0, 0)) = .cells cs T (0, 0) → w.heap.modify b f = w.heap := by
    intro f hf
    apply Array.ext_getElem?
    intro k
    rw [Array.getElem?_modify]
    split
    · rename_i hk
      subst hk
      rw [h.h]; simp [hf]
    · rfl
  unfold World.setCell
  rw [e2 _ (by simp [e])]
set_option maxHeartbeats 800000 in
theorem haz_nil (t : Int) (w : World) : Calls Try.prog 29 #[.pointer none, .int .i64 t, .int .i64 0] w fun e w' => e = .returned (.int .i64 (-1)) ∧ w = w' := by
  by_cases h3 : t < 0
  · have q3 : decide (t < 0) = true := by simpa using h3
    go_enter Try.func29, Try.ntmps29
    go_wp2_with fail
    go_ret
    exact ⟨rfl, rfl⟩
  · have q3 : decide (t < 0) = false := by simpa using h3
    have q4 : decide (0 ≤ t) = true := by simp; omega
    go_enter Try.func29, Try.ntmps29
    go_wp2_with fail
    refine (threads_nil _).mono ?_
    rintro e w1 ⟨rfl, rfl⟩
    go_wp2_with fail
    go_ret
    exact ⟨rfl, rfl⟩
abbrev CNew (w : World) (m : Option Addr) (hp s t x ver at_ : Int) (e : Ending) (w' : World) : Prop := e = .returned (.pointer (some ⟨w.heap.size + 1, 0, none⟩)) ∧ Blk w' (w.heap.size + 1) (carA m hp s t x ver at_ (.slice none 0 0) 0 false false) 152 ∧ Below w.heap.size w w'
set_option maxHeartbeats 1600000 in
theorem cnew_nil (hp s t x ver : Int) (w : World) (s0 : -9223372036854775808 ≤ s) (s1 : s ≤ 9223372036854775807) (t0 : -9223372036854775808 ≤ t) (t1 : t ≤ 9223372036854775807) (x0 : 0 ≤ x) (x1 : x ≤ 18446744073709551615) :
    Calls Try.prog 77 #[.pointer none, .int .i64 hp, .agg #[.int .i64 s, .int .i64 t, .int .u64 x], .int .u64 ver] w (CNew w none hp s t x ver 8) := by
  have hb2 : Below w.heap.size w ((w.alloc (.cells #[.int .i64 s, .int .i64 t, .int .u64 x] 138)).alloc (.cells (carA none hp s t x ver 0 (.slice none 0 0) 0 false false) 152)) := by (repeat (first | exact Below.refl _ _ | assumption | refine below_alloc2 ?_ (by first | exact Nat.le_refl _ | omega) _ | refine Below.drew ?_ | refine below_drewN ?_ _ | refine below_push2 ?_ ‹_› (by first | exact Nat.le_refl _ | omega) | refine Below.setCell ?_ (by first | (simp; done) | (simp; omega) | omega) _))
  have BG := (Blk.new w #[.int .i64 s, .int .i64 t, .int .u64 x] 138).alloc (.cells (carA none hp s t x ver 0 (.slice none 0 0) 0 false false) 152)
  have BT : Blk ((w.alloc (.cells #[.int .i64 s, .int .i64 t, .int .u64 x] 138)).alloc (.cells (carA none hp s t x ver 0 (.slice none 0 0) 0 false false) 152)) (w.heap.size + 1) (carA none hp s t x ver 0 (.slice none 0 0) 0 false false) 152 := by
    have := Blk.new (w.alloc (.cells #[.int .i64 s, .int .i64 t, .int .u64 x] 138)) (carA none hp s t x ver 0 (.slice none 0 0) 0 false false) 152
    simpa using this
  have hs := shut_any s t x
  cases h1 : (shutI s t x == 18446744073709551615)
  · by_cases h2 : s < 2
    · have q2 : decide (s < 2) = true := by simpa using h2
      clear h2
      go_enter Try.func77, Try.ntmps77
      go_wp2_with fail
      refine (hs _ s0 s1 t0 t1 x0 x1).mono ?_
      rintro e w1 ⟨rfl, hb1⟩
      have hB1 := below_push2 hb2 hb1 (Nat.le_refl _)
      replace BG := BG.below hb1
      replace BT := BT.below hb1
      have g0 : w1.cell? ⟨w.heap.size, 0, none⟩ = some (.int .i64 s) := BG.at 0 rfl
      have g1 : w1.cell? ⟨w.heap.size, 1, none⟩ = some (.int .i64 t) := BG.at 1 rfl
      have f6 := BT.free 6
      have c6 : w1.cell? ⟨w.heap.size + 1, 6, none⟩ = some (.int .i64 0) := BT.at 6 rfl
      go_wp2_with fail
      go_ret
      exact ⟨rfl, by simpa [carA] using BT.set 6 (.int .i64 8), hB1.setCell (by simp) _⟩
    · have q2 : decide (s < 2) = false := by simpa using h2
      clear h2
      go_enter Try.func77, Try.ntmps77
      go_wp2_with fail
      refine (hs _ s0 s1 t0 t1 x0 x1).mono ?_
      rintro e w1 ⟨rfl, hb1⟩
      have hB1 := below_push2 hb2 hb1 (Nat.le_refl _)
      replace BG := BG.below hb1
      replace BT := BT.below hb1
      have g0 : w1.cell? ⟨w.heap.size, 0, none⟩ = some (.int .i64 s) := BG.at 0 rfl
      have g1 : w1.cell? ⟨w.heap.size, 1, none⟩ = some (.int .i64 t) := BG.at 1 rfl
      have f6 := BT.free 6
      have c6 : w1.cell? ⟨w.heap.size + 1, 6, none⟩ = some (.int .i64 0) := BT.at 6 rfl
      go_wp2_with fail
      refine (haz_nil _ _).mono ?_
      rintro e w2 ⟨rfl, rfl⟩
      go_wp2_with fail
      go_ret
      exact ⟨rfl, by simpa [carA] using BT.set 6 (.int .i64 8), hB1.setCell (by simp) _⟩
  · go_enter Try.func77, Try.ntmps77
    go_wp2_with fail
    refine (hs _ s0 s1 t0 t1 x0 x1).mono ?_
    rintro e w1 ⟨rfl, hb1⟩
    have hB1 := below_push2 hb2 hb1 (Nat.le_refl _)
    replace BG := BG.below hb1
    replace BT := BT.below hb1
    have g0 : w1.cell? ⟨w.heap.size, 0, none⟩ = some (.int .i64 s) := BG.at 0 rfl
    have g1 : w1.cell? ⟨w.heap.size, 1, none⟩ = some (.int .i64 t) := BG.at 1 rfl
    have f6 := BT.free 6
    have c6 : w1.cell? ⟨w.heap.size + 1, 6, none⟩ = some (.int .i64 0) := BT.at 6 rfl
    go_wp2_with fail
    go_ret
    exact ⟨rfl, by simpa [carA] using BT.set 6 (.int .i64 8), hB1.setCell (by simp) _⟩
theorem shut_low {s t x : Int} (h : (shutI s t x == 18446744073709551615) = false) (x0 : 0 ≤ x) : 0 ≤ s ∧ s ≤ 3 := by
  cases hg : gateB s t x
  · rw [shutI_no hg, topW_eq] at h; simp at h
  · have := gateB_bounds hg x0; omega
set_option maxHeartbeats 1600000 in
theorem cnew_not (m : Option Addr) (hp s t x ver : Int) (w : World) (hs2 : ¬ s = 2) (hs3 : ¬ s = 3) (s0 : -9223372036854775808 ≤ s) (s1 : s ≤ 9223372036854775807) (t0 : -9223372036854775808 ≤ t) (t1 : t ≤ 9223372036854775807) (x0 : 0 ≤ x) (x1 : x ≤ 18446744073709551615) :
    Calls Try.prog 77 #[.pointer m, .int .i64 hp, .agg #[.int .i64 s, .int .i64 t, .int .u64 x], .int .u64 ver] w (CNew w m hp s t x ver 8) := by
  have hb2 : Below w.heap.size w ((w.alloc (.cells #[.int .i64 s, .int .i64 t, .int .u64 x] 138)).alloc (.cells (carA m hp s t x ver 0 (.slice none 0 0) 0 false false) 152)) := by (repeat (first | exact Below.refl _ _ | assumption | refine below_alloc2 ?_ (by first | exact Nat.le_refl _ | omega) _ | refine Below.drew ?_ | refine below_drewN ?_ _ | refine below_push2 ?_ ‹_› (by first | exact Nat.le_refl _ | omega) | refine Below.setCell ?_ (by first | (simp; done) | (simp; omega) | omega) _))
  have BG := (Blk.new w #[.int .i64 s, .int .i64 t, .int .u64 x] 138).alloc (.cells (carA m hp s t x ver 0 (.slice none 0 0) 0 false false) 152)
  have BT : Blk ((w.alloc (.cells #[.int .i64 s, .int .i64 t, .int .u64 x] 138)).alloc (.cells (carA m hp s t x ver 0 (.slice none 0 0) 0 false false) 152)) (w.heap.size + 1) (carA m hp s t x ver 0 (.slice none 0 0) 0 false false) 152 := by
    have := Blk.new (w.alloc (.cells #[.int .i64 s, .int .i64 t, .int .u64 x] 138)) (carA m hp s t x ver 0 (.slice none 0 0) 0 false false) 152
    simpa using this
  have hs := shut_any s t x
  cases h1 : (shutI s t x == 18446744073709551615)
  · have hl := shut_low h1 x0
    have q2 : decide (s < 2) = true := by simp; omega
    clear hl hs2 hs3
    go_enter Try.func77, Try.ntmps77
    go_wp2_with fail
    refine (hs _ s0 s1 t0 t1 x0 x1).mono ?_
    rintro e w1 ⟨rfl, hb1⟩
    have hB1 := below_push2 hb2 hb1 (Nat.le_refl _)
    replace BG := BG.below hb1
    replace BT := BT.below hb1
    have g0 : w1.cell? ⟨w.heap.size, 0, none⟩ = some (.int .i64 s) := BG.at 0 rfl
    have g1 : w1.cell? ⟨w.heap.size, 1, none⟩ = some (.int .i64 t) := BG.at 1 rfl
    have f6 := BT.free 6
    have c6 : w1.cell? ⟨w.heap.size + 1, 6, none⟩ = some (.int .i64 0) := BT.at 6 rfl
    go_wp2_with fail
    go_ret
    exact ⟨rfl, by simpa [carA] using BT.set 6 (.int .i64 8), hB1.setCell (by simp) _⟩
  · clear hs2 hs3
    go_enter Try.func77, Try.ntmps77
    go_wp2_with fail
    refine (hs _ s0 s1 t0 t1 x0 x1).mono ?_
    rintro e w1 ⟨rfl, hb1⟩
    have hB1 := below_push2 hb2 hb1 (Nat.le_refl _)
    replace BG := BG.below hb1
    replace BT := BT.below hb1
    have g0 : w1.cell? ⟨w.heap.size, 0, none⟩ = some (.int .i64 s) := BG.at 0 rfl
    have g1 : w1.cell? ⟨w.heap.size, 1, none⟩ = some (.int .i64 t) := BG.at 1 rfl
    have f6 := BT.free 6
    have c6 : w1.cell? ⟨w.heap.size + 1, 6, none⟩ = some (.int .i64 0) := BT.at 6 rfl
    go_wp2_with fail
    go_ret
    exact ⟨rfl, by simpa [carA] using BT.set 6 (.int .i64 8), hB1.setCell (by simp) _⟩
/-- a task that is none: of no memory, or over -/
def NoCar (w : World) (t : Nat) (en : Bool) : Prop := ∃ m hp s tt x ver at_ st done, Blk w t (carA m hp s tt x ver at_ st done false en) 152 ∧ (m = none ∨ at_ = 8 ∧ ∃ o oc g gb gr A T L bs rs, m = some ⟨o, 0, none⟩ ∧ MemAt w o oc g gb gr A T L bs rs)
theorem NoCar.below {w w' : World} {t : Nat} {en : Bool} (h : NoCar w t en) (hb : Below w.heap.size w w') : NoCar w' t en := by
  obtain ⟨m, hp, s, tt, x, ver, at_, st, done, B, hm⟩ := h
  refine ⟨m, hp, s, tt, x, ver, at_, st, done, B.below hb, ?_⟩
  rcases hm with hm | ⟨ha, o, oc, g, gb, gr, A, T, L, bs, rs, e, hM⟩
  · exact .inl hm
  · exact .inr ⟨ha, o, oc, g, gb, gr, A, T, L, bs, rs, e, hM.below hb⟩
set_option maxHeartbeats 800000 in
theorem cnone_nil (w : World) : Calls Try.prog 134 #[.pointer none] w fun e w' => e = .returned (.bool true) ∧ w = w' := by
  go_enter Try.func134, Try.ntmps134
  go_wp2_with fail
  go_ret
  exact ⟨rfl, rfl⟩
set_option maxHeartbeats 800000 in
theorem cnone_no (t : Nat) (en : Bool) (w : World) (h : NoCar w t en) : Calls Try.prog 134 #[.pointer (some ⟨t, 0, none⟩)] w fun e w' => e = .returned (.bool true) ∧ w = w' := by
  obtain ⟨m, hp, s, tt, x, ver, at_, st, done, B, hm⟩ := h
  have c0 := B.at 0 rfl
  have c6 := B.at 6 rfl
  rcases hm with rfl | ⟨rfl, o, oc, g, gb, gr, A, T, L, bs, rs, rfl, hM⟩
  · go_enter Try.func134, Try.ntmps134
    go_wp2_with fail
    refine (arena_nil _).mono ?_
    rintro e w1 ⟨rfl, rfl⟩
    go_wp2_with fail
    go_ret
    exact ⟨rfl, rfl⟩
  · have hA := hM.a1
    have q : ((A : Int) == 0) = false := by simp; omega
    clear hA
    go_enter Try.func134, Try.ntmps134
    go_wp2_with fail
    refine (arena_any _ hM).mono ?_
    rintro e w1 ⟨rfl, rfl⟩
    go_wp2_with fail
    go_ret
    exact ⟨rfl, rfl⟩
set_option maxRecDepth 100000 in
set_option maxHeartbeats 1600000 in
theorem cTell_nil (w : World) : Calls Try.prog 83 #[.pointer none, .agg #[.bool true, .int .u64 0, .int .u64 0, .int .i64 0, .int .i64 0, .string ⟨#[]⟩, .string ⟨#[]⟩, .bool false, .int .i64 0, .slice none 0 0, .slice none 0 0, .slice none 0 0, .int .i64 0, .int .i64 0, .string ⟨#[]⟩, .int .u64 0, .slice none 0 0, .slice none 0 0, .slice none 0 0, .slice none 0 0, .int .i64 0, .string ⟨#[]⟩, .string ⟨#[]⟩, .int .u64 0, .int .i64 0]] w fun e w' => e = .returned (.tuple #[]) ∧ Below w.heap.size w w' := by
  have hb0 : Below w.heap.size w (w.alloc (.cells #[.bool true, .int .u64 0, .int .u64 0, .int .i64 0, .int .i64 0, .string ⟨#[]⟩, .string ⟨#[]⟩, .bool false, .int .i64 0, .slice none 0 0, .slice none 0 0, .slice none 0 0, .int .i64 0, .int .i64 0, .string ⟨#[]⟩, .int .u64 0, .slice none 0 0, .slice none 0 0, .slice none 0 0, .slice none 0 0, .int .i64 0, .string ⟨#[]⟩, .string ⟨#[]⟩, .int .u64 0, .int .i64 0] 50)) := by (repeat (first | exact Below.refl _ _ | assumption | refine below_alloc2 ?_ (by first | exact Nat.le_refl _ | omega) _ | refine Below.drew ?_ | refine below_drewN ?_ _ | refine below_push2 ?_ ‹_› (by first | exact Nat.le_refl _ | omega) | refine Below.setCell ?_ (by first | (simp; done) | (simp; omega) | omega) _))
  go_enter Try.func83, Try.ntmps83
  go_wp2_with fail
  refine (cnone_nil _).mono ?_
  rintro e w1 ⟨rfl, rfl⟩
  go_wp2_with fail
  refine bodyPost_ret (results_none rfl _ _ _) rfl ?_
  exact ⟨rfl, hb0⟩
set_option maxRecDepth 100000 in
set_option maxHeartbeats 1600000 in
theorem cTell_no (t : Nat) (en : Bool) (w : World) (h : NoCar w t en) : Calls Try.prog 83 #[.pointer (some ⟨t, 0, none⟩), .agg #[.bool true, .int .u64 0, .int .u64 0, .int .i64 0, .int .i64 0, .string ⟨#[]⟩, .string ⟨#[]⟩, .bool false, .int .i64 0, .slice none 0 0, .slice none 0 0, .slice none 0 0, .int .i64 0, .int .i64 0, .string ⟨#[]⟩, .int .u64 0, .slice none 0 0, .slice none 0 0, .slice none 0 0, .slice none 0 0, .int .i64 0, .string ⟨#[]⟩, .string ⟨#[]⟩, .int .u64 0, .int .i64 0]] w fun e w' => e = .returned (.tuple #[]) ∧ Below w.heap.size w w' := by
  have hb0 : Below w.heap.size w (w.alloc (.cells #[.bool true, .int .u64 0, .int .u64 0, .int .i64 0, .int .i64 0, .string ⟨#[]⟩, .string ⟨#[]⟩, .bool false, .int .i64 0, .slice none 0 0, .slice none 0 0, .slice none 0 0, .int .i64 0, .int .i64 0, .string ⟨#[]⟩, .int .u64 0, .slice none 0 0, .slice none 0 0, .slice none 0 0, .slice none 0 0, .int .i64 0, .string ⟨#[]⟩, .string ⟨#[]⟩, .int .u64 0, .int .i64 0] 50)) := by (repeat (first | exact Below.refl _ _ | assumption | refine below_alloc2 ?_ (by first | exact Nat.le_refl _ | omega) _ | refine Below.drew ?_ | refine below_drewN ?_ _ | refine below_push2 ?_ ‹_› (by first | exact Nat.le_refl _ | omega) | refine Below.setCell ?_ (by first | (simp; done) | (simp; omega) | omega) _))
  have h1 := h.below hb0
  have hh := h1
  obtain ⟨m, hp, s, tt, x, ver, at_, st, done, B, hm⟩ := hh
  have f9 := B.free 9
  have c9 := B.at 9 rfl
  have hself := setCell_self (i := 9) (v := .bool false) B rfl
  clear hm B
  go_enter Try.func83, Try.ntmps83
  go_wp2_with fail
  try rw [hself]
  refine (cnone_no t en _ h1).mono ?_
  rintro e w1 ⟨rfl, rfl⟩
  go_wp2_with fail
  refine bodyPost_ret (results_none rfl _ _ _) rfl ?_
  exact ⟨rfl, hb0⟩
set_option maxRecDepth 100000 in
set_option maxHeartbeats 1600000 in
theorem cNext_nil (w : World) : Calls Try.prog 79 #[.pointer none] w fun e w' => e = .returned (.tuple #[.agg (accY 0 0 0 0), .bool false]) ∧ Below w.heap.size w w' := by
  have hB : Below w.heap.size w (w.alloc (.cells (accY 0 0 0 0) 39)) := by (repeat (first | exact Below.refl _ _ | assumption | refine below_alloc2 ?_ (by first | exact Nat.le_refl _ | omega) _ | refine Below.drew ?_ | refine below_drewN ?_ _ | refine below_push2 ?_ ‹_› (by first | exact Nat.le_refl _ | omega) | refine Below.setCell ?_ (by first | (simp; done) | (simp; omega) | omega) _))
  go_enter Try.func79, Try.ntmps79
  go_wp2_with fail
  refine (cnone_nil _).mono ?_
  rintro e w1 ⟨rfl, rfl⟩
  have BR := Blk.new w (accY 0 0 0 0) 39
  go_wp2_with (refine wpList_store_row rfl 39 _ _ rfl w.heap.size _ rfl rfl 39 _ BR.h (by kernel_rfl) (by rfl) (by kernel_rfl) ?_)
  refine bodyPost_ret (v := .tuple #[.agg (accY 0 0 0 0), .bool false]) (results_cell_tmp rfl _ _ w.heap.size 39 (accY 0 0 0 0) (0, 0) _ (.bool false) rfl rfl (Blk.row BR (accY 0 0 0 0)).h Try.underlying39 rfl (by kernel_rfl)) rfl ⟨rfl, below_setRow hB (by omega) _⟩
set_option maxRecDepth 100000 in
set_option maxHeartbeats 1600000 in
theorem cNext_no (t : Nat) (en : Bool) (w : World) (h : NoCar w t en) : Calls Try.prog 79 #[.pointer (some ⟨t, 0, none⟩)] w fun e w' => e = .returned (.tuple #[.agg (accY 0 0 0 0), .bool false]) ∧ Below w.heap.size w w' := by
  have hB : Below w.heap.size w (w.alloc (.cells (accY 0 0 0 0) 39)) := by (repeat (first | exact Below.refl _ _ | assumption | refine below_alloc2 ?_ (by first | exact Nat.le_refl _ | omega) _ | refine Below.drew ?_ | refine below_drewN ?_ _ | refine below_push2 ?_ ‹_› (by first | exact Nat.le_refl _ | omega) | refine Below.setCell ?_ (by first | (simp; done) | (simp; omega) | omega) _))
  go_enter Try.func79, Try.ntmps79
  go_wp2_with fail
  refine (cnone_no t en _ (h.below hB)).mono ?_
  rintro e w1 ⟨rfl, rfl⟩
  have BR := Blk.new w (accY 0 0 0 0) 39
  go_wp2_with (refine wpList_store_row rfl 39 _ _ rfl w.heap.size _ rfl rfl 39 _ BR.h (by kernel_rfl) (by rfl) (by kernel_rfl) ?_)
  refine bodyPost_ret (v := .tuple #[.agg (accY 0 0 0 0), .bool false]) (results_cell_tmp rfl _ _ w.heap.size 39 (accY 0 0 0 0) (0, 0) _ (.bool false) rfl rfl (Blk.row BR (accY 0 0 0 0)).h Try.underlying39 rfl (by kernel_rfl)) rfl ⟨rfl, below_setRow hB (by omega) _⟩
set_option maxHeartbeats 800000 in
theorem cTurned_nil (w : World) : Calls Try.prog 81 #[.pointer none] w fun e w' => e = .returned (.bool false) ∧ w = w' := by
  go_enter Try.func81, Try.ntmps81
  go_wp2_with fail
  go_ret
  exact ⟨rfl, rfl⟩
set_option maxHeartbeats 800000 in
theorem cTurned_any (t : Nat) (m : Option Addr) (hp s tt x ver at_ : Int) (st : Value) (done : Int) (tu en : Bool) (w : World) (B : Blk w t (carA m hp s tt x ver at_ st done tu en) 152) : Calls Try.prog 81 #[.pointer (some ⟨t, 0, none⟩)] w fun e w' => e = .returned (.bool tu) ∧ w = w' := by
  have c0 := B.at 9 rfl
  go_enter Try.func81, Try.ntmps81
  go_wp2_with fail
  go_ret
  exact ⟨rfl, rfl⟩
set_option maxHeartbeats 800000 in
theorem cEnded_nil (w : World) : Calls Try.prog 82 #[.pointer none] w fun e w' => e = .returned (.bool false) ∧ w = w' := by
  go_enter Try.func82, Try.ntmps82
  go_wp2_with fail
  go_ret
  exact ⟨rfl, rfl⟩
set_option maxHeartbeats 800000 in
theorem cEnded_any (t : Nat) (m : Option Addr) (hp s tt x ver at_ : Int) (st : Value) (done : Int) (tu en : Bool) (w : World) (B : Blk w t (carA m hp s tt x ver at_ st done tu en) 152) : Calls Try.prog 82 #[.pointer (some ⟨t, 0, none⟩)] w fun e w' => e = .returned (.bool en) ∧ w = w' := by
  have c0 := B.at 10 rfl
  go_enter Try.func82, Try.ntmps82
  go_wp2_with fail
  go_ret
  exact ⟨rfl, rfl⟩
end Go.Proofs.Ytpmlbdnhgeeaoaa.MemP
