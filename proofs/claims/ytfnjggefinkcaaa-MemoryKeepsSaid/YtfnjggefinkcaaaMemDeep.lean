/-
  Blocks of a memory, in depth: named, Block, Do of what gets and puts a block.
-/
import Derived.Test.YtfnjggefinkcaaaDeepBlock
import Derived.Test.YtfnjggefinkcaaaMemDoW
import Derived.Test.YtfnjggefinkcaaaRefOpen
namespace Go.Proofs.Ytfnjggefinkcaaa.MemP
open Go.RowKit RefP CellP Dp
set_option linter.unusedVariables false
set_option linter.unusedSimpArgs false
theorem res_ct {P : Program} {fn : Func} {p q : Tmp} {ty : TypeId} (h : fn.results = #[.cell p ty, .tmp q]) (tmps : Array Value) (w : World) (g : Nat) (t : TypeId) (cs : Array Value) (fr : Nat × Nat) (d : TypeDesc)
    (v : Value) (hv : tmps.getD q undef = v) (hp : tmps.getD p undef = .pointer (some ⟨g, 0, none⟩)) (hg : w.heap[g]? = some (.cells cs t fr))
    (hu : P.underlying ty = some d) (hd : (match d with | .struct _ | .array _ _ => true | _ => false) = true) (hi : (P.info? ty).map (·.size) = some cs.size) :
    (results fn tmps).run P w = .ok (.tuple #[.agg cs, v]) w := by
  subst hv
  have hp' : tmps[p]?.getD undef = .pointer (some ⟨g, 0, none⟩) := by simpa using hp
  simp [results, h, hp', asAddr, run_loadVar_row w g t ty cs fr d hg hu hd hi]
/-- does a reference name a place, and which -/
def nameB (A T : Nat) (L : List (Int × Int)) (x : Int) : Bool := opensB x && (decide (openP x < A) && (loadW L (atI A T 1 (openP x)) == useI 1 (openG x)))
def nameP (A : Nat) (x : Int) : Int := if opensB x = true ∧ openP x < A then openP x else 0
theorem openP_ge (x : Int) : 0 ≤ openP x := by
  unfold openP
  split
  · rename_i h; have := opensB_yes h; omega
  · omega
theorem openP_le (x : Int) : openP x ≤ 8191 := by
  unfold openP
  split
  · rename_i h; have := opensB_yes h; omega
  · omega
theorem openG_rng {x : Int} (h : opensB x = true) : 1 ≤ openG x ∧ openG x ≤ 4294967295 := by
  unfold openG
  rw [if_pos h]
  have := opensB_yes h; omega
set_option maxHeartbeats 1600000 in
theorem named_any {o oc g gb gr A T : Nat} {L : List (Int × Int)} {bs rs : List (List Value)} (x : Int) (w : World) (h : MemAt w o oc g gb gr A T L bs rs) (x0 : 0 ≤ x) (x1 : x ≤ 18446744073709551615) :
    Calls Try.prog 33 #[.pointer (some ⟨o, 0, none⟩), .int .u64 x] w fun e w' => e = .returned (.tuple #[.int .i64 (nameP A x), .bool (nameB A T L x)]) ∧ Below w.heap.size w w' := by
  have hA := h.a1
  cases hb : opensB x
  · have hP := Lib.hid (show nameP A x = 0 by simp [nameP, hb])
    have hN := Lib.hid (show nameB A T L x = false by simp [nameB, hb])
    go_enter Try.func33, Try.ntmps33
    go_wp2_with fail
    refine (open_any x _ x0 x1).mono ?_
    rw [hb]
    rintro e w1 ⟨rfl, hb1⟩
    go_wp2_with fail
    go_ret2
    exact ⟨by rw [hP.out, hN.out]; rfl, hb1⟩
  · have hg := openG_rng hb
    have p0 := openP_ge x
    by_cases hl : openP x < A
    · have q1 : decide ((A : Int) ≤ openP x) = false := by simpa using hl
      have hP := Lib.hid (show nameP A x = openP x by simp [nameP, hb, hl])
      have hN := Lib.hid (show nameB A T L x = (loadW L (atI A T 1 (openP x)) == useI 1 (openG x)) by simp [nameB, hb, hl])
      go_enter Try.func33, Try.ntmps33
      go_wp2_with fail
      refine (open_any x _ x0 x1).mono ?_
      rw [hb]
      rintro e w1 ⟨rfl, hb1⟩
      replace h := h.below hb1
      go_wp2_with fail
      refine (arena_any _ h).mono ?_
      rintro e w2 ⟨rfl, rfl⟩
      go_wp2_with fail
      refine (muse_any (openP x) _ h (by omega) (by omega)).mono ?_
      rintro e w2 ⟨rfl, hb2⟩
      replace h := h.below hb2
      have hB2 := below_push2 hb1 hb2 (Nat.le_refl _)
      go_wp2_with fail
      refine (mload_any _ _ h).mono ?_
      rintro e w3 ⟨rfl, hb3⟩
      have hB3 := below_push2 hB2 hb3 (Nat.le_refl _)
      go_wp2_with fail
      refine (use_any 1 (openG x) _ (by omega) (by omega) (by omega) (by omega)).mono ?_
      rintro e w4 ⟨rfl, rfl⟩
      go_wp2_with fail
      go_ret2
      exact ⟨by rw [hP.out, hN.out]; rfl, hB3⟩
    · have q1 : decide ((A : Int) ≤ openP x) = true := by simp; omega
      have hP := Lib.hid (show nameP A x = 0 by simp [nameP, hl])
      have hN := Lib.hid (show nameB A T L x = false by simp [nameB, hl])
      go_enter Try.func33, Try.ntmps33
      go_wp2_with fail
      refine (open_any x _ x0 x1).mono ?_
      rw [hb]
      rintro e w1 ⟨rfl, hb1⟩
      replace h := h.below hb1
      go_wp2_with fail
      refine (arena_any _ h).mono ?_
      rintro e w2 ⟨rfl, rfl⟩
      go_wp2_with fail
      go_ret2
      exact ⟨by rw [hP.out, hN.out]; rfl, hb1⟩
theorem named_lt {A T : Nat} {L : List (Int × Int)} {x : Int} (h : nameB A T L x = true) : ∃ i : Nat, i < A ∧ nameP A x = (i : Int) ∧ openP x = (i : Int) := by
  simp only [nameB, Bool.and_eq_true, decide_eq_true_eq] at h
  obtain ⟨h1, h2, _⟩ := h
  have p0 := openP_ge x
  refine ⟨(openP x).toNat, by omega, ?_, by omega⟩
  rw [nameP, if_pos ⟨h1, h2⟩]; omega
set_option maxRecDepth 100000 in
set_option maxHeartbeats 3200000 in
theorem block_yes {o oc g gb gr A T : Nat} {L : List (Int × Int)} {bs rs : List (List Value)} (x : Int) (i : Nat) (S : List Nat) (q : BlockH) (b : BlockV) (w : World) (h : MemAt w o oc g gb gr A T L bs rs) (x0 : 0 ≤ x) (x1 : x ≤ 18446744073709551615) (hN : nameB A T L x = true) (hi : i < A) (hp : nameP A x = (i : Int)) (hb : bs.getD i [] = (blockA q b).toList) (H : BlockOk w S q b) (hf : Few b) :
    Calls Try.prog 10 #[.pointer (some ⟨o, 0, none⟩), .int .u64 x] w fun e w' => (∃ q', e = .returned (.tuple #[.agg (blockA q' b), .bool true]) ∧ BlockOk w' (List.range w.heap.size) q' b) ∧ Below w.heap.size w w' := by
  have hb0 : Below w.heap.size w (w.alloc (.cells bkZ 35)) := by (repeat (first | exact Below.refl _ _ | assumption | refine below_alloc2 ?_ (by first | exact Nat.le_refl _ | omega) _ | refine Below.drew ?_ | refine below_drewN ?_ _ | refine below_push2 ?_ ‹_› (by first | exact Nat.le_refl _ | omega) | refine Below.setCell ?_ (by first | (simp; done) | (simp; omega) | omega) _))
  have hi' : (i : Int) < (A : Int) := by omega
  go_enter Try.func10, Try.ntmps10
  go_wp2_with fail
  refine (named_any x _ (h.below hb0) x0 x1).mono ?_
  rw [hN, hp]
  rintro e w1 ⟨rfl, hb1⟩
  have hB1 := below_push2 hb0 hb1 (Nat.le_refl _)
  have BR := (Blk.new w bkZ 35).below hb1
  have h1 := (h.below hb0).below hb1
  have d9 : w1.cell? ⟨o, 9, none⟩ = some (.slice (some ⟨gb, 0, none⟩) A A) := h1.head.at 9 rfl
  have hr : w1.rangeAt gb (i * 17) (blockA q b).toList := by
    intro j v hj
    have hj17 : j < 17 := by
      by_cases e : j < 17
      · exact e
      · rw [List.getElem?_eq_none (by simp; omega)] at hj; cases hj
    rw [h1.blocks.at (i * 17 + j) (raw_at bs i j (by rw [h1.lb]; omega) hj17)]
    show some ((bs.getD i []).getD j undef) = some v
    rw [hb]
    simp only [List.getD, hj, Option.getD_some]
  clear hb0 hb1 h1
  go_wp2_with (refine wpList_load_mid rfl 35 _ rfl gb (i * 17) rfl (blockA q b).toList _ hr Try.underlying35 rfl (by kernel_rfl) ?_)
  refine (show Calls _ _ _ _ _ from copied_any S q b w1 (H.keep (Keeps.of_below hB1)) hf).mono ?_
  rintro e w2 ⟨⟨q', rfl, H2⟩, hb2⟩
  have hB2 := below_push2 hB1 hb2 (Nat.le_refl _)
  have hlr := BR.lt
  replace BR := BR.below hb2
  go_wp2_with (refine wpList_store_row rfl 35 _ _ rfl w.heap.size _ rfl rfl 35 _ BR.h (by kernel_rfl) (by rfl) (by kernel_rfl) ?_)
  refine bodyPost_ret (v := .tuple #[.agg (blockA q' b), .bool true]) (res_ct rfl _ _ w.heap.size 35 (blockA q' b) (0, 0) _ (.bool true) rfl rfl (Blk.row BR (blockA q' b)).h Try.underlying35 rfl (by kernel_rfl)) rfl ⟨⟨q', rfl, ?_⟩, below_setRow hB2 (by omega) _⟩
  exact (H2.keep (Fr.row (S := List.range w1.heap.size) w.heap.size _ (by simpa using hlr)).keeps).more (range_sub (by omega))
set_option maxRecDepth 100000 in
set_option maxHeartbeats 3200000 in
theorem block_no {o oc g gb gr A T : Nat} {L : List (Int × Int)} {bs rs : List (List Value)} (x : Int) (w : World) (h : MemAt w o oc g gb gr A T L bs rs) (x0 : 0 ≤ x) (x1 : x ≤ 18446744073709551615) (hN : nameB A T L x = false) :
    Calls Try.prog 10 #[.pointer (some ⟨o, 0, none⟩), .int .u64 x] w fun e w' => e = .returned (.tuple #[.agg bkZ, .bool false]) ∧ Below w.heap.size w w' := by
  have hb0 : Below w.heap.size w (w.alloc (.cells bkZ 35)) := by (repeat (first | exact Below.refl _ _ | assumption | refine below_alloc2 ?_ (by first | exact Nat.le_refl _ | omega) _ | refine Below.drew ?_ | refine below_drewN ?_ _ | refine below_push2 ?_ ‹_› (by first | exact Nat.le_refl _ | omega) | refine Below.setCell ?_ (by first | (simp; done) | (simp; omega) | omega) _))
  go_enter Try.func10, Try.ntmps10
  go_wp2_with fail
  refine (named_any x _ (h.below hb0) x0 x1).mono ?_
  rw [hN]
  rintro e w1 ⟨rfl, hb1⟩
  have hB1 := below_push2 hb0 hb1 (Nat.le_refl _)
  have BR := (Blk.new w bkZ 35).below hb1
  go_wp2_with (refine wpList_store_row rfl 35 _ _ rfl w.heap.size _ rfl rfl 35 _ BR.h (by kernel_rfl) (by rfl) (by kernel_rfl) ?_)
  refine bodyPost_ret (v := .tuple #[.agg bkZ, .bool false]) (res_ct rfl _ _ w.heap.size 35 bkZ (0, 0) _ (.bool false) rfl rfl (Blk.row BR bkZ).h Try.underlying35 rfl (by kernel_rfl)) rfl ⟨rfl, below_setRow hB1 (by omega) _⟩
end Go.Proofs.Ytfnjggefinkcaaa.MemP
