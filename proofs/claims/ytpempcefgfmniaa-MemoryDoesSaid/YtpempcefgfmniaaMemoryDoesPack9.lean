/-
  The first block is got by an access: contract.
-/
import Derived.Deep.WholeRow
import Derived.Test.YtpempcefgfmniaaRows
import Derived.SizedLaws
import Derived.Laws.StructEq
import Derived.Test.YtpempcefgfmniaaMemoryDoesPack8

namespace Go.Proofs.Ytpempcefgfmniaa.MemP
open Go.RowKit RefP CellP
set_option linter.unusedVariables false
set_option linter.unusedSimpArgs false
abbrev repB (k v d : Value) : Array Value := #[.bool true, .int .u64 0, .int .u64 0, .int .i64 1, .int .i64 0, .string ⟨#[]⟩, .string ⟨#[]⟩, .bool true, .int .i64 (-1), k, v, d, .int .i64 0, .int .i64 0, .string ⟨#[]⟩, .int .u64 0, nlV, nlV, nlV, nlV, .int .i64 0, .string ⟨#[]⟩, .string ⟨#[]⟩, .int .u64 0, .int .i64 0]
abbrev repF (k v d : Value) : Array Value := #[.bool false, .int .u64 0, .int .u64 0, .int .i64 1, .int .i64 0, .string ⟨#[]⟩, .string ⟨#[]⟩, .bool true, .int .i64 (-1), k, v, d, .int .i64 0, .int .i64 0, .string ⟨#[]⟩, .int .u64 0, nlV, nlV, nlV, nlV, .int .i64 0, .string ⟨#[]⟩, .string ⟨#[]⟩, .int .u64 0, .int .i64 0]
theorem setsA_rep (k v d : Value) : setsA #[.bool false, .int .u64 0, .int .u64 0, .int .i64 0, .int .i64 0, .string ⟨#[]⟩, .string ⟨#[]⟩, .bool false, .int .i64 0, .slice none 0 0, .slice none 0 0, .slice none 0 0, .int .i64 0, .int .i64 0, .string ⟨#[]⟩, .int .u64 0, .slice none 0 0, .slice none 0 0, .slice none 0 0, .slice none 0 0, .int .i64 0, .string ⟨#[]⟩, .string ⟨#[]⟩, .int .u64 0, .int .i64 0] 3 (bkA k v d).toList = repF k v d := by
  simp [setsA, bkA, repF]
set_option maxRecDepth 100000 in
set_option maxHeartbeats 3200000 in
theorem do_get_first {o oc g gb gr A T : Nat} {L : List (Int × Int)} {bs rs : List (List Value)} (w : World) (h : MemAt w o oc g gb gr A T L bs rs) (hu : loadW L (atI A T 1 0) = useI 1 1) (h0 : bs.getD 0 [] = eb) :
    Calls Try.prog 12 #[.pointer (some ⟨o, 0, none⟩), .agg (accY 4 0 0 16385)] w fun e w' => (∃ b1 b2 b3, e = .returned (.agg (repB (e0V b1) (e0V b2) (e0V b3)))) ∧ Below w.heap.size w w' := by
  have hb2 : Below w.heap.size w ((w.alloc (.cells (accY 4 0 0 16385) 39)).alloc (.cells #[.bool false, .int .u64 0, .int .u64 0, .int .i64 0, .int .i64 0, .string ⟨#[]⟩, .string ⟨#[]⟩, .bool false, .int .i64 0, .slice none 0 0, .slice none 0 0, .slice none 0 0, .int .i64 0, .int .i64 0, .string ⟨#[]⟩, .int .u64 0, .slice none 0 0, .slice none 0 0, .slice none 0 0, .slice none 0 0, .int .i64 0, .string ⟨#[]⟩, .string ⟨#[]⟩, .int .u64 0, .int .i64 0] 50)) := by (repeat (first | exact Below.refl _ _ | assumption | refine below_alloc2 ?_ (by first | exact Nat.le_refl _ | omega) _ | refine Below.drew ?_ | refine below_drewN ?_ _ | refine below_push2 ?_ ‹_› (by first | exact Nat.le_refl _ | omega) | refine Below.setCell ?_ (by first | (simp; done) | (simp; omega) | omega) _))
  have BX := (Blk.new w (accY 4 0 0 16385) 39).alloc (.cells #[.bool false, .int .u64 0, .int .u64 0, .int .i64 0, .int .i64 0, .string ⟨#[]⟩, .string ⟨#[]⟩, .bool false, .int .i64 0, .slice none 0 0, .slice none 0 0, .slice none 0 0, .int .i64 0, .int .i64 0, .string ⟨#[]⟩, .int .u64 0, .slice none 0 0, .slice none 0 0, .slice none 0 0, .slice none 0 0, .int .i64 0, .string ⟨#[]⟩, .string ⟨#[]⟩, .int .u64 0, .int .i64 0] 50)
  have BR : Blk ((w.alloc (.cells (accY 4 0 0 16385) 39)).alloc (.cells #[.bool false, .int .u64 0, .int .u64 0, .int .i64 0, .int .i64 0, .string ⟨#[]⟩, .string ⟨#[]⟩, .bool false, .int .i64 0, .slice none 0 0, .slice none 0 0, .slice none 0 0, .int .i64 0, .int .i64 0, .string ⟨#[]⟩, .int .u64 0, .slice none 0 0, .slice none 0 0, .slice none 0 0, .slice none 0 0, .int .i64 0, .string ⟨#[]⟩, .string ⟨#[]⟩, .int .u64 0, .int .i64 0] 50)) (w.heap.size + 1) #[.bool false, .int .u64 0, .int .u64 0, .int .i64 0, .int .i64 0, .string ⟨#[]⟩, .string ⟨#[]⟩, .bool false, .int .i64 0, .slice none 0 0, .slice none 0 0, .slice none 0 0, .int .i64 0, .int .i64 0, .string ⟨#[]⟩, .int .u64 0, .slice none 0 0, .slice none 0 0, .slice none 0 0, .slice none 0 0, .int .i64 0, .string ⟨#[]⟩, .string ⟨#[]⟩, .int .u64 0, .int .i64 0] 50 := by
    have := Blk.new (w.alloc (.cells (accY 4 0 0 16385) 39)) #[.bool false, .int .u64 0, .int .u64 0, .int .i64 0, .int .i64 0, .string ⟨#[]⟩, .string ⟨#[]⟩, .bool false, .int .i64 0, .slice none 0 0, .slice none 0 0, .slice none 0 0, .int .i64 0, .int .i64 0, .string ⟨#[]⟩, .int .u64 0, .slice none 0 0, .slice none 0 0, .slice none 0 0, .slice none 0 0, .int .i64 0, .string ⟨#[]⟩, .string ⟨#[]⟩, .int .u64 0, .int .i64 0] 50
    simpa using this
  have h2 := h.below hb2
  go_enter Try.func12, Try.ntmps12
  go_wp2_with fail
  generalize ((w.alloc (.cells (accY 4 0 0 16385) 39)).alloc (.cells #[.bool false, .int .u64 0, .int .u64 0, .int .i64 0, .int .i64 0, .string ⟨#[]⟩, .string ⟨#[]⟩, .bool false, .int .i64 0, .slice none 0 0, .slice none 0 0, .slice none 0 0, .int .i64 0, .int .i64 0, .string ⟨#[]⟩, .int .u64 0, .slice none 0 0, .slice none 0 0, .slice none 0 0, .slice none 0 0, .int .i64 0, .string ⟨#[]⟩, .string ⟨#[]⟩, .int .u64 0, .int .i64 0] 50)) = wq at hb2 h2 BX BR ⊢
  refine (none_any _ h2).mono ?_
  rintro e w1 ⟨rfl, rfl⟩
  have b0 := BX.at 0 rfl
  have b3 := BX.at 3 rfl
  go_wp2_with fail
  refine (block_first _ h2 hu h0).mono ?_
  rintro e w3 ⟨⟨b1, b2, b3, rfl⟩, hb3⟩
  have hB3 := below_push2 hb2 hb3 (Nat.le_refl _)
  have BR3 := BR.below hb3
  clear h2 BX BR b0 hb2 hb3
  have hth := there_blk (o := 3) (n := 17) BR3 (by decide)
  have BF := blk_sets (bkA (e0V b1) (e0V b2) (e0V b3)).toList 3 _ _ BR3
  rw [setsA_rep] at BF
  have hBF := below_sets (b := w.heap.size + 1) (by omega) (bkA (e0V b1) (e0V b2) (e0V b3)).toList 3 _ hB3
  generalize hX : w3.setCells (w.heap.size + 1) 3 (bkA (e0V b1) (e0V b2) (e0V b3)).toList = wx at BF hBF
  replace hX := Lib.hid hX
  have f0 := BF.free 0
  have c0 := BF.at 0 rfl
  have BG := BF.set 0 (.bool true)
  simp only [List.setIfInBounds_toArray, List.set_cons_zero] at BG
  go_wp2_with (first
    | (refine wpList_store_mid rfl 35 _ _ rfl (w.heap.size + 1) 3 (bkA (e0V b1) (e0V b2) (e0V b3)) rfl rfl hth (by kernel_rfl) (by kernel_rfl) ?_; rw [hX.out])
    | (refine wpList_load_row rfl 50 _ rfl (w.heap.size + 1) rfl 50 _ (0, 0) _ BG.h Try.underlying50 rfl (by kernel_rfl) ?_)
    | (refine wpList_store_row rfl 50 _ _ rfl (w.heap.size + 1) _ rfl rfl 50 _ BG.h (by kernel_rfl) (by rfl) (by kernel_rfl) ?_))
  refine bodyPost_ret (results_cell_row rfl _ _ (w.heap.size + 1) 50 (repB (e0V b1) (e0V b2) (e0V b3)) (0, 0) _ rfl (Blk.row BG (repB (e0V b1) (e0V b2) (e0V b3))).h Try.underlying50 rfl (by kernel_rfl)) rfl ⟨⟨b1, b2, b3, rfl⟩, below_setRow (hBF.setCell (by show w.heap.size ≤ w.heap.size + 1; omega) _) (by omega) _⟩
end Go.Proofs.Ytpempcefgfmniaa.MemP

/-
  read: Tell in each state; the first block is got: contracts.
-/
namespace Go.Proofs.Ytpempcefgfmniaa.MemP
open Go.RowKit RefP CellP
set_option linter.unusedVariables false
set_option linter.unusedSimpArgs false
end Go.Proofs.Ytpempcefgfmniaa.MemP

/-
  read: what is known; the example of chapter 30 is true.
-/
namespace Go.Proofs.Ytpempcefgfmniaa.MemP
open Go.RowKit RefP CellP
set_option linter.unusedVariables false
set_option linter.unusedSimpArgs false
theorem lt11 {j : Nat} (h : j < 11) : j = 0 ∨ j = 1 ∨ j = 2 ∨ j = 3 ∨ j = 4 ∨ j = 5 ∨ j = 6 ∨ j = 7 ∨ j = 8 ∨ j = 9 ∨ j = 10 := by omega
abbrev rdL0 : List (Int × Int) := freshL 4 1 0
abbrev rdL1 : List (Int × Int) := storeL rdL0 (hazI 4 1 0 1) 16385
theorem rd1 : loadW rdL0 (atI 4 1 0 0) = 16385 := by decide +kernel
theorem rd2 : loadV rdL0 (atI 4 1 0 0) = 0 := by decide +kernel
theorem rd3 : opensB 16385 = true := by decide +kernel
theorem rd4 : loadV rdL1 (atI 4 1 0 0) = 0 := by decide +kernel
theorem rd5 : loadW rdL1 (atI 4 1 1 0) = useI 1 1 := by decide +kernel
theorem rd6 (bs : List (List Value)) : storeB rdL0 bs 4 (hazI 4 1 0 1) = bs := by
  unfold storeB clearL
  rw [if_neg (show ¬ (((4 : Nat) : Int) ≤ hazI 4 1 0 1 ∧ hazI 4 1 0 1 < 2 * ((4 : Nat) : Int)) by decide +kernel)]
  split <;> rfl
def RdSt (k : Nat) (o : Nat) (L : List (Int × Int)) (C : Array Value) : Prop :=
  (k = 0 ∧ L = rdL0 ∧ C = rdA (some ⟨o, 0, none⟩) 0 0 0 false 0 0 0 (.int .i64 0) (.string ⟨#[]⟩) (.string ⟨#[]⟩) (.bool false) (.int .i64 0) (.slice none 0 0) (.slice none 0 0) (.slice none 0 0)) ∨
  (k = 1 ∧ L = rdL0 ∧ C = rdA (some ⟨o, 0, none⟩) 0 1 0 false 0 16385 0 (.int .i64 0) (.string ⟨#[]⟩) (.string ⟨#[]⟩) (.bool false) (.int .i64 0) (.slice none 0 0) (.slice none 0 0) (.slice none 0 0)) ∨
  (k = 2 ∧ L = rdL1 ∧ C = rdA (some ⟨o, 0, none⟩) 0 2 0 false 0 16385 0 (.int .i64 0) (.string ⟨#[]⟩) (.string ⟨#[]⟩) (.bool false) (.int .i64 0) (.slice none 0 0) (.slice none 0 0) (.slice none 0 0)) ∨
  (k = 3 ∧ L = rdL1 ∧ C = rdA (some ⟨o, 0, none⟩) 0 3 0 true 0 16385 0 (.int .i64 0) (.string ⟨#[]⟩) (.string ⟨#[]⟩) (.bool false) (.int .i64 0) (.slice none 0 0) (.slice none 0 0) (.slice none 0 0)) ∨
  (k = 4 ∧ L = rdL1 ∧ ∃ b1 b2 b3, C = rdA (some ⟨o, 0, none⟩) 0 4 4 false 0 16385 0 (.int .i64 0) (.string ⟨#[]⟩) (.string ⟨#[]⟩) (.bool true) (.int .i64 (-1)) (e0V b1) (e0V b2) (e0V b3))
end Go.Proofs.Ytpempcefgfmniaa.MemP

/-
  Reading a node: plain laws: the accesses one by one; what is got stood in its cell at the moment of which it is sure.
-/
namespace Go.Proofs.Ytpempcefgfmniaa.MemP
open Go.RowKit RefP CellP Dp
set_option linter.unusedVariables false
set_option linter.unusedSimpArgs false
/-- a task of reading -/
structure RS where
  at_ : Int
  st : Int
  su : Bool
  word : Int
  ver : Int
  node : NodeV
def rs0 : RS := ⟨0, 0, false, 0, 0, nodeZ⟩
/-- its next access -/
def rsAcc (A T : Nat) (th cell : Int) (x : RS) : AccV :=
  if x.at_ = 1 then ⟨2, hazI A T th 1, 0, x.word, blockZ, opZ⟩ else if x.at_ = 3 then ⟨4, 0, 0, x.word, blockZ, opZ⟩ else ⟨1, atI A T 0 cell, 0, 0, blockZ, opZ⟩
/-- behind a reply -/
def rsTell (x : RS) (r : ReplyV) : RS :=
  if x.at_ = 0 then ⟨1, if opensB r.word = true then 0 else 1, false, r.word, r.ver, x.node⟩
  else if x.at_ = 1 then ⟨2, 0, false, x.word, x.ver, x.node⟩
  else if x.at_ = 2 then (if r.ver = x.ver then ⟨3, 0, true, x.word, x.ver, x.node⟩ else ⟨3, 2, false, x.word, x.ver, x.node⟩)
  else ⟨4, if r.ok = true ∧ r.block.kind = 1 then 4 else 3, false, x.word, x.ver, r.block.node⟩
theorem at2_set_ne (L : List (Int × Int)) (i j : Nat) (c : Int × Int) (h : i ≠ j) : at2 (L.set i c) j = at2 L j := by
  simp [at2, List.getElem?_set_ne h]
theorem at2_set_self (L : List (Int × Int)) (i : Nat) (c : Int × Int) (h : i < L.length) : at2 (L.set i c) i = c := by
  simp [at2, h]
theorem writeL_off (L : List (Int × Int)) (i word : Int) (j : Nat) (h : i.toNat ≠ j) : at2 (writeL L i word) j = at2 L j := at2_set_ne _ _ _ _ h
theorem doV_L (M : MemV) (a : AccV) : (doV M a).L = M.L ∨ ((a.kind = 2 ∨ a.kind = 3) ∧ inB M.L.length a.at_ = true ∧ (doV M a).L = writeL M.L a.at_ a.word) := by
  unfold doV
  by_cases k2 : a.kind = 2
  · rw [if_pos k2]
    by_cases hi : inB M.L.length a.at_ = true
    · rw [if_pos hi]; exact .inr ⟨.inl k2, hi, storeL_yes _ hi⟩
    · rw [if_neg hi]; exact .inl rfl
  · rw [if_neg k2]
    by_cases k3 : a.kind = 3
    · rw [if_pos k3]
      by_cases hi : casB M.L a.at_ a.ver = true
      · rw [if_pos hi]; exact .inr ⟨.inr k3, casB_in hi, casL_yes _ hi⟩
      · rw [if_neg hi]; exact .inl rfl
    · rw [if_neg k3]
      by_cases k5 : a.kind = 5
      · rw [if_pos k5]; split <;> exact .inl rfl
      · rw [if_neg k5]
        by_cases k7 : a.kind = 7
        · rw [if_pos k7]; split <;> exact .inl rfl
        · rw [if_neg k7]; exact .inl rfl
theorem doV_A (M : MemV) (a : AccV) : (doV M a).A = M.A ∧ (doV M a).T = M.T := by
  unfold doV
  repeat' split
  all_goals exact ⟨rfl, rfl⟩
theorem doV_len (M : MemV) (a : AccV) : (doV M a).L.length = M.L.length := by
  rcases doV_L M a with h | ⟨_, _, h⟩
  · rw [h]
  · rw [h, writeL_length]
/-- versions are few -/
def VB (L : List (Int × Int)) (n : Nat) : Prop := ∀ p ∈ L, 0 ≤ p.2 ∧ p.2 ≤ (n : Int)
theorem VB.at {L : List (Int × Int)} {n : Nat} (h : VB L n) (i : Nat) : 0 ≤ (at2 L i).2 ∧ (at2 L i).2 ≤ (n : Int) := by
  by_cases hi : i < L.length
  · exact h _ (at2_mem L i hi)
  · rw [at2_out _ _ (by omega)]; simp
theorem nextV_small {v : Int} (h0 : 0 ≤ v) (h1 : v ≤ 1000000) : nextV v = v + 1 := by unfold nextV; omega
theorem VB.step {M : MemV} {n : Nat} (h : VB M.L n) (hn : n ≤ 100000) (a : AccV) : VB (doV M a).L (n + 1) := by
  rcases doV_L M a with e | ⟨_, _, e⟩
  · rw [e]; intro p hp; have := h p hp; omega
  · rw [e]
    intro p hp
    rcases List.mem_or_eq_of_mem_set hp with hp | rfl
    · have := h p hp; omega
    · have := h.at a.at_.toNat
      simp only
      rw [nextV_small (by omega) (by omega)]
      omega
/-- a cell stays, or its version is the next one -/
theorem cell_step {M : MemV} {n : Nat} (h : VB M.L n) (hn : n ≤ 100000) (a : AccV) (c : Nat) (hc : c < M.L.length) : at2 (doV M a).L c = at2 M.L c ∨ (at2 (doV M a).L c).2 = (at2 M.L c).2 + 1 := by
  rcases doV_L M a with e | ⟨_, hi, e⟩
  · rw [e]; exact .inl rfl
  · rw [e]
    by_cases hc' : a.at_.toNat = c
    · right
      have := h.at c
      rw [hc'.symm] at this ⊢
      rw [writeL, at2_set_self _ _ _ (by omega)]
      exact nextV_small (by omega) (by omega)
    · exact .inl (writeL_off _ _ _ _ hc')
theorem cell_keep {M : MemV} (a : AccV) (c : Nat) (h : (a.kind ≠ 2 ∧ a.kind ≠ 3) ∨ a.at_ ≠ (c : Int)) : at2 (doV M a).L c = at2 M.L c := by
  rcases doV_L M a with e | ⟨hk, hi, e⟩
  · rw [e]
  · rw [e]
    have := inB_yes hi
    exact writeL_off _ _ _ _ (by omega)
/-- while it is read -/
structure RI (n : Nat) (L : List (Int × Int)) (x : RS) (sure : Int) (i : Nat) : Prop where
  len : L.length = 21
  vb : VB L n
  at_ : x.st = 0 → x.at_ = (i : Int) ∧ i ≤ 3
  seen : x.st = 0 → 1 ≤ i → x.ver ≤ (at2 L 0).2 ∧ ((at2 L 0).2 = x.ver → (at2 L 0).1 = x.word)
  haz : x.st = 0 → 2 ≤ i → (at2 L 17).1 = x.word
  su3 : x.st = 0 → 3 ≤ i → sure = x.word
  got : x.st = 4 → sure = x.word
theorem RI.start {n : Nat} {L : List (Int × Int)} (hl : L.length = 21) (hv : VB L n) (sure : Int) : RI n L rs0 sure 0 :=
  ⟨hl, hv, fun _ => ⟨rfl, by omega⟩, (fun _ h => by omega), (fun _ h => by omega), (fun _ h => by omega), (fun h => by cases h)⟩
theorem RI.other {n : Nat} {M : MemV} {x : RS} {sure : Int} {i : Nat} (h : RI n M.L x sure i) (hn : n ≤ 100000) (a : AccV) (ha : (a.kind ≠ 2 ∧ a.kind ≠ 3) ∨ a.at_ ≠ 17) : RI (n + 1) (doV M a).L x sure i := by
  refine ⟨by rw [doV_len, h.len], h.vb.step hn a, h.at_, fun h0 h1 => ?_, fun h0 h2 => ?_, h.su3, h.got⟩
  · obtain ⟨s1, s2⟩ := h.seen h0 h1
    rcases cell_step h.vb hn a 0 (by rw [h.len]; omega) with e | e
    · rw [e]; exact ⟨s1, s2⟩
    · rw [e]; exact ⟨by omega, fun e' => by omega⟩
  · rw [cell_keep a 17 ha]; exact h.haz h0 h2
theorem load_at2 {L : List (Int × Int)} {i : Nat} (h : i < L.length) : loadW L (i : Int) = (at2 L i).1 ∧ loadV L (i : Int) = (at2 L i).2 := by
  have hi : inB L.length (i : Int) = true := inB_mk (by omega) (by omega)
  rw [loadW_yes hi, loadV_yes hi]
  exact ⟨rfl, rfl⟩
theorem at_node : atI 5 2 0 0 = 0 := by decide
theorem at_haz : hazI 5 2 0 1 = 17 := by decide
/-- one access of it -/
theorem RI.step {n : Nat} {M : MemV} {x : RS} {sure : Int} {i : Nat} (h : RI n M.L x sure i) (hn : n ≤ 100000) (h0 : x.st = 0) :
    ((rsTell x (repV M (rsAcc 5 2 0 0 x))).su = true → loadW (doV M (rsAcc 5 2 0 0 x)).L 0 = loadW (doV M (rsAcc 5 2 0 0 x)).L 17) ∧
    RI (n + 1) (doV M (rsAcc 5 2 0 0 x)).L (rsTell x (repV M (rsAcc 5 2 0 0 x))) (if (rsTell x (repV M (rsAcc 5 2 0 0 x))).su = true then loadW (doV M (rsAcc 5 2 0 0 x)).L 0 else sure) (i + 1) := by
  obtain ⟨hat, hi3⟩ := h.at_ h0
  have hlen := h.len
  have l0 := load_at2 (L := M.L) (i := 0) (by omega)
  have l17 := load_at2 (L := M.L) (i := 17) (by omega)
  have hi : i = 0 ∨ i = 1 ∨ i = 2 ∨ i = 3 := by omega
  rcases hi with rfl | rfl | rfl | rfl
  · have hx : x.at_ = 0 := hat
    have ea : rsAcc 5 2 0 0 x = ⟨1, 0, 0, 0, blockZ, opZ⟩ := by simp [rsAcc, hx, at_node]
    have er : repV M (rsAcc 5 2 0 0 x) = ⟨inB M.L.length 0, loadW M.L 0, loadV M.L 0, blockZ, opZ⟩ := by rw [ea]; simp [repV]
    have et : rsTell x (repV M (rsAcc 5 2 0 0 x)) = ⟨1, if opensB (loadW M.L 0) = true then 0 else 1, false, loadW M.L 0, loadV M.L 0, x.node⟩ := by rw [er]; simp [rsTell, hx]
    have eD : (doV M (rsAcc 5 2 0 0 x)).L = M.L := by rw [ea]; rfl
    rw [et, eD]
    refine ⟨(fun e => by cases e), ⟨hlen, fun p hp => ?_, (fun hs => ⟨rfl, by omega⟩), fun hs _ => ?_, (fun _ h => by omega), (fun _ h => by omega), fun hs => ?_⟩⟩
    · have := h.vb p hp; omega
    · show loadV M.L 0 ≤ (at2 M.L 0).2 ∧ ((at2 M.L 0).2 = loadV M.L 0 → (at2 M.L 0).1 = loadW M.L 0)
      have q1 : loadW M.L 0 = (at2 M.L 0).1 := l0.1
      have q2 : loadV M.L 0 = (at2 M.L 0).2 := l0.2
      rw [q1, q2]; exact ⟨Int.le_refl _, fun _ => rfl⟩
    · exfalso
      have hs' : (if opensB (loadW M.L 0) = true then (0 : Int) else 1) = 4 := hs
      split at hs' <;> omega
  · have hx : x.at_ = 1 := hat
    have ea : rsAcc 5 2 0 0 x = ⟨2, 17, 0, x.word, blockZ, opZ⟩ := by simp [rsAcc, hx, at_haz]
    have hin : inB M.L.length 17 = true := inB_mk (by omega) (by omega)
    have et : rsTell x (repV M (rsAcc 5 2 0 0 x)) = ⟨2, 0, false, x.word, x.ver, x.node⟩ := by simp [rsTell, hx]
    have eD : (doV M (rsAcc 5 2 0 0 x)).L = writeL M.L 17 x.word := by rw [ea]; simp [doV, hin, storeL_yes]
    have hv := h.vb.step hn (rsAcc 5 2 0 0 x)
    rw [eD] at hv
    rw [et, eD]
    obtain ⟨s1, s2⟩ := h.seen h0 (by omega)
    have e0 : at2 (writeL M.L 17 x.word) 0 = at2 M.L 0 := writeL_off _ _ _ _ (by decide)
    have e17 : (at2 (writeL M.L 17 x.word) 17).1 = x.word := by
      rw [writeL, show (17 : Int).toNat = 17 from rfl, at2_set_self _ _ _ (by omega)]
    refine ⟨(fun e => by cases e), ⟨by rw [writeL_length]; exact hlen, hv, fun _ => ⟨rfl, by omega⟩, fun _ _ => ?_, fun _ _ => e17, (fun _ h => by omega), (fun hs => by cases hs)⟩⟩
    rw [e0]; exact ⟨s1, s2⟩
  · have hx : x.at_ = 2 := hat
    have ea : rsAcc 5 2 0 0 x = ⟨1, 0, 0, 0, blockZ, opZ⟩ := by simp [rsAcc, hx, at_node]
    have er : repV M (rsAcc 5 2 0 0 x) = ⟨inB M.L.length 0, loadW M.L 0, loadV M.L 0, blockZ, opZ⟩ := by rw [ea]; simp [repV]
    have eD : (doV M (rsAcc 5 2 0 0 x)).L = M.L := by rw [ea]; rfl
    obtain ⟨s1, s2⟩ := h.seen h0 (by omega)
    have hh := h.haz h0 (by omega)
    have q1 : loadW M.L 0 = (at2 M.L 0).1 := l0.1
    have q2 : loadV M.L 0 = (at2 M.L 0).2 := l0.2
    have q3 : loadW M.L 17 = (at2 M.L 17).1 := l17.1
    have hv : VB M.L (n + 1) := fun p hp => by have := h.vb p hp; omega
    by_cases hve : loadV M.L 0 = x.ver
    · have et : rsTell x (repV M (rsAcc 5 2 0 0 x)) = ⟨3, 0, true, x.word, x.ver, x.node⟩ := by rw [er]; simp [rsTell, hx, hve]
      have hw := s2 (by rw [← q2]; exact hve)
      rw [et, eD]
      refine ⟨(fun _ => by rw [q1, q3, hw, hh]), ⟨hlen, hv, fun _ => ⟨rfl, by omega⟩, fun _ _ => ⟨s1, s2⟩, fun _ _ => hh, fun _ _ => ?_, (fun hs => by cases hs)⟩⟩
      simp only [if_true]
      rw [q1, hw]
    · have et : rsTell x (repV M (rsAcc 5 2 0 0 x)) = ⟨3, 2, false, x.word, x.ver, x.node⟩ := by rw [er]; simp [rsTell, hx, hve]
      rw [et, eD]
      exact ⟨(fun e => by cases e), ⟨hlen, hv, (fun e => by cases e), (fun e => by cases e), (fun e => by cases e), (fun e => by cases e), (fun e => by cases e)⟩⟩
  · have hx : x.at_ = 3 := hat
    have ea : rsAcc 5 2 0 0 x = ⟨4, 0, 0, x.word, blockZ, opZ⟩ := by simp [rsAcc, hx]
    have eD : (doV M (rsAcc 5 2 0 0 x)).L = M.L := by rw [ea]; rfl
    have hs := h.su3 h0 (by omega)
    have hv : VB M.L (n + 1) := fun p hp => by have := h.vb p hp; omega
    have et : rsTell x (repV M (rsAcc 5 2 0 0 x)) = ⟨4, if (repV M (rsAcc 5 2 0 0 x)).ok = true ∧ (repV M (rsAcc 5 2 0 0 x)).block.kind = 1 then 4 else 3, false, x.word, x.ver, (repV M (rsAcc 5 2 0 0 x)).block.node⟩ := by simp [rsTell, hx]
    rw [et, eD]
    have hne : ∀ (c : Prop) [Decidable c], (if c then (4 : Int) else 3) ≠ 0 := fun c _ => by split <;> decide
    refine ⟨(fun e => by cases e), ⟨hlen, hv, fun e => absurd e (hne _), fun e => absurd e (hne _), fun e => absurd e (hne _), fun e => absurd e (hne _), fun _ => ?_⟩⟩
    show (if false = true then _ else sure) = x.word
    rw [if_neg (by decide)]; exact hs
end Go.Proofs.Ytpempcefgfmniaa.MemP

/-
  read: Next, Tell, Known in any state, with any reply: contracts.
-/
namespace Go.Proofs.Ytpempcefgfmniaa.MemP
open Go.RowKit RefP CellP Dp
set_option linter.unusedVariables false
set_option linter.unusedSimpArgs false
end Go.Proofs.Ytpempcefgfmniaa.MemP

/-
  The types of package api, opened: what a law's arguments of these types are.
-/
namespace Go.Proofs.Ytpempcefgfmniaa.Dp
open Go.RowKit RefP
set_option linter.unusedVariables false
set_option linter.unusedSimpArgs false
structure Ox (P : Program) (t : TypeId) {α : Type} (C : Cod α) : Prop where
  out : ∀ (H : Type) (enc : TypeId × Value → H) (w : World) (base : Nat) (sp : Nat → Bool) (held : Bool) (fuel : Nat) (cs : List Value) (y : DataW H × List MemPlace), DataW.trod enc P w base sp held fuel t cs = some y → ∃ x, C.rep w [] cs x
structure OxAt (P : Program) (fs : List Field) (off : Nat) {α : Type} (C : Cod α) : Prop where
  out : ∀ (H : Type) (enc : TypeId × Value → H) (w : World) (base : Nat) (sp : Nat → Bool) (held : Bool) (fuel : Nat) (cs : List Value), cs.length = off + C.k →
    (∀ f ∈ fs, ∃ y, DataW.trod enc P w base sp held fuel f.type ((cs.drop f.offset).take (P.cellsOf f.type)) = some y) → ∃ x, C.rep w [] (cs.drop off) x
theorem ox_int {P : Program} {t : TypeId} {k : IntKind} (ht : P.underlying t = some (.int k)) : Ox P t (intC k) := ⟨fun H enc w base sp held fuel cs y h => opens_int ht enc w base sp held fuel cs y h⟩
theorem ox_bool {P : Program} {t : TypeId} (ht : P.underlying t = some .bool) : Ox P t boolC := ⟨fun H enc w base sp held fuel cs y h => opens_bool ht enc w base sp held fuel cs y h⟩
theorem ox_str {P : Program} {t : TypeId} (ht : P.underlying t = some .string) : Ox P t strC := ⟨fun H enc w base sp held fuel cs y h => opens_str ht enc w base sp held fuel cs y h⟩
theorem ox_nil {P : Program} {off : Nat} : OxAt P [] off unitC := ⟨fun H enc w base sp held fuel cs hl h => opens_nil enc w base sp held fuel cs hl h⟩
theorem ox_cons {P : Program} {f : Field} {fs : List Field} {off : Nat} {α β : Type} {A : Cod α} {B : Cod β} (ho : f.offset = off) (hk : P.cellsOf f.type = A.k) (hA : Ox P f.type A) (hB : OxAt P fs (off + A.k) B) : OxAt P (f :: fs) off (pairC A B) := by
  refine ⟨fun H enc w base sp held fuel cs hl h => ?_⟩
  obtain ⟨y, hy⟩ := h f (by simp)
  rw [ho, hk] at hy
  obtain ⟨x, hx⟩ := hA.out H enc w base sp held fuel _ y hy
  obtain ⟨z, hz⟩ := hB.out H enc w base sp held fuel cs (by rw [hl]; show off + (A.k + B.k) = _; omega) (fun g hg => h g (by simp [hg]))
  refine ⟨(x, z), _, _, ?_, hx, hz⟩
  rw [← List.drop_drop, List.take_append_drop]
theorem ox_struct {P : Program} {t : TypeId} {fs : Array Field} {α : Type} {C : Cod α} (ht : P.underlying t = some (.struct fs)) (hk : P.cellsOf t = C.k) (h : OxAt P fs.toList 0 C) : Ox P t C := by
  refine ⟨fun H enc w base sp held fuel cs y hy => ?_⟩
  obtain ⟨xs, n, _, _, hl, hxs, hf⟩ := DataW.trod_struct ht hy
  obtain ⟨x, hx⟩ := h.out H enc w base sp held n cs (by omega) (fun f hfm => by
    obtain ⟨i, hi, rfl⟩ := List.getElem_of_mem hfm
    have hi' : i < fs.size := by simpa using hi
    have := hf i fs[i] (by simp [hi'])
    rw [List.getElem?_eq_getElem (by omega)] at this
    exact ⟨_, this⟩)
  exact ⟨x, by simpa using hx⟩
theorem ox_iso {P : Program} {t : TypeId} {α β : Type} {C : Cod α} (f : β → α) (g : α → β) (hg : ∀ x, f (g x) = x) (h : Ox P t C) : Ox P t (isoC C f) := by
  refine ⟨fun H enc w base sp held fuel cs y hy => ?_⟩
  obtain ⟨x, hx⟩ := h.out H enc w base sp held fuel cs y hy
  exact ⟨g x, by show C.rep w [] cs (f (g x)); rw [hg]; exact hx⟩
theorem ox_opens {P : Program} {t : TypeId} {α : Type} {C : Cod α} (h : Ox P t C) : Opens P t C := by
  intro H enc w base sp held fuel cs y hy
  exact h.out H enc w base sp held fuel cs y hy
theorem ox_row {P : Program} {t e : TypeId} {α : Type} {E : Cod α} (ht : P.underlying t = some (.slice e)) (hk : P.cellsOf e = E.k) (hpos : 0 < E.k) (h : Ox P e E) : Ox P t (rowC E) := by
  refine ⟨fun H enc w base sp held fuel cs y hy => ?_⟩
  have := @opens_row P t e α E ht hk hpos (by intro H enc w base sp held fuel cs y hy; exact h.out H enc w base sp held fuel cs y hy) H enc w base sp held fuel cs y hy
  exact this
theorem op_str : Ox Try.prog 9 strC := ox_str Try.underlying9
theorem op_u64 : Ox Try.prog 22 u64C := ox_int Try.underlying22
theorem op_i64 : Ox Try.prog 3 i64C := ox_int Try.underlying3
theorem op_bool : Ox Try.prog 4 boolC := ox_bool Try.underlying4
theorem op_strs : Ox Try.prog 23 (rowC strC) := ox_row Try.underlying23 (by kernel_rfl) (by decide) op_str
theorem op_u64s : Ox Try.prog 24 (rowC u64C) := ox_row Try.underlying24 (by kernel_rfl) (by decide) op_u64
theorem op_i64s : Ox Try.prog 25 (rowC i64C) := ox_row Try.underlying25 (by kernel_rfl) (by decide) op_i64
theorem op_pair : Ox Try.prog 64 pairT := ox_iso _ (fun p => ⟨p.1, p.2.1⟩) (fun _ => rfl) (ox_struct Try.underlying64 (by kernel_rfl)
  (ox_cons rfl (by kernel_rfl) op_str (ox_cons rfl (by kernel_rfl) op_u64 ox_nil)))
theorem op_pairs : Ox Try.prog 28 (rowC pairT) := ox_row Try.underlying28 (by kernel_rfl) (by decide) op_pair
theorem op_step : Ox Try.prog 94 stepT := ox_iso _ (fun p => ⟨p.1, p.2.1, p.2.2.1, p.2.2.2.1, p.2.2.2.2.1⟩) (fun _ => rfl) (ox_struct Try.underlying94 (by kernel_rfl)
  (ox_cons rfl (by kernel_rfl) op_i64 (ox_cons rfl (by kernel_rfl) op_u64 (ox_cons rfl (by kernel_rfl) op_u64 (ox_cons rfl (by kernel_rfl) op_u64 (ox_cons rfl (by kernel_rfl) op_bool ox_nil))))))
theorem op_steps : Ox Try.prog 31 (rowC stepT) := ox_row Try.underlying31 (by kernel_rfl) (by decide) op_step
theorem op_node : Ox Try.prog 27 nodeT := ox_iso _ (fun p => ⟨p.1, p.2.1, p.2.2.1, p.2.2.2.1, p.2.2.2.2.1, p.2.2.2.2.2.1, p.2.2.2.2.2.2.1, p.2.2.2.2.2.2.2.1⟩) (fun _ => rfl) (ox_struct Try.underlying27 (by kernel_rfl)
  (ox_cons rfl (by kernel_rfl) op_i64 (ox_cons rfl (by kernel_rfl) op_str (ox_cons rfl (by kernel_rfl) op_str (ox_cons rfl (by kernel_rfl) op_bool (ox_cons rfl (by kernel_rfl) op_i64 (ox_cons rfl (by kernel_rfl) op_strs (ox_cons rfl (by kernel_rfl) op_u64s (ox_cons rfl (by kernel_rfl) op_i64s ox_nil)))))))))
theorem op_ans : Ox Try.prog 30 ansT := ox_iso _ (fun p => ⟨p.1, p.2.1, p.2.2.1, p.2.2.2.1⟩) (fun _ => rfl) (ox_struct Try.underlying30 (by kernel_rfl)
  (ox_cons rfl (by kernel_rfl) op_i64 (ox_cons rfl (by kernel_rfl) op_str (ox_cons rfl (by kernel_rfl) op_u64 (ox_cons rfl (by kernel_rfl) op_pairs ox_nil)))))
theorem op_plan : Ox Try.prog 33 planT := ox_iso _ (fun p => ⟨p.1, p.2.1, p.2.2.1, p.2.2.2.1⟩) (fun _ => rfl) (ox_struct Try.underlying33 (by kernel_rfl)
  (ox_cons rfl (by kernel_rfl) op_i64 (ox_cons rfl (by kernel_rfl) op_ans (ox_cons rfl (by kernel_rfl) op_steps (ox_cons rfl (by kernel_rfl) op_u64s ox_nil)))))
theorem op_block : Ox Try.prog 35 blockT := ox_iso _ (fun p => ⟨p.1, p.2.1, p.2.2.1, p.2.2.2.1⟩) (fun _ => rfl) (ox_struct Try.underlying35 (by kernel_rfl)
  (ox_cons rfl (by kernel_rfl) op_i64 (ox_cons rfl (by kernel_rfl) op_node (ox_cons rfl (by kernel_rfl) op_plan (ox_cons rfl (by kernel_rfl) op_pairs ox_nil)))))
theorem op_op : Ox Try.prog 37 opT := ox_iso _ (fun p => ⟨p.1, p.2.1, p.2.2.1, p.2.2.2.1, p.2.2.2.2.1⟩) (fun _ => rfl) (ox_struct Try.underlying37 (by kernel_rfl)
  (ox_cons rfl (by kernel_rfl) op_i64 (ox_cons rfl (by kernel_rfl) op_str (ox_cons rfl (by kernel_rfl) op_str (ox_cons rfl (by kernel_rfl) op_u64 (ox_cons rfl (by kernel_rfl) op_i64 ox_nil))))))
theorem op_acc : Ox Try.prog 39 accT := ox_iso _ (fun p => ⟨p.1, p.2.1, p.2.2.1, p.2.2.2.1, p.2.2.2.2.1, p.2.2.2.2.2.1⟩) (fun _ => rfl) (ox_struct Try.underlying39 (by kernel_rfl)
  (ox_cons rfl (by kernel_rfl) op_i64 (ox_cons rfl (by kernel_rfl) op_i64 (ox_cons rfl (by kernel_rfl) op_u64 (ox_cons rfl (by kernel_rfl) op_u64 (ox_cons rfl (by kernel_rfl) op_block (ox_cons rfl (by kernel_rfl) op_op ox_nil)))))))
theorem op_accs : Ox Try.prog 41 (rowC accT) := ox_row Try.underlying41 (by kernel_rfl) (by decide) op_acc
end Go.Proofs.Ytpempcefgfmniaa.Dp

/-
  The types of package api, opened, with the form's bound on how large a slice that came in is.
-/
namespace Go.Proofs.Ytpempcefgfmniaa.Dp
open Go.ChangeShapes Go.WideShapes Go.ChangeAt Go.RowKit Go.Joins Go.Deep RefP
set_option linter.unusedVariables false
set_option linter.unusedSimpArgs false
structure Oz (P : Program) (t : TypeId) {α : Type} (C : Cod α) (Sm : α → Prop) : Prop where
  out : ∀ (H : Type) (enc : TypeId × Value → H) (w : World) (base : Nat) (sp : Nat → Bool) (held : Bool) (fuel : Nat) (cs : List Value) (y : DataW H × List MemPlace), DataW.trod enc P w base sp held fuel t cs = some y → (∀ n ∈ y.1.weights P t, n ≤ reachBytes) → ∃ x, C.rep w [] cs x ∧ Sm x
structure OzAt (P : Program) (fs : List Field) (off : Nat) {α : Type} (C : Cod α) (Sm : α → Prop) : Prop where
  out : ∀ (H : Type) (enc : TypeId × Value → H) (w : World) (base : Nat) (sp : Nat → Bool) (held : Bool) (fuel : Nat) (cs : List Value), cs.length = off + C.k →
    (∀ f ∈ fs, ∃ y, DataW.trod enc P w base sp held fuel f.type ((cs.drop f.offset).take (P.cellsOf f.type)) = some y ∧ ∀ n ∈ y.1.weights P f.type, n ≤ reachBytes) → ∃ x, C.rep w [] (cs.drop off) x ∧ Sm x
theorem oz_leaf {P : Program} {t : TypeId} {α : Type} {C : Cod α} (h : Ox P t C) : Oz P t C (fun _ => True) := ⟨fun H enc w base sp held fuel cs y hy _ => by
  obtain ⟨x, hx⟩ := h.out H enc w base sp held fuel cs y hy
  exact ⟨x, hx, trivial⟩⟩
theorem oz_nil {P : Program} {off : Nat} : OzAt P [] off unitC (fun _ => True) := ⟨fun H enc w base sp held fuel cs hl h => by
  obtain ⟨x, hx⟩ := (ox_nil (P := P) (off := off)).out H enc w base sp held fuel cs hl (fun f hf => by cases hf)
  exact ⟨x, hx, trivial⟩⟩
theorem oz_cons {P : Program} {f : Field} {fs : List Field} {off : Nat} {α β : Type} {A : Cod α} {B : Cod β} {SA : α → Prop} {SB : β → Prop} (ho : f.offset = off) (hk : P.cellsOf f.type = A.k) (hA : Oz P f.type A SA) (hB : OzAt P fs (off + A.k) B SB) : OzAt P (f :: fs) off (pairC A B) (fun x => SA x.1 ∧ SB x.2) := by
  refine ⟨fun H enc w base sp held fuel cs hl h => ?_⟩
  obtain ⟨y, hy, hz⟩ := h f (by simp)
  rw [ho, hk] at hy
  obtain ⟨x, hx, sx⟩ := hA.out H enc w base sp held fuel _ y hy hz
  obtain ⟨z, hz, sz⟩ := hB.out H enc w base sp held fuel cs (by rw [hl]; show off + (A.k + B.k) = _; omega) (fun g hg => h g (by simp [hg]))
  refine ⟨(x, z), ⟨_, _, ?_, hx, hz⟩, sx, sz⟩
  rw [← List.drop_drop, List.take_append_drop]
theorem oz_struct {P : Program} {t : TypeId} {fs : Array Field} {α : Type} {C : Cod α} {Sm : α → Prop} (ht : P.underlying t = some (.struct fs)) (hk : P.cellsOf t = C.k) (h : OzAt P fs.toList 0 C Sm) : Oz P t C Sm := by
  refine ⟨fun H enc w base sp held fuel cs y hy hz => ?_⟩
  obtain ⟨xs, n, _, rfl, hl, hxs, hf⟩ := DataW.trod_struct ht hy
  obtain ⟨x, hx, sx⟩ := h.out H enc w base sp held n cs (by omega) (fun f hfm => by
    obtain ⟨i, hi, rfl⟩ := List.getElem_of_mem hfm
    have hi' : i < fs.size := by simpa using hi
    have h1 := hf i fs[i] (by simp [hi'])
    rw [List.getElem?_eq_getElem (by omega)] at h1
    refine ⟨_, by simpa using h1, fun m hm => hz m ?_⟩
    simp only [DataW.weights, ht]
    exact DataW.weights_mem_each (j := i) (t := fs[i].type) (d := (xs[i]'(by omega)).1) (by simp [hi']) (by simp [show i < xs.length by omega]) m (by simpa using hm))
  exact ⟨x, by simpa using hx, sx⟩
theorem oz_iso {P : Program} {t : TypeId} {α β : Type} {C : Cod α} {Sm : α → Prop} (f : β → α) (g : α → β) (hg : ∀ x, f (g x) = x) (h : Oz P t C Sm) : Oz P t (isoC C f) (fun x => Sm (f x)) := by
  refine ⟨fun H enc w base sp held fuel cs y hy hz => ?_⟩
  obtain ⟨x, hx, sx⟩ := h.out H enc w base sp held fuel cs y hy hz
  exact ⟨g x, by show C.rep w [] cs (f (g x)); rw [hg]; exact hx, by rw [hg]; exact sx⟩
theorem weights_all_mem {H : Type} {P : Program} {e : TypeId} : ∀ {l : List (DataW H)} {d : DataW H}, d ∈ l → ∀ n ∈ d.weights P e, n ∈ DataW.weightsAll P e l
  | d0 :: l, d, hd, n, hn => by
    simp only [DataW.weightsAll, List.mem_append]
    rcases List.mem_cons.1 hd with rfl | hd
    · exact .inl hn
    · exact .inr (weights_all_mem hd n hn)
  | [], _, hd, _, _ => by cases hd
theorem oz_row {P : Program} {t e : TypeId} {α : Type} {E : Cod α} {SE : α → Prop} (B : Nat) (ht : P.underlying t = some (.slice e)) (hk : P.cellsOf e = E.k) (hB : P.bytesOf e = B) (hpos : 0 < E.k) (h : Oz P e E SE) : Oz P t (rowC E) (fun xs => xs.length * B ≤ reachBytes ∧ ∀ x ∈ xs, SE x) := by
  refine ⟨fun H enc w base sp held fuel cs y hy hz => ?_⟩
  rcases Go.Deep.open_slice ht hy with ⟨rfl, _⟩ | ⟨a, len, cap, m, n, D, Pl, rfl, hb, hl, hm, hmm, rfl, hi⟩
  · exact ⟨[], ⟨none, 0, rfl, Nat.le_refl _, Nat.zero_le _, RowRep.nil _ _ _ _⟩, by simp, by simp⟩
  · simp only [DataW.weights, ht, hB, List.length_map, List.length_range] at hz
    have hzl : len * B ≤ reachBytes := by
      have h1 := hz _ (List.mem_cons_self ..)
      exact Nat.le_trans (Nat.mul_le_mul_right _ (Nat.le_add_right _ _)) h1
    have hE : ∀ i, i < len → ∃ x, SE x ∧ ∃ cs', E.rep w [] cs' x ∧ ∀ j v, cs'[j]? = some v → w.cell? (a.add (i * E.k + j)) = some v := by
      intro i hil
      obtain ⟨cs', hc, ht'⟩ := hi i (by rw [hmm]; split <;> omega)
      obtain ⟨x, hx, sx⟩ := h.out H enc w base sp held n cs' _ ht' (fun q hq => hz q (List.mem_cons_of_mem _ (List.mem_append_left _ (weights_all_mem (d := D i) (by simp; exact ⟨i, hil, rfl⟩) q hq))))
      rw [hk] at hc
      obtain ⟨_, hcl, hat⟩ := World.cells?_some hc
      refine ⟨x, sx, cs', hx, fun j v hj => ?_⟩
      have hj' : j < E.k := by
        rw [← hcl]
        exact (List.getElem?_eq_some_iff.1 hj).1
      rw [← Go.Deep.add_add, hat j hj', hj]
    obtain ⟨xs, hxl, hxs⟩ := list_of_get len _ hE
    refine ⟨xs, ⟨some a, cap, by rw [hxl], by rw [hxl]; exact hl, hm, fun h0 => ?_⟩, by rw [hxl]; exact hzl, fun x hx => ?_⟩
    · obtain ⟨_, cs0, hr0, hc0⟩ := hxs 0 (xs[0]'h0) (List.getElem?_eq_getElem h0)
      have hk0 := E.len hr0
      have hc00 := hc0 0 (cs0[0]'(by omega)) (List.getElem?_eq_getElem (by omega))
      obtain ⟨b, off, spot⟩ := a
      have hspot : spot = none := by simpa [Addr.add] using World.cell?_spot hc00
      subst hspot
      have hadd : ∀ i, (⟨b, off, none⟩ : Addr).add i = ⟨b, off + i, none⟩ := by
        intro i
        unfold Addr.add
        by_cases h : i = 0 <;> simp [h]
      rw [hadd] at hc00
      refine ⟨b, off, rfl, block_lt_of_cell hc00, by simp, fun i x hx => ?_⟩
      obtain ⟨_, cs', hr, hc⟩ := hxs i x hx
      refine ⟨cs', hr, fun j v hj => ?_⟩
      have := hc j v hj
      rw [hadd, ← Nat.add_assoc] at this
      exact this
    · obtain ⟨i, hi, rfl⟩ := List.getElem_of_mem hx
      exact (hxs i _ (List.getElem?_eq_getElem hi)).1
abbrev TT {α : Type} (_ : α) : Prop := True
theorem oz_i64 : Oz Try.prog 3 i64C TT := oz_leaf op_i64
theorem oz_u64 : Oz Try.prog 22 u64C TT := oz_leaf op_u64
theorem oz_str : Oz Try.prog 9 strC TT := oz_leaf op_str
theorem oz_bool : Oz Try.prog 4 boolC TT := oz_leaf op_bool
abbrev SmR {α : Type} (B : Nat) (xs : List α) : Prop := xs.length * B ≤ reachBytes ∧ ∀ x ∈ xs, TT x
theorem oz_pairs : Oz Try.prog 28 (rowC pairT) (SmR 24) := oz_row 24 Try.underlying28 (by kernel_rfl) (by kernel_rfl) (by decide) (oz_leaf op_pair)
theorem oz_steps : Oz Try.prog 31 (rowC stepT) (SmR 40) := oz_row 40 Try.underlying31 (by kernel_rfl) (by kernel_rfl) (by decide) (oz_leaf op_step)
theorem oz_words : Oz Try.prog 24 (rowC u64C) (SmR 8) := oz_row 8 Try.underlying24 (by kernel_rfl) (by kernel_rfl) (by decide) oz_u64
theorem oz_weak {P : Program} {t : TypeId} {α : Type} {C : Cod α} {Sm Sm' : α → Prop} (h : Oz P t C Sm) (k : ∀ x, Sm x → Sm' x) : Oz P t C Sm' := ⟨fun H enc w base sp held fuel cs y hy hz => by
  obtain ⟨x, hx, sx⟩ := h.out H enc w base sp held fuel cs y hy hz
  exact ⟨x, hx, k x sx⟩⟩
theorem oz_ans : Oz Try.prog 30 ansT (fun x => x.pairs.length * 24 ≤ reachBytes) := oz_weak (oz_iso _ (fun p => ⟨p.1, p.2.1, p.2.2.1, p.2.2.2.1⟩) (fun _ => rfl) (oz_struct Try.underlying30 (by kernel_rfl)
  (oz_cons rfl (by kernel_rfl) oz_i64 (oz_cons rfl (by kernel_rfl) oz_str (oz_cons rfl (by kernel_rfl) oz_u64 (oz_cons rfl (by kernel_rfl) oz_pairs oz_nil)))))) (fun x h => h.2.2.2.1.1)
theorem oz_plan : Oz Try.prog 33 planT (fun x => x.ans.pairs.length * 24 ≤ reachBytes) := oz_weak (oz_iso _ (fun p => ⟨p.1, p.2.1, p.2.2.1, p.2.2.2.1⟩) (fun _ => rfl) (oz_struct Try.underlying33 (by kernel_rfl)
  (oz_cons rfl (by kernel_rfl) oz_i64 (oz_cons rfl (by kernel_rfl) oz_ans (oz_cons rfl (by kernel_rfl) oz_steps (oz_cons rfl (by kernel_rfl) oz_words oz_nil)))))) (fun x h => h.2.1)
/-- few pairs, as the form bounds them -/
structure SmB (x : BlockV) : Prop where
  ans : x.plan.ans.pairs.length * 24 ≤ reachBytes
  pairs : x.pairs.length * 24 ≤ reachBytes
theorem oz_block : Oz Try.prog 35 blockT SmB := oz_weak (oz_iso _ (fun p => ⟨p.1, p.2.1, p.2.2.1, p.2.2.2.1⟩) (fun _ => rfl) (oz_struct Try.underlying35 (by kernel_rfl)
  (oz_cons rfl (by kernel_rfl) oz_i64 (oz_cons rfl (by kernel_rfl) (oz_leaf op_node) (oz_cons rfl (by kernel_rfl) oz_plan (oz_cons rfl (by kernel_rfl) oz_pairs oz_nil)))))) (fun x h => ⟨h.2.2.1, h.2.2.2.1.1⟩)
theorem oz_op : Oz Try.prog 37 opT (fun _ => True) := oz_leaf op_op
theorem oz_acc : Oz Try.prog 39 accT (fun x => SmB x.block) := oz_weak (oz_iso _ (fun p => ⟨p.1, p.2.1, p.2.2.1, p.2.2.2.1, p.2.2.2.2.1, p.2.2.2.2.2.1⟩) (fun _ => rfl) (oz_struct Try.underlying39 (by kernel_rfl)
  (oz_cons rfl (by kernel_rfl) oz_i64 (oz_cons rfl (by kernel_rfl) oz_i64 (oz_cons rfl (by kernel_rfl) oz_u64 (oz_cons rfl (by kernel_rfl) oz_u64 (oz_cons rfl (by kernel_rfl) oz_block (oz_cons rfl (by kernel_rfl) oz_op oz_nil)))))))) (fun x h => h.2.2.2.2.1)
theorem oz_accs : Oz Try.prog 41 (rowC accT) (fun xs => ∀ x ∈ xs, SmB x.block) := oz_weak (oz_row _ Try.underlying41 (by kernel_rfl) rfl (by decide) oz_acc) (fun x h => h.2)
theorem sized_arg {H : Type} {P : Program} {ts vs : List TypeId} {ds gs : List (DataW H)} (hz : (DataW.weightsEach P (ts ++ vs) (ds ++ gs)).all (· ≤ reachBytes) = true) {j : Nat} {t : TypeId} {d : DataW H} (ht : ts[j]? = some t) (hd : ds[j]? = some d) : ∀ n ∈ d.weights P t, n ≤ reachBytes := fun n hn => by
  have h1 := (List.getElem?_eq_some_iff.1 ht).1
  have h2 := (List.getElem?_eq_some_iff.1 hd).1
  have := List.all_eq_true.1 hz n (DataW.weights_mem_each (j := j) (t := t) (d := d) (by rw [List.getElem?_append_left h1]; exact ht) (by rw [List.getElem?_append_left h2]; exact hd) n hn)
  simpa using this
/-- an argument that is a struct, by value, or a slice -/
theorem oz_agg {P : Program} {t : TypeId} {α : Type} {C : Cod α} {Sm : α → Prop} (h : Oz P t C Sm) {H : Type} {enc : TypeId × Value → H} {W : World} {base base' : Nat} {sp : Nat → Bool} {held : Bool} {v : Value} {d : DataW H} {p : List MemPlace} {fs : Array Field} (ht : P.underlying t = some (.struct fs))
    (hv : Value.okWide P W .any base t v) (hd : DataW.Trod enc P W base' sp held t v d p) (hz : ∀ n ∈ d.weights P t, n ≤ reachBytes) : ∃ cs x, v = .agg cs ∧ C.rep W [] cs.toList x ∧ Sm x := by
  rw [Value.okWide] at hv
  rw [ht] at hv
  obtain ⟨cs, rfl, _, _⟩ := hv
  obtain ⟨fuel, hf⟩ := hd
  obtain ⟨x, hx, sx⟩ := h.out H enc W base' sp held fuel _ _ hf hz
  exact ⟨cs, x, rfl, by simpa [Value.cells] using hx, sx⟩
theorem oz_slice {P : Program} {t e : TypeId} {α : Type} {E : Cod α} {Sm : List α → Prop} (h : Oz P t (rowC E) Sm) {H : Type} {enc : TypeId × Value → H} {W : World} {base base' : Nat} {sp : Nat → Bool} {held : Bool} {v : Value} {d : DataW H} {p : List MemPlace} (ht : P.underlying t = some (.slice e))
    (hv : Value.okWide P W .any base t v) (hd : DataW.Trod enc P W base' sp held t v d p) (hz : ∀ n ∈ d.weights P t, n ≤ reachBytes) : ∃ a c xs, v = .slice a xs.length c ∧ xs.length ≤ c ∧ xs.length ≤ maxLen ∧ RowRep E W [] a xs ∧ Sm xs := by
  obtain ⟨a0, len, cap, rfl⟩ := okWide_slice ht hv
  obtain ⟨fuel, hf⟩ := hd
  obtain ⟨xs, ⟨a, c, e1, h1, h2, h3⟩, sx⟩ := h.out H enc W base' sp held fuel _ _ hf hz
  simp [Value.cells] at e1
  obtain ⟨rfl, rfl, rfl⟩ := e1
  exact ⟨a0, cap, xs, rfl, h1, Nat.le_trans h1 h2, h3, sx⟩
end Go.Proofs.Ytpempcefgfmniaa.Dp

/-
  A memory that was made and told some accesses, and a task of reading beside it.
-/
namespace Go.Proofs.Ytpempcefgfmniaa.MemP
open Go.RowKit RefP CellP Dp
set_option linter.unusedVariables false
set_option linter.unusedSimpArgs false
theorem few_of {x : AccV} (h : lightA x = true) (s : SmB x.block) : Few x.block := by
  have hr : reachBytes = 0x7ffffffff000 := rfl
  have s1 := s.ans
  have s2 := s.pairs
  simp only [lightA, lightN, Bool.and_eq_true, decide_eq_true_eq, List.all_eq_true] at h
  obtain ⟨⟨h1, h2, h3, h4, _⟩, h5, h6, h7⟩ := h
  have hs : (x.block.pairs.length : Int) + x.block.plan.ans.pairs.length ≤ 60 := by
    rw [sumW, IntKind.wrap_i64] at h7; omega
  exact ⟨by omega, by omega, by omega, by omega, by omega, by omega, by omega⟩
theorem few_all {xs : List AccV} (h : lightL xs = true) (s : ∀ x ∈ xs, SmB x.block) : ∀ x ∈ xs, Few x.block := by
  simp only [lightL, Bool.and_eq_true, List.all_eq_true] at h
  exact fun x hx => few_of (h.1 x hx) (s x hx)
theorem light_len {xs : List AccV} (h : lightL xs = true) : xs.length ≤ 60 := by
  simp only [lightL, Bool.and_eq_true, decide_eq_true_eq] at h
  exact h.2
/-- what a new memory has -/
def newV (A T : Nat) (gen : Int) : MemV := ⟨A, T, freshL A T gen, (List.replicate A blockZ).set 0 blockE, List.replicate T opZ⟩
theorem new_is {w : World} {o oc g gb gr A T : Nat} {gen : Int} (h : MemAt w o oc g gb gr A T (freshL A T gen) ((List.replicate A zb).set 0 eb) (List.replicate T zo)) : MemIs w (MemId.own ⟨o, oc, g, gb, gr⟩) ⟨o, oc, g, gb, gr⟩ (newV A T gen) := by
  refine ⟨⟨(List.replicate A zb).set 0 eb, ?_, fun i hi => ?_⟩, by simp [newV], fun x hx => ?_, fun b hb => hb⟩
  · show MemAt w o oc g gb gr A T (freshL A T gen) ((List.replicate A zb).set 0 eb) ((List.replicate T opZ).map opL)
    rw [List.map_replicate]
    exact h
  · have hi' : i < A := hi
    show IsB w _ (((List.replicate A zb).set 0 eb).getD i []) (((List.replicate A blockZ).set 0 blockE).getD i blockZ)
    by_cases h0 : i = 0
    · subst h0
      simp only [List.getD_eq_getElem?_getD, List.getElem?_set_self', List.getElem?_replicate, if_pos hi']
      exact isB_eb w _
    · simp only [List.getD_eq_getElem?_getD, List.getElem?_set_ne (show 0 ≠ i by omega), List.getElem?_replicate, if_pos hi']
      exact isB_zb w _
  · have : x = opZ := (List.mem_replicate.1 hx).2
    rw [this]; exact opZ_ok
theorem fresh_vb (A T : Nat) (gen : Int) : VB (freshL A T gen) 0 := by
  intro p hp
  simp only [freshL, List.mem_map] at hp
  obtain ⟨i, _, rfl⟩ := hp
  simp
/-- a memory, told accesses -/
structure MStep (w0 wr : World) (m : MemId) (M : MemV) (n : Nat) : Prop where
  b : Below w0.heap.size w0 wr
  mem : MemIs wr m.own m M
  sh : M.A = 5 ∧ M.T = 2 ∧ M.L.length = 21
  vb : VB M.L n
  lo : ∀ b ∈ m.own, w0.heap.size ≤ b
theorem MStep.under {w0 wr wx : World} {m : MemId} {M : MemV} {n : Nat} (h : MStep w0 wr m M n) (hb : Below wr.heap.size wr wx) : MStep w0 wx m M n :=
  ⟨below_push2 h.b hb (Nat.le_refl _), h.mem.below hb, h.sh, h.vb, h.lo⟩
theorem did_lo {m : MemId} {B : Nat} (h : ∀ b ∈ m.own, B ≤ b) : ∀ b ∈ [m.g, m.gb, m.gr], B ≤ b := by
  simp only [MemId.own, List.mem_cons, List.not_mem_nil, or_false, forall_eq_or_imp, forall_eq] at h ⊢
  exact ⟨h.2.2.1, h.2.2.2.1, h.2.2.2.2⟩
theorem MStep.did {w0 wr wx : World} {m : MemId} {M : MemV} {n : Nat} {a : AccV} {e : Ending} (h : MStep w0 wr m M n) (hn : n ≤ 100000) (d : Did wr m.own m M a e wx) : MStep w0 wx m (doV M a) (n + 1) :=
  ⟨d.fr.below h.b (Nat.le_refl _) (did_lo h.lo), d.mem, by rw [(doV_A M a).1, (doV_A M a).2, doV_len]; exact h.sh, h.vb.step hn a, h.lo⟩
/-- the cells of a task of reading -/
abbrev rdX (m : Option Addr) (th cell : Int) (x : RS) (q : NodeH) : Array Value := rdA m th x.at_ x.st x.su cell x.word x.ver (.int .i64 x.node.level) (.string x.node.low) (.string x.node.high) (.bool x.node.last) (.int .i64 x.node.next) (.slice q.keys.a x.node.keys.length q.keys.c) (.slice q.vals.a x.node.vals.length q.vals.c) (.slice q.kids.a x.node.kids.length q.kids.c)
theorem NodeOk.more' {w : World} {S S' : List Nat} {q : NodeH} {x : NodeV} (h : NodeOk w S q x) (k : ∀ b ∈ S', b ∈ S ∨ w.heap.size ≤ b) : NodeOk w S' q x := ⟨h.level, h.low, h.high, h.next, h.keys.more k, h.vals.more k, h.kids.more k⟩
theorem RepOk.keep {w w' : World} {S : List Nat} {q : BlockH} {r : ReplyV} (h : RepOk w S q r) (k : Keeps S w w') : RepOk w' S q r := ⟨h.word, h.ver, h.block.keep k, h.few, h.op⟩
theorem RepOk.more {w : World} {S S' : List Nat} {q : BlockH} {r : ReplyV} (h : RepOk w S q r) (k : ∀ b ∈ S', b ∈ S ∨ w.heap.size ≤ b) : RepOk w S' q r := ⟨h.word, h.ver, h.block.more k, h.few, h.op⟩
/-- the task's own access: its reply -/
theorem rs_rep {M : MemV} {A T : Nat} {th cell : Int} {x : RS} (hx : x.at_ ≠ 3) : (rsAcc A T th cell x).kind ≠ 4 ∧ (repV M (rsAcc A T th cell x)).block = blockZ ∧ (repV M (rsAcc A T th cell x)).op = opZ := by
  by_cases h1 : x.at_ = 1
  · have e : rsAcc A T th cell x = ⟨2, hazI A T th 1, 0, x.word, blockZ, opZ⟩ := by simp [rsAcc, h1]
    rw [e]; refine ⟨by simp, ?_, ?_⟩ <;> simp [repV]
  · have e : rsAcc A T th cell x = ⟨1, atI A T 0 cell, 0, 0, blockZ, opZ⟩ := by simp [rsAcc, h1, hx]
    rw [e]; refine ⟨by simp, ?_, ?_⟩ <;> simp [repV]
theorem rs_ok {w : World} {A T : Nat} {th cell : Int} {x : RS} (hA : A ≤ 8192) (hT : T ≤ 16) (h1 : U64 x.word) : AccOk w [] nilH (rsAcc A T th cell x) := by
  have h0 : I64 (atI A T 0 cell) := by
    by_cases hc : 0 ≤ cell ∧ cell < sizeI A T 0
    · rw [atI_yes hc.1 hc.2]
      have h1 := hc.1
      have h2 : cell < (A : Int) := hc.2
      have h3 : fromI A T 0 = 0 := rfl
      rw [h3]; unfold I64; omega
    · rw [atI_no hc]; exact ⟨by decide, by decide⟩
  have h2 : I64 (hazI A T th 1) := by
    unfold hazI I64
    split <;> omega
  have b := blockZ_ok w []
  have i0 : ∀ k : Int, 0 ≤ k → k ≤ 10 → I64 k := fun k _ _ => by unfold I64; omega
  have u0 : U64 0 := ⟨by decide, by decide⟩
  unfold rsAcc
  split
  · exact ⟨i0 2 (by decide) (by decide), h2, u0, h1, b, opZ_ok⟩
  · split
    · exact ⟨i0 4 (by decide) (by decide), i0 0 (by decide) (by decide), u0, h1, b, opZ_ok⟩
    · exact ⟨i0 1 (by decide) (by decide), h0, u0, u0, b, opZ_ok⟩
theorem rs_few {A T : Nat} {th cell : Int} {x : RS} : Few (rsAcc A T th cell x).block := by
  unfold rsAcc
  split
  · exact fewZ
  · split <;> exact fewZ
end Go.Proofs.Ytpempcefgfmniaa.MemP

/-
  bowerref26.New: what lies in memory behind it: plain.
-/
namespace Go.Proofs.Ytpempcefgfmniaa.MemP
open Go.RowKit RefP CellP Dp
set_option linter.unusedVariables false
set_option linter.unusedSimpArgs false
def rawW (A T : Nat) (gen : Int) : List Int := List.replicate A 0 ++ List.replicate A (useI 0 gen) ++ List.replicate (5 * T + 1) 0
theorem rawW_length (A T : Nat) (gen : Int) : (rawW A T gen).length = 2 * A + 5 * T + 1 := by simp [rawW]; omega
theorem rawW_at {A T : Nat} {gen : Int} {i : Nat} (h : i < 2 * A + 5 * T + 1) : (rawW A T gen).getD i 0 = if A ≤ i ∧ i < 2 * A then useI 0 gen else 0 := by
  unfold rawW
  by_cases h1 : i < A
  · rw [if_neg (by omega)]
    simp [List.getD_eq_getElem?_getD, List.getElem?_append, h1, List.getElem?_replicate]
  · by_cases h2 : i < 2 * A
    · rw [if_pos (by omega)]
      simp [List.getD_eq_getElem?_getD, List.getElem?_append, h1, List.getElem?_replicate, show i < A + A by omega, show i - A < A by omega]
    · rw [if_neg (by omega)]
      simp only [List.getD_eq_getElem?_getD, List.getElem?_append, List.length_append, List.length_replicate, show ¬ i < A + A by omega, if_false, List.getElem?_replicate, show i - (A + A) < 5 * T + 1 by omega, if_true, Option.getD_some]
theorem gen_use {gen : Int} (g0 : 0 ≤ gen) (g1 : gen < 4294967295) : (0 ≤ useI 0 gen ∧ useI 0 gen ≤ 18446744073709551615) ∧ (0 ≤ useI 1 (gen + 1) ∧ useI 1 (gen + 1) ≤ 18446744073709551615) ∧ (0 ≤ packI 0 (gen + 1) ∧ packI 0 (gen + 1) ≤ 18446744073709551615) := by
  refine ⟨?_, ?_, ?_⟩
  · unfold useI topW; split <;> omega
  · unfold useI topW; split <;> omega
  · unfold packI; split <;> omega
theorem new_dmem {w' : World} {S : List Nat} {A T : Nat} {gen : Int} {b1 b2 c1 c2 c3 : Nat} {a3 : Option Addr} {cur1 cur2 : Array Value} {l1 : List Int} {l3 : List Unit} {T1 T2 : TypeId}
    (hA1 : 1 ≤ A) (hA2 : A ≤ 8192) (hT1 : 1 ≤ T) (hT2 : T ≤ 16) (g0 : 0 ≤ gen) (g1 : gen < 4294967295)
    (B1 : Blk w' b1 ((cur1.setIfInBounds (A * 2) (.int .u64 (useI 1 (gen + 1)))).setIfInBounds 0 (.int .u64 (packI 0 (gen + 1)))) T1)
    (hc1 : ∀ i, i < l1.length → ∀ j, j < 2 → cur1[i * 2 + j]? = some (cellG (l1.getD i 0) j)) (hl1 : l1 = rawW A T gen)
    (B2 : Blk w' b2 (sets' cur2 0 eb) T2) (hz2 : A * 17 ≤ cur2.size) (hc2 : ∀ i, i < A → ∀ j, j < 17 → cur2[i * 17 + j]? = some (blkG () j))
    (R3 : RecS 5 opG () w' a3 l3) (hl3 : l3.length = T) (hb1 : b1 ∉ S) (hb2 : b2 ∉ S) (hb3 : ∀ b off, a3 = some ⟨b, off, none⟩ → b ∉ S) :
    DMem w' S ⟨⟨some ⟨b1, 0, none⟩, c1⟩, ⟨some ⟨b2, 0, none⟩, c2⟩, ⟨a3, c3⟩⟩ (newV A T gen) := by
  obtain ⟨u1, u2, u3⟩ := gen_use g0 g1
  have hnx : nextV gen = gen + 1 := by unfold nextV; omega
  have hll : l1.length = 2 * A + 5 * T + 1 := by rw [hl1, rawW_length]
  refine ⟨?_, ?_, ?_, by simp [newV, freshL], by simp [newV], by simp [newV], ⟨hA1, hA2⟩, ⟨hT1, hT2⟩⟩
  · refine row_of_blk B1 hb1 (fun i x hx => ?_)
    have hi : i < 2 * A + 5 * T + 1 := by
      have := (List.getElem?_eq_some_iff.1 hx).1
      simpa [newV, freshL] using this
    have hx' : x = (freshW A T gen i, 0) := by
      have hx2 : (freshL A T gen)[i]? = some x := hx
      simp only [freshL, List.getElem?_map, List.getElem?_range hi, Option.map_some] at hx2
      exact (Option.some.inj hx2).symm
    have hw := rawW_at (gen := gen) hi
    rw [← hl1] at hw
    have r0 := hc1 i (by omega) 0 (by omega)
    have r1 := hc1 i (by omega) 1 (by omega)
    have hu : U64 (freshW A T gen i) := by
      unfold freshW U64
      rw [hnx]
      split
      · exact u3
      · split
        · exact u2
        · split
          · exact u1
          · omega
    subst hx'
    have hsz : i * 2 + 1 < cur1.size := by
      have := (Array.getElem?_eq_some_iff.1 r1).1
      exact this
    refine ⟨[.int .u64 (freshW A T gen i), .int .u64 0], cellT_mk (p := (freshW A T gen i, 0)) hu (show U64 0 by unfold U64; omega), fun j v hj => ?_⟩
    have hj2 : j < 2 := (List.getElem?_eq_some_iff.1 hj).1
    show ((cur1.setIfInBounds (A * 2) (.int .u64 (useI 1 (gen + 1)))).setIfInBounds 0 (.int .u64 (packI 0 (gen + 1))))[i * 2 + j]? = some v
    rw [Array.getElem?_setIfInBounds, Array.getElem?_setIfInBounds]
    obtain rfl | rfl : j = 0 ∨ j = 1 := by omega
    · simp only [List.getElem?_cons_zero, Option.some.injEq] at hj
      subst hj
      by_cases h0 : i = 0
      · rw [if_pos (by omega), if_pos (by first | omega | (simp only [Array.size_setIfInBounds]; omega))]
        simp [freshW, h0, hnx]
      · rw [if_neg (by omega)]
        by_cases hA : i = A
        · rw [if_pos (by omega), if_pos (by omega)]
          simp only [freshW, if_neg h0, if_pos hA, hnx]
        · rw [if_neg (by omega), r0, hw]
          simp only [freshW, if_neg h0, if_neg hA, cellG, if_true]
          by_cases hm : A ≤ i ∧ i < 2 * A
          · rw [if_pos hm, if_pos (by omega)]
          · rw [if_neg hm, if_neg (by omega)]
    · simp only [List.getElem?_cons_succ, List.getElem?_cons_zero, Option.some.injEq] at hj
      subst hj
      rw [if_neg (by omega), if_neg (by omega), r1]
      rfl
  · refine row_of_blk B2 hb2 (fun i x hx => ?_)
    have hi : i < A := by
      have := (List.getElem?_eq_some_iff.1 hx).1
      simpa [newV] using this
    have hx2 : ((List.replicate A blockZ).set 0 blockE)[i]? = some x := hx
    by_cases h0 : i = 0
    · subst h0
      rw [List.getElem?_set_self (by simpa using hi)] at hx2
      cases hx2
      refine ⟨eb, blockT_mk (blockE_ok w' S), fun j v hj => ?_⟩
      have hj2 : j < eb.length := (List.getElem?_eq_some_iff.1 hj).1
      have h17 : eb.length = 17 := rfl
      have := sets_at eb 0 cur2 j hj2 (by omega)
      show (sets' cur2 0 eb)[0 * 17 + j]? = some v
      rw [Nat.zero_mul, this, hj]
    · rw [List.getElem?_set_ne (by omega), List.getElem?_replicate, if_pos hi] at hx2
      cases hx2
      refine ⟨zb, blockT_mk (blockZ_ok w' S), fun j v hj => ?_⟩
      have hj2 : j < 17 := (List.getElem?_eq_some_iff.1 hj).1
      show (sets' cur2 0 eb)[i * 17 + j]? = some v
      rw [sets_off eb 0 cur2 _ (.inr (by show 0 + 17 ≤ i * 17 + j; omega)), hc2 i hi j hj2]
      show some (zb.getD j _) = some v
      rw [List.getD_eq_getElem?_getD, hj]; rfl
  · intro hpos
    have hpos' : 0 < T := by simpa [newV] using hpos
    obtain ⟨b, off, ha, hb, _⟩ := R3.cell 0 (by omega) (by omega)
    refine ⟨b, off, ha, hb, hb3 b off ha, fun i x hx => ?_⟩
    have hi : i < T := by
      have := (List.getElem?_eq_some_iff.1 hx).1
      simpa [newV] using this
    have hx2 : (List.replicate T opZ)[i]? = some x := hx
    rw [List.getElem?_replicate, if_pos hi] at hx2
    cases hx2
    obtain ⟨b', off', ha', _, hc⟩ := R3.cell i (by omega) (by omega)
    rw [ha] at ha'
    cases ha'
    refine ⟨zo, opT_mk opZ_ok, fun j v hj => ?_⟩
    have hj2 : j < 5 := (List.getElem?_eq_some_iff.1 hj).1
    show w'.cell? ⟨b, off + i * 5 + j, none⟩ = some v
    rw [hc j hj2]
    show some (zo.getD j _) = some v
    rw [List.getD_eq_getElem?_getD, hj]; rfl
/-- the cells of an owned block, by its records -/
theorem own_cells {α : Type} {k : Nat} {f : α → Nat → Value} {d : α} {w : World} {base g c : Nat} {e T : TypeId} {l : List α} {cur : Array Value} (h : OwnR k f d w base e (some ⟨g, 0, none⟩) c l) (B : Blk w g cur T) : ∀ i, i < l.length → ∀ j, j < k → cur[i * k + j]? = some (f (l.getD i d) j) := by
  intro i hi j hj
  obtain ⟨b, off, ha, _, hc⟩ := h.read.cell i hi (by omega)
  simp only [Option.some.injEq, Addr.mk.injEq, and_true] at ha
  obtain ⟨rfl, rfl⟩ := ha
  have := hc j hj
  rw [Nat.zero_add, B.cellAt] at this
  exact this
end Go.Proofs.Ytpempcefgfmniaa.MemP

/-
  bowerref26.New: contract: all that it has.
-/
namespace Go.Proofs.Ytpempcefgfmniaa.MemP
open Go.RowKit RefP CellP Dp
set_option linter.unusedVariables false
set_option linter.unusedSimpArgs false
/-- the document's memory that was made -/
def NewD (w : World) (S : List Nat) (A T : Nat) (gen : Int) (e : Ending) (w' : World) : Prop := ∃ d, e = .returned (.agg (dmX (newV A T gen) d)) ∧ DMem w' S d (newV A T gen) ∧ Below w.heap.size w w'
theorem new_end {w w' : World} {S : List Nat} {A T : Nat} {gen : Int} {a1 a2 a3 : Option Addr} {c1 c2 c3 n1 n2 n3 : Nat} (e1 : n1 = (newV A T gen).L.length) (e2 : n2 = (newV A T gen).B.length) (e3 : n3 = (newV A T gen).R.length) (H : DMem w' S ⟨⟨a1, c1⟩, ⟨a2, c2⟩, ⟨a3, c3⟩⟩ (newV A T gen)) (hb : Below w.heap.size w w') :
    NewD w S A T gen (.returned (.agg (dmemA A T a1 n1 c1 a2 n2 c2 a3 n3 c3))) w' := by
  subst e1 e2 e3
  exact ⟨⟨⟨a1, c1⟩, ⟨a2, c2⟩, ⟨a3, c3⟩⟩, rfl, H, hb⟩
set_option maxRecDepth 100000 in
set_option maxHeartbeats 6400000 in
theorem dmnew_is (S : List Nat) (A T : Nat) (gen : Int) (w : World) (hS : ∀ b ∈ S, b < w.heap.size) (hA1 : 1 ≤ A) (hA2 : A ≤ 8192) (hT1 : 1 ≤ T) (hT2 : T ≤ 16) (g0 : 0 ≤ gen) (g1 : gen < 4294967295) :
    Calls Try.prog 29 #[.int .i64 A, .int .i64 T, .int .u64 gen] w (NewD w S A T gen) := by
  have hS := Lib.hid hS
  go_enter Try.func29, Try.ntmps29
  go_wp2_with fail
  have R0 : DN w A T none 0 [] none 0 [] none 0 [] ((w.alloc (.cells (dmemA 0 0 none 0 0 none 0 0 none 0 0) 69)).alloc (.cells (dmemA A T none 0 0 none 0 0 none 0 0) 69)) := by
    refine ⟨by (repeat (first | exact Below.refl _ _ | assumption | refine below_alloc2 ?_ (by first | exact Nat.le_refl _ | omega) _ | refine Below.drew ?_ | refine below_drewN ?_ _ | refine below_push2 ?_ ‹_› (by first | exact Nat.le_refl _ | omega) | refine Below.setCell ?_ (by first | (simp; done) | (simp; omega) | omega) _)), (Blk.new w _ _).alloc _, ?_, OwnR.nil _ _ _ _ _ _, OwnR.nil _ _ _ _ _ _, OwnR.nil _ _ _ _ _ _, fun q q' h => by simp [Value.ownBlock] at h, fun q q' h => by simp [Value.ownBlock] at h, fun q q' h => by simp [Value.ownBlock] at h⟩
    have := Blk.new (w.alloc (.cells (dmemA 0 0 none 0 0 none 0 0 none 0 0) 69)) (dmemA A T none 0 0 none 0 0 none 0 0) 69
    simpa using this
  go_loopw [8] (fun i wr => ∃ k : Nat, k ≤ A ∧ i = .int .i64 k ∧ ∃ a1 c1 l1 a2 c2 l2, (k ≤ l1.length ∧ l1.length ≤ k) ∧ (k ≤ l2.length ∧ l2.length ≤ k) ∧ Hid (l1 = List.replicate k 0) ∧ DN w A T a1 c1 l1 a2 c2 l2 none 0 [] wr) (fun i _ => A - (intOf i).toNat)
  case atStart => exact ⟨0, Nat.zero_le _, rfl, none, 0, [], none, 0, [], by simp, by simp, Lib.hid rfl, R0⟩
  case round =>
    clear R0
    obtain ⟨k, hk, rfl, a1, c1, l1, a2, c2, l2, hl1, hl2, hq1, R⟩ := hrel
    by_cases hlt : k < A
    · have hlt' : (k : Int) < (A : Int) := by omega
      have m2 : wr.cell? ⟨w.heap.size + 1, 2, none⟩ = some (.slice a1 l1.length c1) := R.m.at 2 rfl
      have hb1 : Below wr.heap.size wr (wr.alloc (.cells #[.int .u64 0, .int .u64 0] 76)) := (Below.refl _ wr).alloc (Nat.le_refl _) _
      have Ra1 := R.below hb1
      obtain ⟨gq1, cq1, wq1, K1⟩ := addCell (w.heap.size + 2) Ra1.o1 0 (Blk.new wr #[.int .u64 0, .int .u64 0] 76) (by omega) (by have := Ra1.m.lt; omega)
      have hrun1 := Lib.hid K1.run
      have Rb1 := Ra1.add1 K1
      have hlq1 := OwnR.lt Ra1.o1
      have Bq1 := Ra1.m.grown K1.grown (fun e => by have := (hlq1 _ e.symm).1; omega)
      have hml1 := R.m.lt
      clear K1 hlq1
      have x2 := Bq1.at 2 rfl
      have y2 := Bq1.free 2
      go_upto_region 6 with (at_builtin; refine wpList_append_run hrun1.out rfl (by rfl) (by rfl) (by rfl) ?_)
      generalize wq1.setCell ⟨w.heap.size + 1, 2, none⟩ (.slice (some ⟨gq1, 0, none⟩) (l1.length + 1) cq1) = wx at Rb1 ⊢
      clear hrun1 x2 y2 Bq1 Ra1 R m2 hb1 hml1
      have m3 : wx.cell? ⟨w.heap.size + 1, 3, none⟩ = some (.slice a2 l2.length c2) := Rb1.m.at 3 rfl
      have hb2 : Below wx.heap.size wx (wx.alloc (.cells zb.toArray 35)) := (Below.refl _ wx).alloc (Nat.le_refl _) _
      have Ra2 := Rb1.below hb2
      obtain ⟨gq2, cq2, wq2, K2⟩ := addBlk (w.heap.size + 2) Ra2.o2  (Blk.new wx zb.toArray 35) (by omega) (by have := Ra2.m.lt; omega)
      have hrun2 := Lib.hid K2.run
      have Rb2 := Ra2.add2 K2
      have hlq2 := OwnR.lt Ra2.o2
      have Bq2 := Ra2.m.grown K2.grown (fun e => by have := (hlq2 _ e.symm).1; omega)
      have hml2 := Rb1.m.lt
      clear K2 hlq2
      have x3 := Bq2.at 3 rfl
      have y3 := Bq2.free 3
      go_wp2_with (at_builtin; refine wpList_append_run hrun2.out rfl (by rfl) (by rfl) (by rfl) ?_)
      go_roundw
      case rel => exact ⟨k + 1, by omega, by go_num, _, _, _, _, _, _, by simp; omega, by simp; omega, Lib.hid (by rw [hq1.out]; exact List.replicate_succ'.symm), Rb2⟩
      case measure => simp [intOf]; omega
    · obtain rfl : k = A := by omega
      clear hlt
      have hu : 0 ≤ useI 0 gen ∧ useI 0 gen ≤ 18446744073709551615 := by unfold useI topW; split <;> omega
      go_wp2_with fail
      go_loopw [9] (fun i wr => ∃ k' : Nat, k' ≤ k ∧ i = .int .i64 k' ∧ ∃ a1 c1 l1, (k + k' ≤ l1.length ∧ l1.length ≤ k + k') ∧ Hid (l1 = List.replicate k 0 ++ List.replicate k' (useI 0 gen)) ∧ DN w k T a1 c1 l1 a2 c2 l2 none 0 [] wr) (fun i _ => k - (intOf i).toNat)
      case atStart => exact ⟨0, Nat.zero_le _, rfl, _, _, l1, by omega, Lib.hid (by rw [hq1.out]; simp), R⟩
      case round =>
        clear R hq1
        obtain ⟨k', hk', rfl, a1, c1, l1, hl1, hq1, R⟩ := hrel
        by_cases hlt : k' < k
        · have hlt' : (k' : Int) < (k : Int) := by omega
          have m2 : wr.cell? ⟨w.heap.size + 1, 2, none⟩ = some (.slice a1 l1.length c1) := R.m.at 2 rfl
          have hd : Below wr.heap.size wr wr.drew := (Below.refl _ _).drew
          have hb1 : Below wr.heap.size wr ((wr.alloc (.cells #[.int .u64 (useI 0 gen), .int .u64 0] 76)).drew) := ((Below.refl _ wr).alloc (Nat.le_refl _) _).drew
          have Ra := R.below hb1
          obtain ⟨gq, cq, wq, K⟩ := addCell (w.heap.size + 2) Ra.o1 (useI 0 gen) (Blk.new wr #[.int .u64 (useI 0 gen), .int .u64 0] 76).drew (by omega) (by have := Ra.m.lt; omega)
          have hrun := Lib.hid K.run
          have Rb := Ra.add1 K
          have hlq := OwnR.lt Ra.o1
          have Bq := Ra.m.grown K.grown (fun e => by have := (hlq _ e.symm).1; omega)
          have x2 := Bq.at 2 rfl
          have y2 := Bq.free 2
          have hml := R.m.lt
          have hus := duse_any 0 gen wr.drew (by omega) (by omega) (by omega) (by omega)
          clear K hlq Bq Ra hb1
          go_upto_region 10 with (fail)
          go_region_law (first
            | ((with_reducible (show @ite _ _ _ (Oper.wp _ _ _ ((wr.alloc (.cells #[.int .u64 (useI 0 gen), .int .u64 0] 76)).drew) _ _) _)); refine step_append_run hrun.out rfl (by rfl) (by rfl) (by rfl) ?_)
            | (go_simp; go_at_call 42; refine hus.mono ?_; rintro e wx ⟨rfl, rfl⟩))
          all_goals
            go_wp2_with fail
            go_roundw
            case rel => exact ⟨k' + 1, by omega, by go_num, _, _, _, by simp; omega, Lib.hid (by rw [hq1.out, List.append_assoc]; congr 1; exact List.replicate_succ'.symm), Rb⟩
            case measure => simp [intOf]; omega
        · obtain rfl : k' = k := by omega
          clear hlt hu
          have hw5 : IntKind.i64.wrap (5 * (T : Int)) = 5 * (T : Int) := by rw [IntKind.wrap_i64]; omega
          have hw6 : IntKind.i64.wrap (5 * (T : Int) + 1) = 5 * (T : Int) + 1 := by rw [IntKind.wrap_i64]; omega
          go_wp2_with fail
          go_loopw [10] (fun i wr => ∃ j : Nat, j ≤ 5 * T + 1 ∧ i = .int .i64 j ∧ ∃ a1 c1 l1, (k' + k' + j ≤ l1.length ∧ l1.length ≤ k' + k' + j) ∧ Hid (l1 = List.replicate k' 0 ++ List.replicate k' (useI 0 gen) ++ List.replicate j 0) ∧ DN w k' T a1 c1 l1 a2 c2 l2 none 0 [] wr) (fun i _ => 5 * T + 1 - (intOf i).toNat)
          case atStart => exact ⟨0, Nat.zero_le _, rfl, _, _, l1, by omega, Lib.hid (by rw [hq1.out]; simp), R⟩
          case round =>
            clear R hq1
            obtain ⟨j, hj, rfl, a1, c1, l1, hl1, hq1, R⟩ := hrel
            by_cases hlt : j < 5 * T + 1
            · have hlt' : (j : Int) < 5 * (T : Int) + 1 := by omega
              have m2 : wr.cell? ⟨w.heap.size + 1, 2, none⟩ = some (.slice a1 l1.length c1) := R.m.at 2 rfl
              have hb1 : Below wr.heap.size wr (wr.alloc (.cells #[.int .u64 0, .int .u64 0] 76)) := (Below.refl _ wr).alloc (Nat.le_refl _) _
              have Ra1 := R.below hb1
              obtain ⟨gq1, cq1, wq1, K1⟩ := addCell (w.heap.size + 2) Ra1.o1 0 (Blk.new wr #[.int .u64 0, .int .u64 0] 76) (by omega) (by have := Ra1.m.lt; omega)
              have hrun1 := Lib.hid K1.run
              have Rb1 := Ra1.add1 K1
              have hlq1 := OwnR.lt Ra1.o1
              have Bq1 := Ra1.m.grown K1.grown (fun e => by have := (hlq1 _ e.symm).1; omega)
              have hml1 := R.m.lt
              clear K1 hlq1
              have x2 := Bq1.at 2 rfl
              have y2 := Bq1.free 2
              go_wp2_with (at_builtin; refine wpList_append_run hrun1.out rfl (by rfl) (by rfl) (by rfl) ?_)
              go_roundw
              case rel => exact ⟨j + 1, by omega, by go_num, _, _, _, by simp; omega, Lib.hid (by rw [hq1.out, List.append_assoc]; congr 1; exact List.replicate_succ'.symm), Rb1⟩
              case measure => simp [intOf]; omega
            · have hge : 5 * (T : Int) + 1 ≤ (j : Int) := by omega
              go_wp2_with fail
              clear hge
              go_loopw [11] (fun i wr => ∃ q : Nat, q ≤ T ∧ i = .int .i64 q ∧ ∃ a3 c3 l3, (q ≤ l3.length ∧ l3.length ≤ q) ∧ DN w k' T a1 c1 l1 a2 c2 l2 a3 c3 l3 wr) (fun i _ => T - (intOf i).toNat)
              case atStart => exact ⟨0, Nat.zero_le _, rfl, _, _, [], by simp, R⟩
              case round =>
                clear R
                obtain ⟨q, hq, rfl, a3, c3, l3, hl3, R⟩ := hrel
                by_cases hlt2 : q < T
                · have hlt' : (q : Int) < (T : Int) := by omega
                  have m4 : wr.cell? ⟨w.heap.size + 1, 4, none⟩ = some (.slice a3 l3.length c3) := R.m.at 4 rfl
                  have hb1 : Below wr.heap.size wr (wr.alloc (.cells zo.toArray 37)) := (Below.refl _ wr).alloc (Nat.le_refl _) _
                  have Ra1 := R.below hb1
                  obtain ⟨gq1, cq1, wq1, K1⟩ := addOp (w.heap.size + 2) Ra1.o3  (Blk.new wr zo.toArray 37) (by omega) (by have := Ra1.m.lt; omega)
                  have hrun1 := Lib.hid K1.run
                  have Rb1 := Ra1.add3 K1
                  have hlq1 := OwnR.lt Ra1.o3
                  have Bq1 := Ra1.m.grown K1.grown (fun e => by have := (hlq1 _ e.symm).1; omega)
                  have hml1 := R.m.lt
                  clear K1 hlq1
                  have x4 := Bq1.at 4 rfl
                  have y4 := Bq1.free 4
                  go_wp2_with (at_builtin; refine wpList_append_run hrun1.out rfl (by rfl) (by rfl) (by rfl) ?_)
                  go_roundw
                  case rel => exact ⟨q + 1, by omega, by go_num, _, _, _, by simp; omega, Rb1⟩
                  case measure => simp [intOf]; omega
                · have hge : (T : Int) ≤ (q : Int) := by omega
                  obtain ⟨b1, cur1, rfl, hb1, B1, hc1⟩ := own_block R.o1 (by omega)
                  obtain ⟨b2, cur2, rfl, hb2, B2, hc2⟩ := own_block R.o2 (by omega)
                  have hne12 : b1 ≠ b2 := R.n12 b1 b2 rfl rfl
                  have hq2 : Hid (l1 = rawW k' T gen) := Lib.hid (by
                    have hj2 : j = 5 * T + 1 := by omega
                    rw [hq1.out, hj2]; rfl)
                  have O1 := Lib.hid (own_cells R.o1 B1)
                  have O2 := Lib.hid (own_cells R.o2 B2)
                  have O3 := R.o3
                  have n13 := Lib.hid R.n13
                  have n23 := Lib.hid R.n23
                  have F0 := Lib.hid (Fr.refl [b1, b2, w.heap.size] wr)
                  clear hq1
                  have hB := R.b
                  have Z := R.z
                  have M := R.m
                  have m2 : wr.cell? ⟨w.heap.size + 1, 2, none⟩ = some (.slice (some ⟨b1, 0, none⟩) l1.length c1) := M.at 2 rfl
                  have hk1 : (k' : Int) < (l1.length : Int) := by omega
                  have hwg : IntKind.u64.wrap (gen + 1) = gen + 1 := by rw [IntKind.wrap_u64]; omega
                  have hus := duse_any 1 (gen + 1) wr.drew (by omega) (by omega) (by omega) (by omega)
                  have e1 := B1.at (k' * 2) (Array.getElem?_eq_getElem (show k' * 2 < cur1.size by omega))
                  have y1 := B1.free (k' * 2)
                  have hk0 : (0 : Int) ≤ (k' : Int) := by omega
                  clear R hge
                  go_upto_region 19 with (fail)
                  go_cut [] (fun wx => wx = (wr.setCell ⟨b1, k' * 2, none⟩ (.int .u64 (useI 1 (gen + 1)))).drew)
                  case first =>
                    go_region_with (go_at_call 42; refine hus.mono ?_; rintro e wx ⟨rfl, rfl⟩)
                    all_goals
                      go_wp2_with fail
                      go_meet
                      exact rfl
                  case rest =>
                    obtain rfl := hcut
                    have F1 : Fr [b1] wr (wr.setCell ⟨b1, k' * 2, none⟩ (.int .u64 (useI 1 (gen + 1)))).drew := ((Fr.refl [b1] wr).set _ _ (.inl (by simp))).trans (Fr.of_below (Below.refl _ _).drew)
                    replace hB := (hB.setCell (p := ⟨b1, k' * 2, none⟩) (by show w.heap.size ≤ b1; omega) (.int .u64 (useI 1 (gen + 1)))).drew
                    replace Z := F1.blk Z (by simp; omega)
                    replace M := F1.blk M (by simp; omega)
                    replace B2 := F1.blk B2 (by simp; omega)
                    replace F0 := Lib.hid (F0.out.trans (F1.more (by simp)))
                    replace B1 := (B1.set (k' * 2) (.int .u64 (useI 1 (gen + 1)))).drew
                    generalize (wr.setCell ⟨b1, k' * 2, none⟩ (.int .u64 (useI 1 (gen + 1)))).drew = wy at hB Z M B1 B2 F0 ⊢
                    clear m2 e1 y1 F1 hus
                    have m2 : wy.cell? ⟨w.heap.size + 1, 2, none⟩ = some (.slice (some ⟨b1, 0, none⟩) l1.length c1) := M.at 2 rfl
                    have hpk := dpack_any 0 (gen + 1) wy.drew (by omega) (by omega) (by omega) (by omega)
                    have e1 := B1.at 0 (Array.getElem?_eq_getElem (show 0 < (cur1.setIfInBounds (k' * 2) (.int .u64 (useI 1 (gen + 1)))).size by simp; omega))
                    have y1 := B1.free 0
                    have hl0 : (0 : Int) < (l1.length : Int) := by omega
                    go_upto_region 20 with (fail)
                    go_cut [] (fun wx => wx = (wy.setCell ⟨b1, 0, none⟩ (.int .u64 (packI 0 (gen + 1)))).drew)
                    case first =>
                      go_region_with (go_at_call 43; refine hpk.mono ?_; rintro e wx ⟨rfl, rfl⟩)
                      all_goals
                        go_wp2_with fail
                        go_meet
                        exact rfl
                    case rest =>
                      obtain rfl := hcut
                      have F2 : Fr [b1] wy (wy.setCell ⟨b1, 0, none⟩ (.int .u64 (packI 0 (gen + 1)))).drew := ((Fr.refl [b1] wy).set _ _ (.inl (by simp))).trans (Fr.of_below (Below.refl _ _).drew)
                      replace hB := (hB.setCell (p := ⟨b1, 0, none⟩) (by show w.heap.size ≤ b1; omega) (.int .u64 (packI 0 (gen + 1)))).drew
                      replace Z := F2.blk Z (by simp; omega)
                      replace M := F2.blk M (by simp; omega)
                      replace B2 := F2.blk B2 (by simp; omega)
                      replace F0 := Lib.hid (F0.out.trans (F2.more (by simp)))
                      replace B1 := (B1.set 0 (.int .u64 (packI 0 (gen + 1)))).drew
                      generalize (wy.setCell ⟨b1, 0, none⟩ (.int .u64 (packI 0 (gen + 1)))).drew = wz at hB Z M B1 B2 F0 ⊢
                      clear m2 e1 y1 F2 hpk hl0
                      have m3 : wz.cell? ⟨w.heap.size + 1, 3, none⟩ = some (.slice (some ⟨b2, 0, none⟩) l2.length c2) := M.at 3 rfl
                      have hth := there_blk (o := 0) (n := 17) B2 (by omega)
                      have hl20 : (0 : Int) < (l2.length : Int) := by omega
                      have F3 := fr_sets (S := [b2]) (b := b2) (by simp) eb 0 wz
                      replace F0 := Lib.hid (F0.out.trans (F3.more (S' := [b1, b2, w.heap.size]) (by simp)))
                      have B23 := blk_sets' eb 0 _ _ B2
                      have B13 := F3.blk B1 (by simpa using hne12)
                      have hB3 := below_sets (b := b2) (show w.heap.size ≤ b2 by omega) eb 0 _ hB
                      have Z3 := F3.blk Z (by simp; omega)
                      have M3 := F3.blk M (by simp; omega)
                      generalize hX : wz.setCells b2 0 eb = wu at F3 hB3 Z3 M3 F0 B23 B13
                      replace hX := Lib.hid hX
                      go_wp2_with (first
                        | (refine wpList_store_mid rfl 35 _ _ rfl b2 0 eb.toArray rfl rfl hth (by kernel_rfl) (by kernel_rfl) ?_; rw [show eb.toArray.toList = eb from rfl, hX.out])
                        | (refine wpList_load_row rfl 69 _ rfl (w.heap.size + 1) rfl 69 _ (0, 0) _ M3.h Try.underlying69 rfl (by kernel_rfl) ?_)
                        | (refine wpList_store_row rfl 69 _ _ rfl w.heap.size _ rfl rfl 69 _ Z3.h (by kernel_rfl) (by rfl) (by kernel_rfl) ?_))
                      refine bodyPost_ret (results_cell_row rfl _ _ w.heap.size 69 (dmemA k' T (some ⟨b1, 0, none⟩) l1.length c1 (some ⟨b2, 0, none⟩) l2.length c2 a3 l3.length c3) (0, 0) _ rfl (Blk.row Z3 _).h Try.underlying69 rfl (by kernel_rfl)) rfl ?_
                      have FR : Fr [w.heap.size] wu (wu.setRow w.heap.size (dmemA k' T (some ⟨b1, 0, none⟩) l1.length c1 (some ⟨b2, 0, none⟩) l2.length c2 a3 l3.length c3)) := Fr.row _ _ (by simp)
                      have F9 := F0.out.trans (FR.more (S' := [b1, b2, w.heap.size]) (by simp))
                      have O39 := OwnR.heap O3 (fun g hg => F9.block g (OwnR.lt O3 g hg).2 (by
                        have h1 := (OwnR.lt O3 g hg).1
                        have h2 := n13.out b1 g rfl hg
                        have h3 := n23.out b2 g rfl hg
                        simp only [List.mem_cons, List.not_mem_nil, or_false, not_or]
                        exact ⟨fun e => h2 e.symm, fun e => h3 e.symm, by omega⟩))
                      have hS := hS.out
                      have hb9 := below_setRow hB3 (Nat.le_refl _) (dmemA k' T (some ⟨b1, 0, none⟩) l1.length c1 (some ⟨b2, 0, none⟩) l2.length c2 a3 l3.length c3)
                      refine new_end (by rw [hq2.out, rawW_length]; simp [newV, freshL]) (by simp [newV]; omega) (by simp [newV]; omega) (new_dmem hA1 hA2 hT1 hT2 g0 g1 (FR.blk B13 (by simp; omega)) O1.out hq2.out (FR.blk B23 (by simp; omega)) (by omega) (fun i hi j hj => ?_) O39.read (by omega) (fun e => by have := hS _ e; omega) (fun e => by have := hS _ e; omega) (fun b off e hb => ?_)) hb9
                      · have := O2.out i (by omega) j hj
                        simpa using this
                      · have h1 := hS b hb
                        have h2 := (O39.read.cell 0 (by omega) (by omega))
                        rw [e] at h2
                        have h3 := O3.own.blk b off (by simpa using e)
                        omega
end Go.Proofs.Ytpempcefgfmniaa.MemP

/-
  bowerlaw26: places; bowerref26: May: contracts.
-/
namespace Go.Proofs.Ytpempcefgfmniaa.MemP
open Go.RowKit RefP CellP Dp QuietRow Go.Sort
set_option linter.unusedVariables false
set_option linter.unusedSimpArgs false
theorem wpList_load_midg {P : Program} {ops : Array Oper} {rest : List Oper} {op : Oper} {a : Act} {w : World} {Q : Exit → Act → World → Prop} (hw : Region.wanted op (yielded ops a.tmps) = true) (ty : TypeId) (x : Operand) (ho : op.op = .load ty x)
    (b o : Nat) (hx : a.eval x = .pointer (some ⟨b, o, none⟩)) (cs : List Value) (d : TypeDesc) (hc : w.rangeAt b o cs)
    (hu : P.underlying ty = some d) (hd : d.isRow = true) (hi : (P.info? ty).map (·.size) = some cs.length)
    (h : wpList P ops Q rest (a.put op.dst (.agg cs.toArray)) w) : wpList P ops Q (op :: rest) a w :=
  wpList_step fun K hK => by
    rw [if_pos hw]
    exact wp_load_mid ty x ho b o hx cs d hc hu hd hi (hK _ _ h)
theorem range_all {w : World} {b : Nat} {cs : Array Value} {T : TypeId} (B : Blk w b cs T) : w.rangeAt b 0 cs.toList := range_blk B 0 _ (fun j v hj => by simpa using hj)
set_option maxRecDepth 100000 in
set_option maxHeartbeats 3200000 in
theorem places_any {o oc g gb gr : Nat} {bs rs : List (List Value)} (M : MemV) (d : DH) (i k : Int) (w : World) (h : MemAt w o oc g gb gr M.A M.T M.L bs rs) (i0 : -9223372036854775808 ≤ i) (i1 : i ≤ 9223372036854775807) :
    Calls Try.prog 31 #[.pointer (some ⟨o, 0, none⟩), .agg (dmX M d), .int .i64 i, .int .i64 k] w fun e w' => e = .returned (.bool true) ∧ Below w.heap.size w w' := by
  have hA := h.a1.2
  have hT := h.t1.2
  have hb : Below w.heap.size w (w.alloc (.cells (dmX M d) 69)) := by (repeat (first | exact Below.refl _ _ | assumption | refine below_alloc2 ?_ (by first | exact Nat.le_refl _ | omega) _ | refine Below.drew ?_ | refine below_drewN ?_ _ | refine below_push2 ?_ ‹_› (by first | exact Nat.le_refl _ | omega) | refine Below.setCell ?_ (by first | (simp; done) | (simp; omega) | omega) _))
  have BX := Blk.new w (dmX M d) 69
  go_enter Try.func31, Try.ntmps31
  go_upto_region 1 with (fail)
  generalize w.alloc (.cells (dmX M d) 69) = w1 at hb BX ⊢
  have h1 := h.below hb
  have c0 := fun dd os => cell_regrown (BX.at 0 rfl) dd os
  have c1 := fun dd os => cell_regrown (BX.at 1 rfl) dd os
  have c2 := fun dd os => cell_regrown (BX.at 2 rfl) dd os
  have rm := range_regrown (range_all BX)
  have hg := fun dd os => h1.below (below_regrown w1 dd os)
  have m0 := fun dd os => Calls.regrown_of (node_any i (grow (redrawn w1 dd) os) (hg dd os) i0 i1)
  have m1 := fun dd os => Calls.regrown_of (muse_any i (grow (redrawn w1 dd) os) (hg dd os) i0 i1)
  have m2 := fun dd os => Calls.regrown_of (announce_any i (grow (redrawn w1 dd) os) (hg dd os) i0 i1)
  have m3 := fun dd os => Calls.regrown_of (done_any i (grow (redrawn w1 dd) os) (hg dd os) i0 i1)
  have m4 := fun dd os => Calls.regrown_of (phase_any i (grow (redrawn w1 dd) os) (hg dd os) i0 i1)
  have m5 := fun dd os => Calls.regrown_of (haz_any i k (grow (redrawn w1 dd) os) (hg dd os))
  have m6 := fun dd os => Calls.regrown_of (gate_any (grow (redrawn w1 dd) os) (hg dd os))
  have m7 := fun dd os => Calls.regrown_of ((mlen_any (grow (redrawn w1 dd) os) (hg dd os)).mono fun e w' h => ⟨h.1, h.2 ▸ Below.refl _ _⟩)
  have m8 := fun dd os => Calls.regrown_of ((arena_any (grow (redrawn w1 dd) os) (hg dd os)).mono fun e w' h => ⟨h.1, h.2 ▸ Below.refl _ _⟩)
  have m9 := fun dd os => Calls.regrown_of ((threads_any (grow (redrawn w1 dd) os) (hg dd os)).mono fun e w' h => ⟨h.1, h.2 ▸ Below.refl _ _⟩)
  have p0 := fun dd os => Calls.regrown_of (dpl_0 M d i 0 (grow (redrawn w1 dd) os) hA hT)
  have p1 := fun dd os => Calls.regrown_of (dpl_1 M d i 0 (grow (redrawn w1 dd) os) hA hT)
  have p2 := fun dd os => Calls.regrown_of (dpl_2 M d i 0 (grow (redrawn w1 dd) os) hA hT)
  have p3 := fun dd os => Calls.regrown_of (dpl_3 M d i 0 (grow (redrawn w1 dd) os) hA hT)
  have p4 := fun dd os => Calls.regrown_of (dpl_4 M d i 0 (grow (redrawn w1 dd) os) hA hT)
  have p5 := fun dd os => Calls.regrown_of (dpl_5 M d i k (grow (redrawn w1 dd) os) hA hT)
  have p6 := fun dd os => Calls.regrown_of (dpl_6 M d (grow (redrawn w1 dd) os) hA hT)
  simp only [gate_at] at p6
  clear hg h1 h BX
  simp only [List.append_eq, List.cons_append, List.nil_append]
  refine wp_region_quiet_below (by kernel_rfl) (by kernel_rfl) ?_
  repeat (first
    | go_big_quiet_skip
    | (go_big_quiet_want; first
      | ((refine quiet_load_arr 69 _ rfl w.heap.size 0 rfl (dmX M d) _ rm Try.underlying69 rfl (by kernel_rfl) ?_); simp only [Act.put, List.setIfInBounds_toArray, List.set_cons_succ, List.set_cons_zero]; go_big_quiet_on)
      | (go_big_quiet_op; first | go_big_quiet_on | go_big_quiet_call (first | with_reducible exact m0 _ _ | with_reducible exact m1 _ _ | with_reducible exact m2 _ _ | with_reducible exact m3 _ _ | with_reducible exact m4 _ _ | with_reducible exact m5 _ _ | with_reducible exact m6 _ _ | with_reducible exact m7 _ _ | with_reducible exact m8 _ _ | with_reducible exact m9 _ _ | with_reducible exact p0 _ _ | with_reducible exact p1 _ _ | with_reducible exact p2 _ _ | with_reducible exact p3 _ _ | with_reducible exact p4 _ _ | with_reducible exact p5 _ _ | with_reducible exact p6 _ _))))
  refine wpQuiet_nil ?_
  intro w15 hw'
  have hb15 := RefP.below_of_regrown hw'
  clear hw' m0 m1 m2 m3 m4 m5 m6 m7 m8 m9 p0 p1 p2 p3 p4 p5 p6 rm c0 c1 c2
  go_wp2_with fail
  go_ret
  exact ⟨rfl, below_push2 hb hb15 (Nat.le_refl _)⟩
def mayI (A T gen : Int) : Bool := decide (1 ≤ A ∧ A ≤ 8192 ∧ 1 ≤ T ∧ T ≤ 16 ∧ gen < 4294967295)
set_option maxHeartbeats 800000 in
theorem dmay_yes (A T gen : Int) (w : World) (h : 1 ≤ A ∧ A ≤ 8192 ∧ 1 ≤ T ∧ T ≤ 16 ∧ gen < 4294967295) :
    Calls Try.prog 28 #[.int .i64 A, .int .i64 T, .int .u64 gen] w fun e w' => e = .returned (.bool true) ∧ w = w' := by
  obtain ⟨h0, h1, h2, h3, h4⟩ := h
  go_enter Try.func28, Try.ntmps28
  go_wp2_with fail
  go_ret
  exact ⟨rfl, rfl⟩
set_option maxHeartbeats 1600000 in
theorem dmay_no (A T gen : Int) (w : World) (h : ¬ (1 ≤ A ∧ A ≤ 8192 ∧ 1 ≤ T ∧ T ≤ 16 ∧ gen < 4294967295)) :
    Calls Try.prog 28 #[.int .i64 A, .int .i64 T, .int .u64 gen] w fun e w' => e = .returned (.bool false) ∧ w = w' := by
  by_cases h0 : A < 1
  · go_enter Try.func28, Try.ntmps28
    go_wp2_with fail
    go_ret
    exact ⟨rfl, rfl⟩
  have h0' : 1 ≤ A := by omega
  by_cases h1 : 8192 < A
  · go_enter Try.func28, Try.ntmps28
    go_wp2_with fail
    go_ret
    exact ⟨rfl, rfl⟩
  have h1' : A ≤ 8192 := by omega
  by_cases h2 : T < 1
  · go_enter Try.func28, Try.ntmps28
    go_wp2_with fail
    go_ret
    exact ⟨rfl, rfl⟩
  have h2' : 1 ≤ T := by omega
  by_cases h3 : 16 < T
  · go_enter Try.func28, Try.ntmps28
    go_wp2_with fail
    go_ret
    exact ⟨rfl, rfl⟩
  have h3' : T ≤ 16 := by omega
  have h4 : 4294967295 ≤ gen := by omega
  have h5 : decide (gen < 4294967295) = false := by simp; omega
  clear h
  go_enter Try.func28, Try.ntmps28
  go_wp2_with fail
  go_ret
  exact ⟨rfl, rfl⟩
end Go.Proofs.Ytpempcefgfmniaa.MemP

/-
  MemoryDoes: the walks that do nothing with a memory.
-/
namespace Go.Proofs.Ytpempcefgfmniaa.MemP
open Go.RowKit RefP CellP Dp
set_option linter.unusedVariables false
set_option linter.unusedSimpArgs false
set_option maxRecDepth 100000 in
set_option maxHeartbeats 1600000 in
theorem does_heavy (A0 T0 gen : Int) (a : Option Addr) (c : Nat) (xs : List AccV) (w : World) (H : RowRep accT w [] a xs) (hm : xs.length ≤ 9223372036854775807) (hL : lightL xs = false) :
    Calls Try.prog 6 #[.int .i64 A0, .int .i64 T0, .int .u64 gen, .slice a xs.length c] w fun e w' => e = .returned (.bool true) ∧ Below w.heap.size w w' := by
  go_enter Try.func6, Try.ntmps6
  go_wp2_with fail
  refine (light_any [] a c xs w H hm).mono ?_
  rintro e w2 ⟨rfl, hb2⟩
  rw [hL]
  go_wp2_with fail
  refine (lives_any _).mono ?_
  rintro e w3 ⟨rfl, hb3⟩
  go_wp2_with fail
  go_ret
  exact ⟨rfl, below_push2 hb2 hb3 (Nat.le_refl _)⟩
set_option maxRecDepth 100000 in
set_option maxHeartbeats 1600000 in
theorem does_large (A0 T0 gen : Int) (a : Option Addr) (c : Nat) (xs : List AccV) (w : World) (H : RowRep accT w [] a xs) (hm : xs.length ≤ 9223372036854775807) (hL : lightL xs = true) (h1 : 30 < A0) (h2 : A0 ≤ 8192) :
    Calls Try.prog 6 #[.int .i64 A0, .int .i64 T0, .int .u64 gen, .slice a xs.length c] w fun e w' => e = .returned (.bool true) ∧ Below w.heap.size w w' := by
  go_enter Try.func6, Try.ntmps6
  go_wp2_with fail
  refine (light_any [] a c xs w H hm).mono ?_
  rintro e w2 ⟨rfl, hb2⟩
  rw [hL]
  go_wp2_with fail
  refine (lives_any _).mono ?_
  rintro e w3 ⟨rfl, hb3⟩
  go_wp2_with fail
  go_ret
  exact ⟨rfl, below_push2 hb2 hb3 (Nat.le_refl _)⟩
set_option maxRecDepth 100000 in
set_option maxHeartbeats 3200000 in
theorem does_nil (A0 T0 gen : Int) (a : Option Addr) (c : Nat) (xs : List AccV) (w : World) (H : RowRep accT w [] a xs) (hm : xs.length ≤ 9223372036854775807) (hL : lightL xs = true) (h1 : A0 ≤ 30 ∨ 8192 < A0) (hN : ¬ (1 ≤ A0 ∧ A0 ≤ 8192 ∧ 1 ≤ T0 ∧ T0 ≤ 16 ∧ gen < 4294967295)) :
    Calls Try.prog 6 #[.int .i64 A0, .int .i64 T0, .int .u64 gen, .slice a xs.length c] w fun e w' => e = .returned (.bool true) ∧ Below w.heap.size w w' := by
  have hN := Lib.hid hN
  rcases h1 with h1 | h1
  · replace hN := hN.out
    go_enter Try.func6, Try.ntmps6
    go_wp2_with fail
    refine (light_any [] a c xs w H hm).mono ?_
    rintro e w2 ⟨rfl, hb2⟩
    rw [hL]
    go_wp2_with fail
    refine (mnew_no A0 T0 gen w2 (by omega)).mono ?_
    rintro e w3 ⟨rfl, rfl⟩
    go_wp2_with fail
    refine (dmay_no A0 T0 gen _ (by omega)).mono ?_
    rintro e w4 ⟨rfl, rfl⟩
    go_wp2_with fail
    refine (do_nil 1 0 0 0 _ _ _ _ _ _ _ _ _ _ _ _ _ _ _ _ _ _ _ _ _ _ _).mono ?_
    rintro e w5 ⟨rfl, hb5⟩
    replace hb2 := below_push2 hb2 hb5 (Nat.le_refl _)
    clear hb5
    have BX := Blk.new w5 #[.bool false, .int .u64 0, .int .u64 0, .int .i64 0, .int .i64 0, .string ⟨#[]⟩, .string ⟨#[]⟩, .bool false, .int .i64 0, .slice none 0 0, .slice none 0 0, .slice none 0 0, .int .i64 0, .int .i64 0, .string ⟨#[]⟩, .int .u64 0, .slice none 0 0, .slice none 0 0, .slice none 0 0, .slice none 0 0, .int .i64 0, .string ⟨#[]⟩, .string ⟨#[]⟩, .int .u64 0, .int .i64 0] 50
    have hbx := (below_alloc2 hb2 (Nat.le_refl _) (.cells #[.bool false, .int .u64 0, .int .u64 0, .int .i64 0, .int .i64 0, .string ⟨#[]⟩, .string ⟨#[]⟩, .bool false, .int .i64 0, .slice none 0 0, .slice none 0 0, .slice none 0 0, .int .i64 0, .int .i64 0, .string ⟨#[]⟩, .int .u64 0, .slice none 0 0, .slice none 0 0, .slice none 0 0, .slice none 0 0, .int .i64 0, .string ⟨#[]⟩, .string ⟨#[]⟩, .int .u64 0, .int .i64 0] 50))
    generalize hW : w5.alloc (.cells #[.bool false, .int .u64 0, .int .u64 0, .int .i64 0, .int .i64 0, .string ⟨#[]⟩, .string ⟨#[]⟩, .bool false, .int .i64 0, .slice none 0 0, .slice none 0 0, .slice none 0 0, .int .i64 0, .int .i64 0, .string ⟨#[]⟩, .int .u64 0, .slice none 0 0, .slice none 0 0, .slice none 0 0, .slice none 0 0, .int .i64 0, .string ⟨#[]⟩, .string ⟨#[]⟩, .int .u64 0, .int .i64 0] 50) = w6 at hbx BX
    replace hW := Lib.hid hW
    have c0 := BX.at 0 rfl
    go_wp2_with (refine wpList_store_row rfl 50 _ _ rfl _ _ rfl rfl 50 _ (Blk.new w5 _ _).h (by kernel_rfl) (by rfl) (by kernel_rfl) ?_; rw [World.setRow_alloc_new, hW.out])
    refine (mload_nil 0 _).mono ?_
    rintro e w7 ⟨rfl, rfl⟩
    go_wp2_with fail
    refine (mlen_nil _).mono ?_
    rintro e w7 ⟨rfl, rfl⟩
    go_wp2_with fail
    refine (arena_nil _).mono ?_
    rintro e w7 ⟨rfl, rfl⟩
    go_wp2_with fail
    refine (threads_nil _).mono ?_
    rintro e w7 ⟨rfl, rfl⟩
    go_wp2_with fail
    refine (gate_nil _).mono ?_
    rintro e w7 ⟨rfl, hb7⟩
    go_wp2_with fail
    refine (node_nil 0 _).mono ?_
    rintro e w8 ⟨rfl, hb8⟩
    go_wp2_with fail
    refine (lives_any _).mono ?_
    rintro e w9 ⟨rfl, hb9⟩
    go_wp2_with fail
    go_ret
    exact ⟨rfl, below_push2 (below_push2 (below_push2 hbx hb7 (Nat.le_refl _)) hb8 (Nat.le_refl _)) hb9 (Nat.le_refl _)⟩
  · replace hN := hN.out
    have h30 : 30 < A0 := by omega
    go_enter Try.func6, Try.ntmps6
    go_wp2_with fail
    refine (light_any [] a c xs w H hm).mono ?_
    rintro e w2 ⟨rfl, hb2⟩
    rw [hL]
    go_wp2_with fail
    refine (mnew_no A0 T0 gen w2 (by omega)).mono ?_
    rintro e w3 ⟨rfl, rfl⟩
    go_wp2_with fail
    refine (dmay_no A0 T0 gen _ (by omega)).mono ?_
    rintro e w4 ⟨rfl, rfl⟩
    go_wp2_with fail
    refine (do_nil 1 0 0 0 _ _ _ _ _ _ _ _ _ _ _ _ _ _ _ _ _ _ _ _ _ _ _).mono ?_
    rintro e w5 ⟨rfl, hb5⟩
    replace hb2 := below_push2 hb2 hb5 (Nat.le_refl _)
    clear hb5
    have BX := Blk.new w5 #[.bool false, .int .u64 0, .int .u64 0, .int .i64 0, .int .i64 0, .string ⟨#[]⟩, .string ⟨#[]⟩, .bool false, .int .i64 0, .slice none 0 0, .slice none 0 0, .slice none 0 0, .int .i64 0, .int .i64 0, .string ⟨#[]⟩, .int .u64 0, .slice none 0 0, .slice none 0 0, .slice none 0 0, .slice none 0 0, .int .i64 0, .string ⟨#[]⟩, .string ⟨#[]⟩, .int .u64 0, .int .i64 0] 50
    have hbx := (below_alloc2 hb2 (Nat.le_refl _) (.cells #[.bool false, .int .u64 0, .int .u64 0, .int .i64 0, .int .i64 0, .string ⟨#[]⟩, .string ⟨#[]⟩, .bool false, .int .i64 0, .slice none 0 0, .slice none 0 0, .slice none 0 0, .int .i64 0, .int .i64 0, .string ⟨#[]⟩, .int .u64 0, .slice none 0 0, .slice none 0 0, .slice none 0 0, .slice none 0 0, .int .i64 0, .string ⟨#[]⟩, .string ⟨#[]⟩, .int .u64 0, .int .i64 0] 50))
    generalize hW : w5.alloc (.cells #[.bool false, .int .u64 0, .int .u64 0, .int .i64 0, .int .i64 0, .string ⟨#[]⟩, .string ⟨#[]⟩, .bool false, .int .i64 0, .slice none 0 0, .slice none 0 0, .slice none 0 0, .int .i64 0, .int .i64 0, .string ⟨#[]⟩, .int .u64 0, .slice none 0 0, .slice none 0 0, .slice none 0 0, .slice none 0 0, .int .i64 0, .string ⟨#[]⟩, .string ⟨#[]⟩, .int .u64 0, .int .i64 0] 50) = w6 at hbx BX
    replace hW := Lib.hid hW
    have c0 := BX.at 0 rfl
    go_wp2_with (refine wpList_store_row rfl 50 _ _ rfl _ _ rfl rfl 50 _ (Blk.new w5 _ _).h (by kernel_rfl) (by rfl) (by kernel_rfl) ?_; rw [World.setRow_alloc_new, hW.out])
    refine (mload_nil 0 _).mono ?_
    rintro e w7 ⟨rfl, rfl⟩
    go_wp2_with fail
    refine (mlen_nil _).mono ?_
    rintro e w7 ⟨rfl, rfl⟩
    go_wp2_with fail
    refine (arena_nil _).mono ?_
    rintro e w7 ⟨rfl, rfl⟩
    go_wp2_with fail
    refine (threads_nil _).mono ?_
    rintro e w7 ⟨rfl, rfl⟩
    go_wp2_with fail
    refine (gate_nil _).mono ?_
    rintro e w7 ⟨rfl, hb7⟩
    go_wp2_with fail
    refine (node_nil 0 _).mono ?_
    rintro e w8 ⟨rfl, hb8⟩
    go_wp2_with fail
    refine (lives_any _).mono ?_
    rintro e w9 ⟨rfl, hb9⟩
    go_wp2_with fail
    go_ret
    exact ⟨rfl, below_push2 (below_push2 (below_push2 hbx hb7 (Nat.le_refl _)) hb8 (Nat.le_refl _)) hb9 (Nat.le_refl _)⟩
end Go.Proofs.Ytpempcefgfmniaa.MemP

/-
  MemoryDoes: what lies in memory in the rounds: the memory, and the document's beside it.
-/
namespace Go.Proofs.Ytpempcefgfmniaa.MemP
open Go.RowKit RefP CellP Dp
set_option linter.unusedVariables false
set_option linter.unusedSimpArgs false
structure DR (w wr : World) (t : Nat) (m : MemId) (M : MemV) (d : DH) (A T : Nat) : Prop where
  b : Below w.heap.size w wr
  mem : MemIs wr (t :: m.own) m M
  doc : DMem wr (t :: m.own) d M
  box : Blk wr t (dmX M d) 69
  lo : ∀ b ∈ t :: m.own, w.heap.size ≤ b
  nt : t ∉ m.own
  sh : M.A = A ∧ M.T = T
theorem DR.lt {w wr : World} {t : Nat} {m : MemId} {M : MemV} {d : DH} {A T : Nat} (h : DR w wr t m M d A T) : ∀ b ∈ t :: m.own, b < wr.heap.size := by
  intro b hb
  rcases List.mem_cons.1 hb with rfl | hb
  · exact h.box.lt
  · exact h.mem.lt b hb
theorem DR.under {w wr wx : World} {t : Nat} {m : MemId} {M : MemV} {d : DH} {A T : Nat} (h : DR w wr t m M d A T) (hb : Below wr.heap.size wr wx) : DR w wx t m M d A T :=
  ⟨below_push2 h.b hb (Nat.le_refl _), h.mem.below hb, h.doc.below hb, h.box.below hb, h.lo, h.nt, h.sh⟩
theorem doV_sh (M : MemV) (a : AccV) : (doV M a).A = M.A ∧ (doV M a).T = M.T := by
  unfold doV
  split
  · split <;> exact ⟨rfl, rfl⟩
  · split
    · split <;> exact ⟨rfl, rfl⟩
    · split
      · split <;> exact ⟨rfl, rfl⟩
      · split
        · split <;> exact ⟨rfl, rfl⟩
        · exact ⟨rfl, rfl⟩
/-- the memory did it, the document's not yet -/
structure DM1 (w wr : World) (t : Nat) (m : MemId) (M M' : MemV) (d : DH) (A T : Nat) : Prop where
  b : Below w.heap.size w wr
  mem : MemIs wr (t :: m.own) m M'
  doc : DMem wr (t :: m.own) d M
  box : Blk wr t (dmX M d) 69
  lo : ∀ b ∈ t :: m.own, w.heap.size ≤ b
  nt : t ∉ m.own
  sh : M'.A = A ∧ M'.T = T
theorem DR.did {w wr wx : World} {t : Nat} {m : MemId} {M : MemV} {d : DH} {A T : Nat} {a : AccV} {e : Ending} (h : DR w wr t m M d A T) (D : Did wr (t :: m.own) m M a e wx) : DM1 w wx t m M (doV M a) d A T := by
  have h3 : ∀ b ∈ [m.g, m.gb, m.gr], b ∈ m.own := by simp [MemId.own]
  have h4 : ∀ b ∈ [m.g, m.gb, m.gr], b ∈ t :: m.own := fun b hb => List.mem_cons_of_mem _ (h3 b hb)
  refine ⟨D.fr.below h.b (Nat.le_refl _) (fun b hb => h.lo b (h4 b hb)), D.mem, h.doc.keep (D.fr.keeps.more h4), D.fr.blk h.box (fun e => h.nt (h3 _ e)), h.lo, h.nt, ?_⟩
  rw [(doV_sh M a).1, (doV_sh M a).2]; exact h.sh
theorem DM1.under {w wr wx : World} {t : Nat} {m : MemId} {M M' : MemV} {d : DH} {A T : Nat} (h : DM1 w wr t m M M' d A T) (hb : Below wr.heap.size wr wx) : DM1 w wx t m M M' d A T :=
  ⟨below_push2 h.b hb (Nat.le_refl _), h.mem.below hb, h.doc.below hb, h.box.below hb, h.lo, h.nt, h.sh⟩
theorem DM1.lt {w wr : World} {t : Nat} {m : MemId} {M M' : MemV} {d : DH} {A T : Nat} (h : DM1 w wr t m M M' d A T) : ∀ b ∈ t :: m.own, b < wr.heap.size := by
  intro b hb
  rcases List.mem_cons.1 hb with rfl | hb
  · exact h.box.lt
  · exact h.mem.lt b hb
/-- the document's did it, too, and was stored -/
theorem DM1.done {w wr wx : World} {t : Nat} {m : MemId} {M M' : MemV} {d d' : DH} {A T : Nat} (h : DM1 w wr t m M M' d A T) (hb : Below wr.heap.size wr wx) (hd : DMem wx (t :: m.own) d' M') : DR w (wx.setRow t (dmX M' d')) t m M' d' A T := by
  have F : Fr [t] wx (wx.setRow t (dmX M' d')) := Fr.row _ _ (by simp)
  have h1 := h.under hb
  refine ⟨F.below h1.b (Nat.le_refl _) (fun b hb => by
    have e : b = t := by simpa using hb
    subst e
    exact h.lo _ (List.mem_cons_self)), h1.mem.keep F (by simp) (fun b hb e => h.nt (by
      have e : b = t := by simpa using e
      exact e ▸ hb)), hd.keep (F.keeps.more (by simp)), Blk.row h1.box _, h.lo, h.nt, h.sh⟩
theorem neqOp (w : World) (x : OpV) : (binOp .neq 37 (.agg (opL x).toArray) (.agg (opL x).toArray)).run Try.prog w = .ok (.bool false) w := by
  obtain ⟨a, b, c, e, f⟩ := x
  show (binOp .neq 37 (.agg #[.int .i64 a, .string b, .string c, .int .u64 e, .int .i64 f]) (.agg #[.int .i64 a, .string b, .string c, .int .u64 e, .int .i64 f])).run Try.prog w = _
  rw [run_neq_struct]
  go_simp
theorem rep_op {w : World} {b : Nat} {q : BlockH} {r : ReplyV} {T : TypeId} (B : Blk w b (repA q r) T) : w.rangeAt b 20 (opL r.op) := by
  refine range_blk B 20 _ (fun j v hj => ?_)
  have e : (repA q r).toList.drop 20 = opL r.op := rfl
  rw [← e, List.getElem?_drop] at hj
  simpa using hj
theorem rep_block {w : World} {b : Nat} {q : BlockH} {r : ReplyV} {T : TypeId} (B : Blk w b (repA q r) T) : w.rangeAt b 3 (blockA q r.block).toList := by
  refine range_blk B 3 _ (fun j v hj => ?_)
  have hj17 : j < 17 := (List.getElem?_eq_some_iff.1 hj).1
  have e : (((repA q r).toList.drop 3).take 17) = (blockA q r.block).toList := rfl
  rw [← e, List.getElem?_take_of_lt hj17, List.getElem?_drop] at hj
  simpa using hj
end Go.Proofs.Ytpempcefgfmniaa.MemP

/-
  MemoryDoes: the walk with a memory.
-/
namespace Go.Proofs.Ytpempcefgfmniaa.MemP
open Go.RowKit RefP CellP Dp QuietRow Go.Sort
set_option linter.unusedVariables false
set_option linter.unusedSimpArgs false
theorem AccOk.more {w : World} {S S' : List Nat} {q : BlockH} {x : AccV} (h : AccOk w S q x) (k : ∀ b ∈ S', b ∈ S ∨ w.heap.size ≤ b) : AccOk w S' q x := ⟨h.kind, h.at_, h.ver, h.word, h.block.more k, h.op⟩
set_option maxRecDepth 100000 in
set_option maxHeartbeats 6400000 in
theorem does_main (A T : Nat) (gen : Int) (a : Option Addr) (c : Nat) (xs : List AccV) (w : World) (H : RowRep accT w [] a xs) (hm : xs.length ≤ 9223372036854775807) (hL : lightL xs = true) (fx : ∀ x ∈ xs, Few x.block) (hA1 : 1 ≤ A) (hA2 : A ≤ 30) (hT1 : 1 ≤ T) (hT2 : T ≤ 16) (g0 : 0 ≤ gen) (g1 : gen < 4294967295) :
    Calls Try.prog 6 #[.int .i64 A, .int .i64 T, .int .u64 gen, .slice a xs.length c] w fun e w' => e = .returned (.bool true) ∧ Below w.heap.size w w' := by
  have hA2' : (A : Int) ≤ 30 := by omega
  go_enter Try.func6, Try.ntmps6
  go_wp2_with fail
  refine (light_any [] a c xs w H hm).mono ?_
  rintro e w2 ⟨rfl, hb2⟩
  rw [hL]
  go_wp2_with fail
  refine (mnew_yes A T gen w2 (by omega) (by omega) (by omega) (by omega) (by omega) (by omega)).mono ?_
  rintro e w3 ⟨o, oc, g, gb, gr, rfl, hM, hb3, ho, hoc, hg, hgb, hgr⟩
  have hR0 : MemIs w3 (MemId.own ⟨o, oc, g, gb, gr⟩) ⟨o, oc, g, gb, gr⟩ (newV A T gen) := new_is hM
  have hsz2 := hb2.size
  have hlo : ∀ b ∈ MemId.own ⟨o, oc, g, gb, gr⟩, w.heap.size ≤ b := by simp only [MemId.own, List.mem_cons, List.not_mem_nil, or_false, forall_eq_or_imp, forall_eq]; omega
  obtain ⟨m, hm'⟩ : ∃ m : MemId, m = ⟨o, oc, g, gb, gr⟩ := ⟨_, rfl⟩
  have ho' : o = m.o := by rw [hm']
  rw [← hm'] at hR0 hlo
  clear hm'
  subst ho'
  replace hb2 := below_push2 hb2 hb3 (Nat.le_refl _)
  clear hM hb3 ho hoc hg hgb hgr hsz2
  go_wp2_with fail
  refine (dmay_yes A T gen _ ⟨by omega, by omega, by omega, by omega, by omega⟩).mono ?_
  rintro e w4 ⟨rfl, rfl⟩
  go_wp2_with fail
  refine (show Calls _ _ _ _ _ from dmnew_is m.own A T gen w3 hR0.lt hA1 (by omega) hT1 hT2 g0 g1).mono ?_
  rintro e w4 ⟨d0, rfl, hd0, hb4⟩
  have hbx : Below w4.heap.size w4 (w4.alloc (.cells (dmX (newV A T gen) d0) 69)) := (Below.refl _ w4).alloc (Nat.le_refl _) _
  have BL := Blk.new w4 (dmX (newV A T gen) d0) 69
  have hb5 := below_push2 (below_push2 hb2 hb4 (Nat.le_refl _)) hbx (Nat.le_refl _)
  have hR : DR w (w4.alloc (.cells (dmX (newV A T gen) d0) 69)) w4.heap.size m (newV A T gen) d0 A T := by
    have hsz := (below_push2 hb2 hb4 (Nat.le_refl _)).size
    have hmr : ∀ b ∈ w4.heap.size :: m.own, b ∈ m.own ∨ w4.heap.size ≤ b := fun b hb => by
      rcases List.mem_cons.1 hb with rfl | hb
      · exact .inr (Nat.le_refl _)
      · exact .inl hb
    have hn : w4.heap.size ∉ m.own := fun e => by
      have h1 := hR0.lt _ e
      have h2 := hb4.size
      omega
    refine ⟨hb5, (((hR0.below hb4).more hmr (fun b hb => List.mem_cons_of_mem _ hb))).below hbx, (hd0.more hmr).below hbx, BL, fun b hb => ?_, hn, ⟨rfl, rfl⟩⟩
    rcases List.mem_cons.1 hb with rfl | hb
    · exact hsz
    · exact hlo b hb
  have hR := Lib.hid hR
  generalize hW : w4.alloc (.cells (dmX (newV A T gen) d0) 69) = w5 at hR
  replace hW := Lib.hid hW
  clear hbx BL hb5 hb4 hd0 hR0 hb2 hlo
  go_upto_region 9 with (refine wpList_store_row rfl 69 _ _ rfl _ _ rfl rfl 69 _ (Blk.new w4 _ _).h (by kernel_rfl) (by rfl) (by kernel_rfl) ?_; rw [World.setRow_alloc_new, hW.out])
  clear hW
  generalize w4.heap.size = t at hR ⊢
  generalize newV A T gen = M0 at hR
  go_wp2_with fail
  go_loopw [99] (fun i wr => ∃ (k : Nat) (M : MemV) (d : DH), k ≤ xs.length ∧ i = .int .i64 k ∧ DR w wr t m M d A T) (fun i _ => xs.length - (intOf i).toNat)
  case atStart => exact ⟨0, M0, d0, Nat.zero_le _, rfl, hR.out⟩
  case round =>
    clear hR
    obtain ⟨k, M, d, hk, rfl, hR⟩ := hrel
    by_cases hlt : k < xs.length
    · have hlt' : (k : Int) < (xs.length : Int) := by omega
      obtain ⟨b, off, qa, hxa, hbl0, hcs0, hok0⟩ := acc_cell H k hlt
      obtain rfl := hxa
      have hfa := fx _ (List.getElem_mem hlt)
      generalize xs[k] = ac at hcs0 hok0 hfa
      have hbl : b < wr.heap.size := Nat.lt_of_lt_of_le hbl0 hR.b.size
      have hcs := (Fr.of_below (S := []) hR.b).range hcs0 hbl0 (by simp)
      have hoku : AccOk w (t :: m.own) qa ac := AccOk.more hok0 (fun b hb => .inr (hR.lo b hb))
      have BX := Blk.new wr (acc26 qa ac).toArray 39
      have hbx : Below wr.heap.size wr (wr.alloc (.cells (acc26 qa ac).toArray 39)) := (Below.refl _ wr).alloc (Nat.le_refl _) _
      have hR1 := hR.under hbx
      have hlw := hR.lt
      go_wp2_with (first
        | (refine wpList_load_mid rfl 39 _ rfl b (off + k * 26) rfl (acc26 qa ac) _ hcs Try.underlying39 rfl (by kernel_rfl) ?_)
        | (refine wpList_load_row rfl 39 _ rfl wr.heap.size rfl 39 _ (0, 0) _ BX.h Try.underlying39 rfl (by kernel_rfl) ?_)
        | (refine wpList_store_row rfl 39 _ _ rfl _ _ rfl rfl 39 _ (Blk.new wr _ _).h (by kernel_rfl) (by rfl) (by kernel_rfl) ?_; rw [World.setRow_alloc_new]))
      refine (show Calls _ _ _ _ _ from do_any ac qa _ hR1.mem hR1.lt (hok0.keep (Keeps.of_below hR1.b)) hfa).mono ?_
      intro e w5 hD
      obtain ⟨⟨qr, rfl, hrep, hz⟩, _, _⟩ := id hD
      have hD1 := hR1.did hD
      have hS3 : ∀ b ∈ [m.g, m.gb, m.gr], b ∈ t :: m.own := by simp [MemId.own]
      have BX5 := hD.fr.blk BX (fun e => by have := hlw _ (hS3 _ e); omega)
      have hN := hR1.lt
      generalize (wr.alloc (.cells (acc26 qa ac).toArray 39)).heap.size = NN at hrep hN
      have hX : wr.heap.size < w5.heap.size := BX5.lt
      have hTX : t < wr.heap.size := hlw t List.mem_cons_self
      generalize wr.heap.size = X at BX5 hX hTX ⊢
      clear hR hR1 hD BX hbx hcs hlw hbl
      obtain ⟨M', hM'⟩ : ∃ M', M' = doV M ac := ⟨_, rfl⟩
      rw [← hM'] at hD1
      replace hM' := Lib.hid hM'
      obtain ⟨r, hr⟩ : ∃ r, r = repV M ac := ⟨_, rfl⟩
      rw [← hr] at hrep ⊢
      replace hr := Lib.hid hr
      have BQ := Blk.new w5 (repA qr r) 50
      have hbq : Below w5.heap.size w5 (w5.alloc (.cells (repA qr r) 50)) := (Below.refl _ w5).alloc (Nat.le_refl _) _
      have hD2 := hD1.under hbq
      have BX6 := BX5.below hbq
      have hrb := hrep.block.keep (Keeps.of_below hbq)
      generalize hW : w5.alloc (.cells (repA qr r) 50) = w6 at hD2 BX6 BQ hrb
      replace hW := Lib.hid hW
      clear hD1 BX5 hbq
      go_wp2_with (first
        | (refine wpList_store_row rfl 50 _ _ rfl _ _ rfl rfl 50 _ (Blk.new w5 _ _).h (by kernel_rfl) (by rfl) (by kernel_rfl) ?_; rw [World.setRow_alloc_new, hW.out])
        | (refine wpList_load_row rfl 69 _ rfl t rfl 69 _ (0, 0) _ hD2.box.h Try.underlying69 rfl (by kernel_rfl) ?_)
        | (refine wpList_load_row rfl 39 _ rfl X rfl 39 _ (0, 0) _ BX6.h Try.underlying39 rfl (by kernel_rfl) ?_))
      refine (show Calls _ _ _ _ _ from ddo_any (S := t :: m.own) M d ac qa w6 hD2.doc hD2.lt (hoku.keep (Keeps.of_below hD2.b))).mono ?_
      intro e w7 hDD
      obtain ⟨d', q', rfl, hd', hbk', hb7⟩ := hDD
      rw [← hr.out] at hbk' ⊢
      have ht7 : t < X := hTX
      have hM'0 : Hid (M' = doV M ac) := hM'
      rw [← hM'.out] at hd' ⊢
      have hb8 : Below w7.heap.size w7 ((w7.alloc (.cells #[.int .i64 0, .int .i64 0, .slice none 0 0, .slice none 0 0, .slice none 0 0] 69)).alloc (.cells #[.bool false, .int .u64 0, .int .u64 0, .int .i64 0, .int .i64 0, .string ⟨#[]⟩, .string ⟨#[]⟩, .bool false, .int .i64 0, .slice none 0 0, .slice none 0 0, .slice none 0 0, .int .i64 0, .int .i64 0, .string ⟨#[]⟩, .int .u64 0, .slice none 0 0, .slice none 0 0, .slice none 0 0, .slice none 0 0, .int .i64 0, .string ⟨#[]⟩, .string ⟨#[]⟩, .int .u64 0, .int .i64 0] 50)) := by (repeat (first | exact Below.refl _ _ | assumption | refine below_alloc2 ?_ (by first | exact Nat.le_refl _ | omega) _ | refine Below.drew ?_ | refine below_drewN ?_ _ | refine below_push2 ?_ ‹_› (by first | exact Nat.le_refl _ | omega) | refine Below.setCell ?_ (by first | (simp; done) | (simp; omega) | omega) _))
      have BM8 : Blk ((w7.alloc (.cells #[.int .i64 0, .int .i64 0, .slice none 0 0, .slice none 0 0, .slice none 0 0] 69)).alloc (.cells #[.bool false, .int .u64 0, .int .u64 0, .int .i64 0, .int .i64 0, .string ⟨#[]⟩, .string ⟨#[]⟩, .bool false, .int .i64 0, .slice none 0 0, .slice none 0 0, .slice none 0 0, .int .i64 0, .int .i64 0, .string ⟨#[]⟩, .int .u64 0, .slice none 0 0, .slice none 0 0, .slice none 0 0, .slice none 0 0, .int .i64 0, .string ⟨#[]⟩, .string ⟨#[]⟩, .int .u64 0, .int .i64 0] 50)) w7.heap.size #[.int .i64 0, .int .i64 0, .slice none 0 0, .slice none 0 0, .slice none 0 0] 69 := (Blk.new w7 #[.int .i64 0, .int .i64 0, .slice none 0 0, .slice none 0 0, .slice none 0 0] 69).alloc (.cells #[.bool false, .int .u64 0, .int .u64 0, .int .i64 0, .int .i64 0, .string ⟨#[]⟩, .string ⟨#[]⟩, .bool false, .int .i64 0, .slice none 0 0, .slice none 0 0, .slice none 0 0, .int .i64 0, .int .i64 0, .string ⟨#[]⟩, .int .u64 0, .slice none 0 0, .slice none 0 0, .slice none 0 0, .slice none 0 0, .int .i64 0, .string ⟨#[]⟩, .string ⟨#[]⟩, .int .u64 0, .int .i64 0] 50)
      have BR8 : Blk ((w7.alloc (.cells #[.int .i64 0, .int .i64 0, .slice none 0 0, .slice none 0 0, .slice none 0 0] 69)).alloc (.cells #[.bool false, .int .u64 0, .int .u64 0, .int .i64 0, .int .i64 0, .string ⟨#[]⟩, .string ⟨#[]⟩, .bool false, .int .i64 0, .slice none 0 0, .slice none 0 0, .slice none 0 0, .int .i64 0, .int .i64 0, .string ⟨#[]⟩, .int .u64 0, .slice none 0 0, .slice none 0 0, .slice none 0 0, .slice none 0 0, .int .i64 0, .string ⟨#[]⟩, .string ⟨#[]⟩, .int .u64 0, .int .i64 0] 50)) (w7.heap.size + 1) #[.bool false, .int .u64 0, .int .u64 0, .int .i64 0, .int .i64 0, .string ⟨#[]⟩, .string ⟨#[]⟩, .bool false, .int .i64 0, .slice none 0 0, .slice none 0 0, .slice none 0 0, .int .i64 0, .int .i64 0, .string ⟨#[]⟩, .int .u64 0, .slice none 0 0, .slice none 0 0, .slice none 0 0, .slice none 0 0, .int .i64 0, .string ⟨#[]⟩, .string ⟨#[]⟩, .int .u64 0, .int .i64 0] 50 := by
        have := Blk.new (w7.alloc (.cells #[.int .i64 0, .int .i64 0, .slice none 0 0, .slice none 0 0, .slice none 0 0] 69)) #[.bool false, .int .u64 0, .int .u64 0, .int .i64 0, .int .i64 0, .string ⟨#[]⟩, .string ⟨#[]⟩, .bool false, .int .i64 0, .slice none 0 0, .slice none 0 0, .slice none 0 0, .int .i64 0, .int .i64 0, .string ⟨#[]⟩, .int .u64 0, .slice none 0 0, .slice none 0 0, .slice none 0 0, .slice none 0 0, .int .i64 0, .string ⟨#[]⟩, .string ⟨#[]⟩, .int .u64 0, .int .i64 0] 50
        simpa using this
      have FA : Fr [w7.heap.size] ((w7.alloc (.cells #[.int .i64 0, .int .i64 0, .slice none 0 0, .slice none 0 0, .slice none 0 0] 69)).alloc (.cells #[.bool false, .int .u64 0, .int .u64 0, .int .i64 0, .int .i64 0, .string ⟨#[]⟩, .string ⟨#[]⟩, .bool false, .int .i64 0, .slice none 0 0, .slice none 0 0, .slice none 0 0, .int .i64 0, .int .i64 0, .string ⟨#[]⟩, .int .u64 0, .slice none 0 0, .slice none 0 0, .slice none 0 0, .slice none 0 0, .int .i64 0, .string ⟨#[]⟩, .string ⟨#[]⟩, .int .u64 0, .int .i64 0] 50)) (((w7.alloc (.cells #[.int .i64 0, .int .i64 0, .slice none 0 0, .slice none 0 0, .slice none 0 0] 69)).alloc (.cells #[.bool false, .int .u64 0, .int .u64 0, .int .i64 0, .int .i64 0, .string ⟨#[]⟩, .string ⟨#[]⟩, .bool false, .int .i64 0, .slice none 0 0, .slice none 0 0, .slice none 0 0, .int .i64 0, .int .i64 0, .string ⟨#[]⟩, .int .u64 0, .slice none 0 0, .slice none 0 0, .slice none 0 0, .slice none 0 0, .int .i64 0, .string ⟨#[]⟩, .string ⟨#[]⟩, .int .u64 0, .int .i64 0] 50)).setRow w7.heap.size (dmX M' d')) := Fr.row _ _ (by simp)
      have MA := Blk.row BM8 (dmX M' d')
      have RA := FA.blk BR8 (by simp)
      have RB := Blk.row RA (repA q' r)
      have FB : Fr [w7.heap.size + 1] (((w7.alloc (.cells #[.int .i64 0, .int .i64 0, .slice none 0 0, .slice none 0 0, .slice none 0 0] 69)).alloc (.cells #[.bool false, .int .u64 0, .int .u64 0, .int .i64 0, .int .i64 0, .string ⟨#[]⟩, .string ⟨#[]⟩, .bool false, .int .i64 0, .slice none 0 0, .slice none 0 0, .slice none 0 0, .int .i64 0, .int .i64 0, .string ⟨#[]⟩, .int .u64 0, .slice none 0 0, .slice none 0 0, .slice none 0 0, .slice none 0 0, .int .i64 0, .string ⟨#[]⟩, .string ⟨#[]⟩, .int .u64 0, .int .i64 0] 50)).setRow w7.heap.size (dmX M' d')) ((((w7.alloc (.cells #[.int .i64 0, .int .i64 0, .slice none 0 0, .slice none 0 0, .slice none 0 0] 69)).alloc (.cells #[.bool false, .int .u64 0, .int .u64 0, .int .i64 0, .int .i64 0, .string ⟨#[]⟩, .string ⟨#[]⟩, .bool false, .int .i64 0, .slice none 0 0, .slice none 0 0, .slice none 0 0, .int .i64 0, .int .i64 0, .string ⟨#[]⟩, .int .u64 0, .slice none 0 0, .slice none 0 0, .slice none 0 0, .slice none 0 0, .int .i64 0, .string ⟨#[]⟩, .string ⟨#[]⟩, .int .u64 0, .int .i64 0] 50)).setRow w7.heap.size (dmX M' d')).setRow (w7.heap.size + 1) (repA q' r)) := Fr.row _ _ (by simp)
      have MB := FB.blk MA (by simp)
      have hbw : Below w7.heap.size w7 ((((w7.alloc (.cells #[.int .i64 0, .int .i64 0, .slice none 0 0, .slice none 0 0, .slice none 0 0] 69)).alloc (.cells #[.bool false, .int .u64 0, .int .u64 0, .int .i64 0, .int .i64 0, .string ⟨#[]⟩, .string ⟨#[]⟩, .bool false, .int .i64 0, .slice none 0 0, .slice none 0 0, .slice none 0 0, .int .i64 0, .int .i64 0, .string ⟨#[]⟩, .int .u64 0, .slice none 0 0, .slice none 0 0, .slice none 0 0, .slice none 0 0, .int .i64 0, .string ⟨#[]⟩, .string ⟨#[]⟩, .int .u64 0, .int .i64 0] 50)).setRow w7.heap.size (dmX M' d')).setRow (w7.heap.size + 1) (repA q' r)) := below_setRow (below_setRow hb8 (Nat.le_refl _) _) (by omega) _
      have hbv := below_push2 hb7 hbw (Nat.le_refl _)
      have BLb := hD2.box.below hbv
      have hD3 := hD2.done hbv (hd'.below hbw)
      have F9 : Fr [t] ((((w7.alloc (.cells #[.int .i64 0, .int .i64 0, .slice none 0 0, .slice none 0 0, .slice none 0 0] 69)).alloc (.cells #[.bool false, .int .u64 0, .int .u64 0, .int .i64 0, .int .i64 0, .string ⟨#[]⟩, .string ⟨#[]⟩, .bool false, .int .i64 0, .slice none 0 0, .slice none 0 0, .slice none 0 0, .int .i64 0, .int .i64 0, .string ⟨#[]⟩, .int .u64 0, .slice none 0 0, .slice none 0 0, .slice none 0 0, .slice none 0 0, .int .i64 0, .string ⟨#[]⟩, .string ⟨#[]⟩, .int .u64 0, .int .i64 0] 50)).setRow w7.heap.size (dmX M' d')).setRow (w7.heap.size + 1) (repA q' r)) (((((w7.alloc (.cells #[.int .i64 0, .int .i64 0, .slice none 0 0, .slice none 0 0, .slice none 0 0] 69)).alloc (.cells #[.bool false, .int .u64 0, .int .u64 0, .int .i64 0, .int .i64 0, .string ⟨#[]⟩, .string ⟨#[]⟩, .bool false, .int .i64 0, .slice none 0 0, .slice none 0 0, .slice none 0 0, .int .i64 0, .int .i64 0, .string ⟨#[]⟩, .int .u64 0, .slice none 0 0, .slice none 0 0, .slice none 0 0, .slice none 0 0, .int .i64 0, .string ⟨#[]⟩, .string ⟨#[]⟩, .int .u64 0, .int .i64 0] 50)).setRow w7.heap.size (dmX M' d')).setRow (w7.heap.size + 1) (repA q' r)).setRow t (dmX M' d')) := Fr.row _ _ (by simp)
      have h6 := hD2.lt t (List.mem_cons_self)
      have h7 := hb7.size
      have RB9 := F9.blk RB (by simp; omega)
      have BQ9 := F9.blk (BQ.below hbv) (by simp; omega)
      have BX9 := F9.blk (BX6.below hbv) (by simp; omega)
      have hrb9 := (hrb.keep (Keeps.of_below hbv)).keep (F9.keeps.more (S' := List.range NN) (fun b hb => by
        have e : b = t := by simpa using hb
        subst e
        exact List.mem_range.2 (hN _ List.mem_cons_self)))
      have hbk9 := (hbk'.keep (Keeps.of_below hbw)).keep (F9.keeps.more (S' := t :: m.own) (by simp))
      clear hd' hb8 hbw hbv hD2 hb7 BQ BX6 hrb hbk' FB FA
      go_upto_region 15 with (first
        | (refine wpList_store_row rfl 69 _ _ rfl w7.heap.size (dmX M' d') rfl rfl 69 _ BM8.h (by kernel_rfl) (by rfl) (by kernel_rfl) ?_)
        | (refine wpList_store_row rfl 50 _ _ rfl (w7.heap.size + 1) (repA q' r) rfl rfl 50 _ RA.h (by kernel_rfl) (by rfl) (by kernel_rfl) ?_)
        | (refine wpList_load_row rfl 69 _ rfl w7.heap.size rfl 69 _ (0, 0) _ MB.h Try.underlying69 rfl (by kernel_rfl) ?_)
        | (refine wpList_store_row rfl 69 _ _ rfl t (dmX M' d') rfl rfl 69 _ BLb.h (by kernel_rfl) (by rfl) (by kernel_rfl) ?_))
      generalize (((((w7.alloc (.cells #[.int .i64 0, .int .i64 0, .slice none 0 0, .slice none 0 0, .slice none 0 0] 69)).alloc (.cells #[.bool false, .int .u64 0, .int .u64 0, .int .i64 0, .int .i64 0, .string ⟨#[]⟩, .string ⟨#[]⟩, .bool false, .int .i64 0, .slice none 0 0, .slice none 0 0, .slice none 0 0, .int .i64 0, .int .i64 0, .string ⟨#[]⟩, .int .u64 0, .slice none 0 0, .slice none 0 0, .slice none 0 0, .slice none 0 0, .int .i64 0, .string ⟨#[]⟩, .string ⟨#[]⟩, .int .u64 0, .int .i64 0] 50)).setRow w7.heap.size (dmX M' d')).setRow (w7.heap.size + 1) (repA q' r)).setRow t (dmX M' d')) = w9 at hD3 RB9 BQ9 BX9 hrb9 hbk9 ⊢
      clear BM8 BR8 MA RA RB MB BLb F9
      generalize w7.heap.size + 1 = Y2 at RB9 ⊢
      generalize w5.heap.size = Y1 at BQ9 ⊢
      have x0 := BQ9.at 0 rfl
      have x1 := BQ9.at 1 rfl
      have x2 := BQ9.at 2 rfl
      have y0 := RB9.at 0 rfl
      have y1 := RB9.at 1 rfl
      have y2 := RB9.at 2 rfl
      have a1 := BX9.at 1 rfl
      have a2 := BX9.at 2 rfl
      have ro : w9.rangeAt Y1 20 [.int .i64 r.op.kind, .string r.op.key, .string r.op.upto, .int .u64 r.op.val, .int .i64 r.op.limit] := rep_op BQ9
      have ro' : w9.rangeAt Y2 20 [.int .i64 r.op.kind, .string r.op.key, .string r.op.upto, .int .u64 r.op.val, .int .i64 r.op.limit] := rep_op RB9
      have rb := rep_block BQ9
      have rb' := rep_block RB9
      have rm := range_all hD3.box
      have hno : ∀ w, (binOp .neq 37 (.agg ([.int .i64 r.op.kind, .string r.op.key, .string r.op.upto, .int .u64 r.op.val, .int .i64 r.op.limit]).toArray) (.agg ([.int .i64 r.op.kind, .string r.op.key, .string r.op.upto, .int .u64 r.op.val, .int .i64 r.op.limit]).toArray)).run Try.prog w = .ok (.bool false) w := fun w => neqOp w r.op
      go_wp2_with (first
        | (refine wpList_load_midg (by rfl) 37 _ rfl Y1 20 rfl [.int .i64 r.op.kind, .string r.op.key, .string r.op.upto, .int .u64 r.op.val, .int .i64 r.op.limit] _ ro Try.underlying37 rfl (by kernel_rfl) ?_)
        | (refine wpList_load_midg (by rfl) 37 _ rfl Y2 20 rfl [.int .i64 r.op.kind, .string r.op.key, .string r.op.upto, .int .u64 r.op.val, .int .i64 r.op.limit] _ ro' Try.underlying37 rfl (by kernel_rfl) ?_)
        | (refine wpList_load_midg (by rfl) 35 _ rfl Y1 3 rfl (blockA qr r.block).toList _ rb Try.underlying35 rfl (by kernel_rfl) ?_)
        | (refine wpList_load_midg (by rfl) 35 _ rfl Y2 3 rfl (blockA q' r.block).toList _ rb' Try.underlying35 rfl (by kernel_rfl) ?_))
      refine (show Calls _ _ _ _ _ from msame_any (List.range NN) (t :: m.own) qr q' r.block r.block w9 hrb9 hbk9).mono ?_
      rintro e w10 ⟨rfl, hb10⟩
      rw [show decide (r.block = r.block) = true from decide_eq_true rfl]
      have hD4 := hD3.under hb10
      have BX10 := BX9.below hb10
      clear x0 x1 x2 y0 y1 y2 a1 a2 ro ro' rb rb' rm hno hrb9 hbk9 hD3 BX9 BQ9 RB9 hb10
      have rm := range_all hD4.box
      have a1 := BX10.at 1 rfl
      have a2 := BX10.at 2 rfl
      go_wp2_with (refine wpList_load_midg (by rfl) 69 _ rfl t 0 rfl (dmX M' d').toList _ rm Try.underlying69 rfl (by kernel_rfl) ?_)
      obtain ⟨bs, hMA⟩ := hD4.mem.at_
      refine (places_any M' d' ac.at_ _ _ hMA hok0.at_.1 hok0.at_.2).mono ?_
      rintro e w11 ⟨rfl, hb11⟩
      have hD5 := hD4.under hb11
      have BX11 := BX10.below hb11
      clear rm a1 a2 hMA hD4 BX10 hb11 bs
      have a3 := BX11.at 3 rfl
      have hW := hok0.word
      by_cases hNm : nameB M'.A M'.T M'.L ac.word = true
      · obtain ⟨p, hp, hpP, hoP⟩ := named_lt hNm
        obtain ⟨⟨bs, hMA, hIs⟩, hlB, _, _⟩ := hD5.mem
        obtain ⟨qb, hqb, hokb, hfb⟩ := hIs p hp
        obtain ⟨bv, hbv⟩ : ∃ bv, bv = M'.B.getD p blockZ := ⟨_, rfl⟩
        rw [← hbv] at hqb hokb hfb
        replace hbv := Lib.hid hbv
        go_wp2_with fail
        refine (block_yes ac.word p (t :: m.own) qb _ _ hMA hW.1 hW.2 hNm hp hpP hqb hokb hfb).mono ?_
        clear hIs hqb hokb hMA
        rintro e w12 ⟨⟨qz, rfl, hokz⟩, hb12⟩
        have hD6 := hD5.under hb12
        have BX12 := BX11.below hb12
        have hbx : Below w12.heap.size w12 (w12.alloc (.cells (blockA qz bv) 35)) := (Below.refl _ w12).alloc (Nat.le_refl _) _
        have BZ := Blk.new w12 (blockA qz bv) 35
        have hD7 := hD6.under hbx
        have BX13 := BX12.below hbx
        have hokz2 := hokz.keep (Keeps.of_below hbx)
        generalize hW2 : w12.alloc (.cells (blockA qz bv) 35) = w13 at hD7 BX13 BZ hokz2
        replace hW2 := Lib.hid hW2
        clear hbx hD6 BX12 hokz hb12 hD5 BX11 a3
        have a3 := BX13.at 3 rfl
        have hbox := hD7.box
        go_wp2_with (first
          | (refine wpList_store_row rfl 35 _ _ rfl _ _ rfl rfl 35 _ (Blk.new w12 _ _).h (by kernel_rfl) (by rfl) (by kernel_rfl) ?_; rw [World.setRow_alloc_new, hW2.out])
          | (refine wpList_load_row rfl 69 _ rfl t rfl 69 _ (0, 0) _ hbox.h Try.underlying69 rfl (by kernel_rfl) ?_))
        refine (dnamed_any M' d' ac.word _ hD7.doc hW.1 hW.2).mono ?_
        rintro e w14 ⟨rfl, hb14⟩
        rw [(nameI_yes hNm).1, hoP]
        have hD8 := hD7.under hb14
        have BZ2 := BZ.below hb14
        have hokz3 := hokz2.keep (Keeps.of_below hb14)
        generalize w12.heap.size = Z at BZ2 hokz3 ⊢
        clear hD7 BX13 BZ hokz2 hb14 a3 hW2 hbox
        have hpA : p < M'.A := hp
        obtain ⟨bb, off3, q3, hda, hbb, _, hrg, hok3⟩ := hD8.doc.block p hpA
        rw [← hbv.out] at hrg hok3
        have c3 : w14.cell? ⟨t, 3, none⟩ = some (.slice (some ⟨bb, off3, none⟩) M'.B.length d'.h2.c) := by rw [← hda]; exact hD8.box.at 3 rfl
        clear hda
        have hkk : (p : Int) < (M'.B.length : Int) := by omega
        have kb := fun dd os => cell_regrown c3 dd os
        have rZ := range_regrown (range_all BZ2)
        have rB := range_regrown hrg
        have kS := fun dd os => Calls.regrown_of (sameB_any _ _ qz q3 bv bv (grow (redrawn w14 dd) os) (hokz3.keep (Keeps.of_below (below_regrown w14 dd os))) (hok3.keep (Keeps.of_below (below_regrown w14 dd os))))
        simp only [decide_true] at kS
        go_upto_region 19 with (fail)
        clear hrg hok3 hokz3 BZ2 c3
        refine wp_region_quiet_below (by kernel_rfl) (by kernel_rfl) ?_
        iterate 27 (first
          | go_big_quiet_skip
          | (go_big_quiet_want; first
            | ((first
                | (refine quiet_load_arr 35 _ rfl Z 0 rfl (blockA qz bv) _ rZ Try.underlying35 rfl (by kernel_rfl) ?_)
                | (refine quiet_load_arr 35 _ rfl bb (off3 + p * 17) rfl (blockA q3 bv) _ rB Try.underlying35 rfl (by kernel_rfl) ?_)); simp only [Act.put, List.setIfInBounds_toArray, List.set_cons_succ, List.set_cons_zero]; go_big_quiet_on)
            | (go_big_quiet_op; first | go_big_quiet_on | go_big_quiet_call (with_reducible exact kS _ _))))
        refine wpQuiet_nil ?_
        intro w15 hw'
        have hb15 := RefP.below_of_regrown hw'
        clear hw' kb rZ rB kS
        have hD9 := hD8.under hb15
        go_wp2_with fail
        go_roundw
        case rel => exact ⟨k + 1, M', d', by omega, by go_num, hD9⟩
        case measure => simp [intOf]; omega
      · have hNm' : nameB M'.A M'.T M'.L ac.word = false := by simpa using hNm
        obtain ⟨bs, hMA⟩ := hD5.mem.at_
        go_wp2_with fail
        refine (block_no ac.word _ hMA hW.1 hW.2 hNm').mono ?_
        rintro e w12 ⟨rfl, hb12⟩
        have hD6 := hD5.under hb12
        have BX12 := BX11.below hb12
        have hbx : Below w12.heap.size w12 (w12.alloc (.cells bkZ 35)) := (Below.refl _ w12).alloc (Nat.le_refl _) _
        have BZ := Blk.new w12 bkZ 35
        have hD7 := hD6.under hbx
        have BX13 := BX12.below hbx
        generalize hW2 : w12.alloc (.cells bkZ 35) = w13 at hD7 BX13 BZ
        replace hW2 := Lib.hid hW2
        clear hbx hD6 BX12 hb12 hD5 BX11 a3 hMA
        have a3 := BX13.at 3 rfl
        have hbox := hD7.box
        go_wp2_with (first
          | (refine wpList_store_row rfl 35 _ _ rfl _ _ rfl rfl 35 _ (Blk.new w12 _ _).h (by kernel_rfl) (by rfl) (by kernel_rfl) ?_; rw [World.setRow_alloc_new, hW2.out])
          | (refine wpList_load_row rfl 69 _ rfl t rfl 69 _ (0, 0) _ hbox.h Try.underlying69 rfl (by kernel_rfl) ?_))
        refine (dnamed_any M' d' ac.word _ hD7.doc hW.1 hW.2).mono ?_
        rintro e w14 ⟨rfl, hb14⟩
        rw [show nameI M' ac.word = -1 by simp [nameI, hNm']]
        have hD8 := hD7.under hb14
        have BZ2 := BZ.below hb14
        generalize w12.heap.size = Z at BZ2 ⊢
        clear hD7 BX13 BZ hb14 a3 hW2 hbox
        have rZ := range_regrown (range_all BZ2)
        have kS := fun dd os => Calls.regrown_of (sameB_any [] [] nilH nilH blockZ blockZ (grow (redrawn w14 dd) os) (blockZ_ok _ _) (blockZ_ok _ _))
        simp only [decide_true] at kS
        go_upto_region 19 with (fail)
        clear BZ2
        refine wp_region_quiet_below (by kernel_rfl) (by kernel_rfl) ?_
        iterate 27 (first
          | go_big_quiet_skip
          | (go_big_quiet_want; first
            | ((refine quiet_load_arr 35 _ rfl Z 0 rfl bkZ _ rZ Try.underlying35 rfl (by kernel_rfl) ?_); simp only [Act.put, List.setIfInBounds_toArray, List.set_cons_succ, List.set_cons_zero]; go_big_quiet_on)
            | (go_big_quiet_op; first | go_big_quiet_on | go_big_quiet_call (exact kS _ _))))
        refine wpQuiet_nil ?_
        intro w15 hw'
        have hb15 := RefP.below_of_regrown hw'
        clear hw' rZ kS
        have hD9 := hD8.under hb15
        go_wp2_with fail
        go_roundw
        case rel => exact ⟨k + 1, M', d', by omega, by go_num, hD9⟩
        case measure => simp [intOf]; omega
    · obtain rfl : k = xs.length := by omega
      have hLl : M.L.length ≤ 70000 := by
        have h1 := hR.doc.len
        have h2 := hR.doc.a1
        have h3 := hR.doc.t1
        omega
      obtain ⟨b0, off0, hda, _⟩ := hR.doc.cell 0 (by have h1 := hR.doc.len; omega)
      have c2 : wr.cell? ⟨t, 2, none⟩ = some (.slice (some ⟨b0, off0, none⟩) M.L.length d.h1.c) := by rw [← hda]; exact hR.box.at 2 rfl
      replace hda := Lib.hid hda
      go_wp2_with fail
      go_loopw [202] (fun i wq => ∃ k : Nat, k ≤ M.L.length ∧ i = .int .i64 k ∧ Below wr.heap.size wr wq) (fun i _ => M.L.length - (intOf i).toNat)
      case atStart => exact ⟨0, Nat.zero_le _, rfl, Below.refl _ _⟩
      case round =>
        clear c2
        obtain ⟨k, hk2, rfl, hbk⟩ := hrel
        by_cases hlt2 : k < M.L.length
        · have hlt' : (k : Int) < (M.L.length : Int) := by omega
          have hR2 := hR.under hbk
          obtain ⟨b, off, hda1, hbl, _, e0, e1, u0, u1⟩ := hR2.doc.cell k hlt2
          rw [hda.out] at hda1
          simp only [Option.some.injEq, Addr.mk.injEq, and_true] at hda1
          obtain ⟨rfl, rfl⟩ := hda1
          obtain ⟨bs, hMA⟩ := hR2.mem.at_
          obtain ⟨l1, l2⟩ := load_at2' hlt2
          have hin : inB M.L.length (k : Int) = true := inB_mk (by omega) (by omega)
          generalize hpr : at2 M.L k = pr at e0 e1 l1 l2
          clear hpr u0 u1
          have hbx : Below wr.heap.size wr (wr.alloc (.cells #[.int .u64 pr.1, .int .u64 pr.2] 76)) := (Below.refl _ wr).alloc (Nat.le_refl _) _
          have BC := Blk.new wr #[.int .u64 pr.1, .int .u64 pr.2] 76
          go_wp2_with fail
          refine (mload_any (k : Int) _ (hMA.below hbx)).mono ?_
          rintro e w10 ⟨rfl, hb10⟩
          rw [l1, l2, hin]
          have BC2 := BC.below hb10
          have z0 := BC2.at 0 rfl
          have z1 := BC2.at 1 rfl
          clear l1 l2 hin e0 e1
          go_wp2_with fail
          go_roundw
          case rel => exact ⟨k + 1, by omega, by go_num, below_push2 (below_push2 hbk hbx (Nat.le_refl _)) hb10 (Nat.le_refl _)⟩
          case measure => simp [intOf]; omega
        · go_wp2_with fail
          refine (lives_any _).mono ?_
          rintro e w10 ⟨rfl, hb10⟩
          go_wp2_with fail
          go_ret
          exact ⟨rfl, below_push2 (below_push2 hR.b hbk (Nat.le_refl _)) hb10 (Nat.le_refl _)⟩
end Go.Proofs.Ytpempcefgfmniaa.MemP
