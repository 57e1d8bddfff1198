/-
  edit: nobody, spare, At: contracts.
-/
import Derived.Test.YtbemgfpnoeogdaaEdSt
namespace Go.Proofs.Ytbemgfpnoeogdaa.EdP
open Go.RowKit RefP FoP Dp
set_option linter.unusedVariables false
set_option linter.unusedSimpArgs false
theorem nobody_some {w : World} {e : Nat} {p : Addr} {v1 v2 : Value} {T : TypeId} (B : Blk w e #[.pointer (some p), v1, v2] T) : Calls Try.prog 43 #[.pointer (some ⟨e, 0, none⟩)] w fun r w' => r = .returned (.bool false) ∧ w' = w := by
  have c0 := B.at 0 rfl
  go_enter Try.func43, Try.ntmps43
  go_wp2_with fail
  go_ret
  exact ⟨rfl, rfl⟩
def spFind (T : List Sp) (n : Int) : Option Sp := T.find? (fun p => p.1 == n)
def spRet (x : Option Sp) : Value := match x with | some s => .tuple #[.agg #[.int .i64 s.1, .int .u64 s.2], .bool true] | none => .tuple #[.agg sz, .bool false]
theorem find_first {α : Type} (f : α → Bool) : ∀ (T : List α) (k : Nat) (h : k < T.length), f T[k] = true → (∀ j (hj : j < T.length), j < k → f T[j] = false) → T.find? f = some T[k]
  | x :: xs, 0, h, e, _ => by simp at e; simp [List.find?, e]
  | x :: xs, k + 1, h, e, hall => by
    have h0 : f x = false := hall 0 (by simp) (by omega)
    rw [List.find?, h0]
    simpa using find_first f xs k (by simpa using h) (by simpa using e) (fun j hj hjk => hall (j + 1) (by simpa using hj) (by omega))
theorem spFind_hit {T : List Sp} {n : Int} {k : Nat} (h : k < T.length) (e : T[k].1 = n) (hall : ∀ j (hj : j < T.length), j < k → T[j].1 ≠ n) : spFind T n = some T[k] :=
  find_first _ T k h (by simpa using e) (fun j hj hjk => by simpa using hall j hj hjk)
theorem spFind_miss {T : List Sp} {n : Int} (hall : ∀ j (hj : j < T.length), T[j].1 ≠ n) : spFind T n = none := by
  unfold spFind
  rw [List.find?_eq_none]
  intro p hp
  obtain ⟨j, hj, rfl⟩ := List.getElem_of_mem hp
  simpa using hall j hj
set_option maxRecDepth 20000 in
set_option maxHeartbeats 1600000 in
theorem esp_any {w : World} {e base : Nat} {v0 v1 : Value} {ta : Option Addr} {tc : Nat} {T : List Sp} {Ty : TypeId} (B : Blk w e #[v0, v1, .slice ta T.length tc] Ty) (O : OwnS w base ta tc T) (hl : T.length ≤ 100) (n : Int) :
    Calls Try.prog 60 #[.pointer (some ⟨e, 0, none⟩), .int .i64 n] w fun r w' => r = .returned (spRet (spFind T n)) ∧ Below w.heap.size w w' := by
  have hb : Below w.heap.size w (w.alloc (.cells sz 60)) := by (repeat (first | exact Below.refl _ _ | assumption | refine below_alloc2 ?_ (by first | exact Nat.le_refl _ | omega) _ | refine Below.drew ?_ | refine below_drewN ?_ _ | refine below_push2 ?_ ‹_› (by first | exact Nat.le_refl _ | omega) | refine Below.setCell ?_ (by first | (simp; done) | (simp; omega) | omega) _))
  have BR := Blk.new w sz 60
  have B1 := B.below hb
  have O1 := O.below hb
  have hz := BR.lt
  go_enter Try.func60, Try.ntmps60
  go_upto_region 1 with (fail)
  generalize w.alloc (.cells sz 60) = w1 at hb BR B1 O1 hz ⊢
  have c2 := B1.at 2 rfl
  go_wp2_with fail
  go_loopg [13] T.length (fun gg i wr => ∃ k : Nat, k ≤ T.length ∧ T.length ≤ k + gg ∧ i = .int .i64 k ∧ Below w1.heap.size w1 wr ∧ Hid (∀ j (hj : j < T.length), j < k → T[j].1 ≠ n))
  case atStart => exact ⟨0, Nat.zero_le _, by omega, rfl, Below.refl _ _, Lib.hid fun j _ h => absurd h (by omega)⟩
  case round =>
    obtain ⟨k, hk, hkg, rfl, hb2, hall⟩ := hrel
    have hbb := below_push2 hb hb2 (Nat.le_refl _)
    have BR2 := BR.below hb2
    have hzr := hb2.size
    by_cases hlt : k < T.length
    · have hlt' : (k : Int) < (T.length : Int) := by omega
      obtain ⟨b, off, ha, hbl, y0, y1, _⟩ := sp_at (OwnV.hrow (O1.below hb2) (by decide) (by simp)) k hlt
      simp only at ha
      subst ha
      obtain ⟨x0, hx0⟩ : ∃ x, x = T[k].1 := ⟨_, rfl⟩
      obtain ⟨x1, hx1⟩ : ∃ x, x = T[k].2 := ⟨_, rfl⟩
      rw [← hx0] at y0
      rw [← hx1] at y1
      replace hx0 := Lib.hid hx0
      replace hx1 := Lib.hid hx1
      by_cases he : x0 = n
      · have hbt : (x0 == n) = true := by simpa using he
        replace he := Lib.hid he
        have BRs := (BR2.alloc (.cells #[.int .i64 x0, .int .u64 x1] 60))
        have BXs := Blk.new wr #[.int .i64 x0, .int .u64 x1] 60
        go_wp2_with (first
          | (refine wpList_store_row rfl 60 _ _ rfl wr.heap.size _ rfl rfl 60 _ (Blk.new wr _ _).h (by kernel_rfl) (by rfl) (by kernel_rfl) ?_; rw [World.setRow_alloc_new])
          | (refine wpList_load_row rfl 60 _ rfl wr.heap.size rfl 60 _ (0, 0) _ BXs.h Try.underlying60 rfl (by kernel_rfl) ?_)
          | (refine wpList_store_row rfl 60 _ _ rfl w.heap.size _ rfl rfl 60 _ BRs.h (by kernel_rfl) (by rfl) (by kernel_rfl) ?_))
        refine bodyPost_ret (v := .tuple #[.agg #[.int .i64 x0, .int .u64 x1], .bool true]) (FoP.results_cell_tmp rfl _ _ w.heap.size 60 #[.int .i64 x0, .int .u64 x1] (0, 0) _ (.bool true) rfl rfl (Blk.row BRs _).h Try.underlying60 rfl (by kernel_rfl)) rfl ⟨?_, below_setRow (hbb.alloc (by omega) _) (Nat.le_refl _) _⟩
        rw [spFind_hit hlt (by rw [← hx0.out]; exact he.out) hall.out, hx0.out, hx1.out]
        rfl
      · have hbt : (x0 == n) = false := by simpa using he
        replace he := Lib.hid he
        go_wp2_with (refine wpList_store_row rfl 60 _ _ rfl wr.heap.size _ rfl rfl 60 _ (Blk.new wr _ _).h (by kernel_rfl) (by rfl) (by kernel_rfl) ?_; rw [World.setRow_alloc_new])
        go_roundg (T.length - (k + 1))
        case measure => omega
        case rel => exact ⟨k + 1, by omega, by omega, by go_num, hb2.alloc hb2.size _, Lib.hid fun j hj hjk => by
          by_cases e : j = k
          · subst e; rw [← hx0.out]; exact he.out
          · exact hall.out j hj (by omega)⟩
    · obtain rfl : k = T.length := by omega
      go_wp2_with (refine wpList_store_row rfl 60 _ _ rfl w.heap.size _ rfl rfl 60 _ BR2.h (by kernel_rfl) (by rfl) (by kernel_rfl) ?_)
      refine bodyPost_ret (v := .tuple #[.agg sz, .bool false]) (FoP.results_cell_tmp rfl _ _ w.heap.size 60 sz (0, 0) _ (.bool false) rfl rfl (Blk.row BR2 _).h Try.underlying60 rfl (by kernel_rfl)) rfl ⟨?_, below_setRow hbb (Nat.le_refl _) _⟩
      rw [spFind_miss (fun j hj => hall.out j hj hj)]
      rfl
/-- what is known of a cell -/
def KnIs (w0 : World) (L : List Kn) (l : List KnV) : Prop := L.length = l.length ∧ ∀ i (h : i < L.length) (h' : i < l.length), ∃ q, L[i] = (l[i].1, knA q l[i]) ∧ KnOk w0 [] q l[i]
def knFind (l : List KnV) (n : Int) : Option KnV := l.find? (fun y => y.1 == n)
theorem KnIs.at {w0 : World} {L : List Kn} {l : List KnV} (H : KnIs w0 L l) (n : Int) : (knAt L n = none ∧ knFind l n = none) ∨ (∃ q y, knAt L n = some (knA q y) ∧ knFind l n = some y ∧ KnOk w0 [] q y ∧ y ∈ l) := by
  by_cases hex : ∃ k, ∃ h : k < l.length, l[k].1 = n ∧ ∀ j (hj : j < l.length), j < k → l[j].1 ≠ n
  · obtain ⟨k, hk, e, hall⟩ := hex
    have hkL : k < L.length := by have := H.1; omega
    obtain ⟨q, h1, h2⟩ := H.2 k hkL hk
    refine .inr ⟨q, l[k], ?_, find_first _ l k hk (by simpa using e) (fun j hj hjk => by simpa using hall j hj hjk), h2, List.getElem_mem _⟩
    unfold knAt
    rw [find_first (fun p : Kn => p.1 == n) L k hkL (by rw [h1]; simpa using e) (fun j hj hjk => by
      obtain ⟨q', h3, _⟩ := H.2 j hj (by have := H.1; omega)
      rw [h3]
      simpa using hall j (by have := H.1; omega) hjk), h1]
    rfl
  · have hno : ∀ j (hj : j < l.length), l[j].1 ≠ n := by
      intro j
      induction j using Nat.strongRecOn with
      | ind j ih => exact fun hj he => hex ⟨j, hj, he, fun i hi hij => ih i hij hi⟩
    refine .inl ⟨?_, ?_⟩
    · unfold knAt
      rw [List.find?_eq_none.2 (fun p hp => ?_)]
      · rfl
      · obtain ⟨j, hj, rfl⟩ := List.getElem_of_mem hp
        obtain ⟨q', h3, _⟩ := H.2 j hj (by have := H.1; omega)
        rw [h3]
        simpa using hno j (by have := H.1; omega)
    · unfold knFind
      rw [List.find?_eq_none]
      intro p hp
      obtain ⟨j, hj, rfl⟩ := List.getElem_of_mem hp
      simpa using hno j hj
end Go.Proofs.Ytbemgfpnoeogdaa.EdP
