/-
  claim: New from any place; Return and Back of a memory: contracts.
-/
import Derived.Test.YtppclnnkleebkaaClaimX
namespace Go.Proofs.Ytppclnnkleebkaa.MemP
open Go.RowKit RefP CellP
set_option linter.unusedVariables false
set_option linter.unusedSimpArgs false
set_option maxHeartbeats 800000 in
theorem clNew_at {o oc g gb gr A T : Nat} {L : List (Int × Int)} {bs rs : List (List Value)} (many : Int) (f : Nat) (hf : f < A) (w : World) (h : MemAt w o oc g gb gr A T L bs rs) : Calls Try.prog 7 #[.pointer (some ⟨o, 0, none⟩), .int .i64 many, .int .i64 (f : Nat)] w fun e w' => e = .returned (.pointer (some ⟨w.heap.size, 0, none⟩)) ∧ ClAt w' w.heap.size o w.heap.size none 0 [] many f 0 true 0 0 ∧ Below w.heap.size w w' := by
  have hb0 : Below w.heap.size w (w.alloc (.cells (clA (some ⟨o, 0, none⟩) (.slice none 0 0) many 0 0 true 0 0) 67)) := by (repeat (first | exact Below.refl _ _ | assumption | refine below_alloc2 ?_ (by first | exact Nat.le_refl _ | omega) _ | refine Below.drew ?_ | refine below_drewN ?_ _ | refine below_push2 ?_ ‹_› (by first | exact Nat.le_refl _ | omega) | refine Below.setCell ?_ (by first | (simp; done) | (simp; omega) | omega) _))
  have BT := Blk.new w (clA (some ⟨o, 0, none⟩) (.slice none 0 0) many 0 0 true 0 0) 67
  have h1 := h.below hb0
  have hA := h.a1
  have q0 : (0 : Int) ≤ (f : Int) := by omega
  have q : (f : Int) < (A : Int) := by omega
  have f3 := BT.free 3
  have c3 := BT.at 3 rfl
  go_enter Try.func7, Try.ntmps7
  go_wp2_with fail
  generalize w.alloc (.cells (clA (some ⟨o, 0, none⟩) (.slice none 0 0) many 0 0 true 0 0) 67) = w1 at hb0 BT h1 f3 c3 ⊢
  refine (arena_any _ h1).mono ?_
  rintro e w2 ⟨rfl, rfl⟩
  go_wp2_with fail
  go_ret
  refine ⟨rfl, ⟨?_, OwnsU.nil _ _, Nat.le_refl _, fun q hq => by simp [Value.ownBlock] at hq⟩, hb0.setCell (Nat.le_refl _) _⟩
  simpa [clA] using BT.set 3 (.int .i64 f)
/-- words of blocks that there are -/
def GdW (A : Nat) (x : Int) : Bool := opensB x && decide (openP x < (A : Int))
def keptW (A : Nat) (xs : List Int) : List Int := xs.filter (GdW A)
theorem GdW_rng {A : Nat} {x : Int} (h : GdW A x = true) : opensB x = true ∧ 0 ≤ openP x ∧ openP x < A := by
  unfold GdW at h
  simp only [Bool.and_eq_true, decide_eq_true_eq] at h
  exact ⟨h.1, (open_bounds x).1, h.2⟩
theorem keptW_yes {A : Nat} {xs : List Int} {k : Nat} (hk : k < xs.length) (h : GdW A (at0 xs k) = true) : keptW A (xs.take (k + 1)) = keptW A (xs.take k) ++ [at0 xs k] := by
  rw [take_succ_at0 xs k hk]; simp [keptW, h]
theorem keptW_no {A : Nat} {xs : List Int} {k : Nat} (hk : k < xs.length) (h : GdW A (at0 xs k) = false) : keptW A (xs.take (k + 1)) = keptW A (xs.take k) := by
  rw [take_succ_at0 xs k hk]; simp [keptW, h]
theorem keptW_len (A : Nat) (xs : List Int) : (keptW A xs).length ≤ xs.length := List.length_filter_le _ _
abbrev bkZ (m : Option Addr) (ws : Value) : Array Value := #[.pointer m, ws]
/-- giving back is under way: words l are to come -/
structure BkAt (w : World) (base o t : Nat) (a : Option Addr) (c : Nat) (l : List Int) : Prop where
  head : Blk w t (bkZ (some ⟨o, 0, none⟩) (.slice a l.length c)) 92
  words : U64s w a l
  cap : l.length ≤ c
  ge : base ≤ t
  wb : ∀ p, a = some p → base ≤ p.block ∧ p.block < w.heap.size ∧ p.block ≠ t
theorem BkAt.under {w w' : World} {base o t : Nat} {a : Option Addr} {c : Nat} {l : List Int} (h : BkAt w base o t a c l) (hb : Below w.heap.size w w') : BkAt w' base o t a c l :=
  ⟨h.head.below hb, h.words.below hb, h.cap, h.ge, fun p e => ⟨(h.wb p e).1, Nat.lt_of_lt_of_le (h.wb p e).2.1 hb.size, (h.wb p e).2.2⟩⟩
theorem U64s.heapq {w w' : World} {a : Option Addr} {l : List Int} (h : U64s w a l) (hs : w.heap.size ≤ w'.heap.size) (hk : ∀ p, a = some p → p.block < w.heap.size → w'.heap[p.block]? = w.heap[p.block]?) : U64s w' a l := by
  refine ⟨⟨fun h0 => ?_⟩, h.rng, h.len⟩
  obtain ⟨b, off, rfl, hb, hc⟩ := h.row.get h0
  refine ⟨b, off, rfl, Nat.lt_of_lt_of_le hb hs, fun i hi => ?_⟩
  rw [← hc i hi]
  have hbk := hk ⟨b, off, none⟩ rfl hb
  exact World.cell?_of_block hbk
theorem BkAt.off {w w' : World} {base o t : Nat} {a : Option Addr} {c : Nat} {l : List Int} (h : BkAt w base o t a c l) {S : List Nat} (F : Fr S w w') (hS : ∀ b ∈ S, b < base) : BkAt w' base o t a c l :=
  ⟨F.blk h.head (fun k => by have := hS t k; have := h.ge; omega), U64s.heapq h.words F.size (fun p e hl => F.block _ hl (fun k => by have := hS _ k; have := (h.wb p e).1; omega)), h.cap, h.ge, fun p e => ⟨(h.wb p e).1, Nat.lt_of_lt_of_le (h.wb p e).2.1 F.size, (h.wb p e).2.2⟩⟩
theorem OwnsU.cap_leq {w : World} {base : Nat} {a : Option Addr} {c : Nat} {l : List Int} (h : OwnsU w base a c l) : l.length ≤ c := by
  rcases h.own.2 with ⟨e, _⟩ | ⟨g, cap, cur, e, _, _, hnc, _⟩
  · injection e with e1 e2 e3; omega
  · injection e with e1 e2 e3; omega
/-- in the rounds of Return -/
structure Rt (w : World) (o oc g gb gr A T : Nat) (L : List (Int × Int)) (bs rs : List (List Value)) (a : Option Addr) (c : Nat) (l : List Int) (wr : World) : Prop where
  b : Below w.heap.size w wr
  m : MemAt wr o oc g gb gr A T L bs rs
  B : Blk wr w.heap.size (bkZ (some ⟨o, 0, none⟩) (.slice a l.length c)) 92
  O : OwnsU wr w.heap.size a c l
  ne : ∀ q, (Value.slice a l.length c).ownBlock = some q → q ≠ w.heap.size
theorem Rt.under {w : World} {o oc g gb gr A T : Nat} {L : List (Int × Int)} {bs rs : List (List Value)} {a : Option Addr} {c : Nat} {l : List Int} {wr wx : World} (h : Rt w o oc g gb gr A T L bs rs a c l wr) (hb : Below wr.heap.size wr wx) : Rt w o oc g gb gr A T L bs rs a c l wx :=
  ⟨below_push2 h.b hb (Nat.le_refl _), h.m.below hb, h.B.below hb, h.O.below hb, h.ne⟩
set_option maxRecDepth 100000 in
set_option maxHeartbeats 3200000 in
theorem return_any {base o oc g gb gr A T : Nat} {L : List (Int × Int)} {bs rs : List (List Value)} (b : Option Addr) (d : Nat) (xs : List Int) (w : World) (h : MemB w base o oc g gb gr A T L bs rs) (hbw : base ≤ w.heap.size) (U : U64s w b xs) (hsm : xs.length ≤ 60000) :
    Calls Try.prog 16 #[.pointer (some ⟨o, 0, none⟩), .slice b xs.length d] w fun e w' => (∃ a c, e = .returned (.pointer (some ⟨w.heap.size, 0, none⟩)) ∧ BkAt w' w.heap.size o w.heap.size a c (keptW A xs)) ∧ Below w.heap.size w w' := by
  have hb0 : Below w.heap.size w (w.alloc (.cells (bkZ (some ⟨o, 0, none⟩) (.slice none 0 0)) 92)) := by (repeat (first | exact Below.refl _ _ | assumption | refine below_alloc2 ?_ (by first | exact Nat.le_refl _ | omega) _ | refine Below.drew ?_ | refine below_drewN ?_ _ | refine below_push2 ?_ ‹_› (by first | exact Nat.le_refl _ | omega) | refine Below.setCell ?_ (by first | (simp; done) | (simp; omega) | omega) _))
  have BK := Blk.new w (bkZ (some ⟨o, 0, none⟩) (.slice none 0 0)) 92
  have R0 : Rt w o oc g gb gr A T L bs rs none 0 (keptW A (xs.take 0)) (w.alloc (.cells (bkZ (some ⟨o, 0, none⟩) (.slice none 0 0)) 92)) := ⟨hb0, h.m.below hb0, BK, OwnsU.nil _ _, fun q hq => by simp [Value.ownBlock] at hq⟩
  have hmlo := h.lo
  go_enter Try.func16, Try.ntmps16
  go_wp2_with fail
  generalize w.alloc (.cells (bkZ (some ⟨o, 0, none⟩) (.slice none 0 0)) 92) = w1 at R0 ⊢
  clear hb0 BK
  go_loopg [17] (xs.length) (fun gg i wr => ∃ k a c, k ≤ xs.length ∧ xs.length ≤ k + gg ∧ i = .int .i64 (k : Nat) ∧ Rt w o oc g gb gr A T L bs rs a c (keptW A (xs.take k)) wr)
  case atStart => exact ⟨0, none, 0, Nat.zero_le _, by omega, rfl, R0⟩
  case round =>
    clear R0
    obtain ⟨k, a, c, hk, hkg, rfl, R⟩ := hrel
    by_cases hlt : k < xs.length
    · obtain ⟨bb, off, rfl, hbl, hc⟩ := (U.below R.b).cell k hlt
      have hlt' : (k : Int) < (xs.length : Int) := by omega
      have hx := U.rngD k
      have hkl := keptW_len A (xs.take k)
      rw [List.length_take] at hkl
      have hop := fun W' => open_any (at0 xs k) W' hx.1 hx.2
      cases hgd : GdW A (at0 xs k)
      · rw [← keptW_no hlt hgd] at R
        generalize at0 xs k = x at hc hx hgd hop
        cases hob : opensB x
        · rw [hob] at hop
          clear hgd hob
          go_wp2_with fail
          refine (hop _).mono ?_
          rintro e w2 ⟨rfl, hb2⟩
          have R2 := R.under hb2
          go_wp2_with fail
          go_roundg (xs.length - (k + 1))
          case measure => omega
          case rel => exact ⟨k + 1, a, c, by omega, by omega, by go_num, R2⟩
        · have hpA : ¬ (openP x < (A : Int)) := by
            intro e
            simp [GdW, hob, e] at hgd
          rw [hob] at hop
          clear hgd hob
          go_wp2_with fail
          refine (hop _).mono ?_
          rintro e w2 ⟨rfl, hb2⟩
          have R2 := R.under hb2
          have c0 : w2.cell? ⟨w.heap.size, 0, none⟩ = some (.pointer (some ⟨o, 0, none⟩)) := R2.B.at 0 rfl
          go_wp2_with fail
          refine (carena_any _ _ R2.m c0).mono ?_
          rintro e w3 ⟨rfl, rfl⟩
          go_wp2_with fail
          go_roundg (xs.length - (k + 1))
          case measure => omega
          case rel => exact ⟨k + 1, a, c, by omega, by omega, by go_num, R2⟩
      · have hT := keptW_yes hlt hgd
        have hgr := GdW_rng hgd
        generalize at0 xs k = x at hc hx hgd hop hT hgr
        rw [hgr.1] at hop
        have hpA : openP x < (A : Int) := hgr.2.2
        generalize hG : keptW A (xs.take k) = G at R hT hkl
        clear hG hgd
        go_wp2_with fail
        refine (hop _).mono ?_
        rintro e w2 ⟨rfl, hb2⟩
        have R2 := R.under hb2
        have c0 : w2.cell? ⟨w.heap.size, 0, none⟩ = some (.pointer (some ⟨o, 0, none⟩)) := R2.B.at 0 rfl
        have c1 : w2.cell? ⟨w.heap.size, 1, none⟩ = some (.slice a G.length c) := R2.B.at 1 rfl
        clear R
        have hbA : Below w2.heap.size w2 (w2.alloc (.cells #[.int .u64 x] 27)) := (Below.refl _ w2).alloc (Nat.le_refl _) _
        obtain ⟨g', cap, wA, KA⟩ := addOne w.heap.size R2.O x hx (by omega) R2.b.size
        have hrun := Lib.hid KA.run
        have RA := R2.under hbA
        have BA : Blk wA w.heap.size (bkZ (some ⟨o, 0, none⟩) (.slice a G.length c)) 92 := RA.B.grown KA.grown (fun e => R2.ne _ e.symm rfl)
        have hge := fun q e => (R2.O.lt q e).1
        have hbK := KA.keeps hge w w.heap.size (Nat.le_refl _) RA.b (by have := R2.b.size; simp; omega)
        have d1 : wA.cell? ⟨w.heap.size, 1, none⟩ = some (.slice a G.length c) := BA.at 1 rfl
        have f1 := BA.free 1
        have hgt : g' ≠ w.heap.size := by
          rcases KA.at' with q | q
          · exact R2.ne _ q
          · have := R2.B.lt; rw [q]; simp; omega
        have hFs : Fr [w.heap.size] wA (wA.setCell ⟨w.heap.size, 1, none⟩ (.slice (some ⟨g', 0, none⟩) (G.length + 1) cap)) := Fr.set (Fr.refl _ _) _ _ (.inl (by simp))
        have hMA : MemAt wA o oc g gb gr A T L bs rs := by
          have hF : Fr (ownS (.slice a G.length c)) (w2.alloc (.cells #[.int .u64 x] 27)) wA := Fr.of_grown KA.grown (fun q e => ownS_mem e)
          have hno : ∀ q, q < base → q ∉ ownS (.slice a G.length c) := fun q h1 h2 => by have := hge q (ownS_of h2); omega
          exact RA.m.off hF ⟨hno _ (by omega), hno _ (by omega), hno _ (by omega), hno _ (by omega), hno _ (by omega)⟩
        have R3 : Rt w o oc g gb gr A T L bs rs (some ⟨g', 0, none⟩) cap (keptW A (xs.take (k + 1))) (wA.setCell ⟨w.heap.size, 1, none⟩ (.slice (some ⟨g', 0, none⟩) (G.length + 1) cap)) := by
          rw [hT]
          refine ⟨hFs.below hbK (Nat.le_refl _) (by simp), hMA.off hFs (by simp; omega), ?_, KA.own.far _ _ (by simpa [Value.ownBlock] using hgt), fun q hq => ?_⟩
          · simpa [bkZ] using BA.set 1 (.slice (some ⟨g', 0, none⟩) (G.length + 1) cap)
          · simp only [Value.ownBlock, Option.some.injEq] at hq
            subst hq
            exact hgt
        clear KA RA BA hFs hMA hbK hgt hT hbA hge
        go_wp2_with fail
        refine (carena_any _ _ R2.m c0).mono ?_
        rintro e w3 ⟨rfl, rfl⟩
        clear R2
        go_wp2_with (at_builtin; refine wpList_append_run hrun.out rfl (by rfl) (by rfl) (by rfl) ?_)
        go_roundg (xs.length - (k + 1))
        case measure => omega
        case rel => exact ⟨k + 1, _, _, by omega, by omega, by go_num, R3⟩
    · obtain rfl : k = xs.length := by omega
      rw [List.take_length] at R
      have hkl := keptW_len A xs
      go_wp2_with fail
      go_ret
      refine ⟨⟨a, c, rfl, R.B, R.O.words (by omega), OwnsU.cap_leq R.O, Nat.le_refl _, fun p e => ?_⟩, R.b⟩
      have hq : (Value.slice a (keptW A xs).length c).ownBlock = some p.block := by rw [e]; rfl
      have := R.O.lt _ hq
      exact ⟨this.1, this.2, R.ne _ hq⟩
end Go.Proofs.Ytppclnnkleebkaa.MemP
