/-
  like: a view knows what the document's does.
-/
import Derived.BigRegion
import Derived.Deep.RegionLaw
import Derived.Laws.CopyOwn
import Derived.Laws.MakeOwn
import Derived.Test.YtbemgfpnoeogdaaEditGoesPack2

namespace Go.Proofs.Ytbemgfpnoeogdaa.FoP
open Go.RowKit RefP Go.Maps Dp
set_option linter.unusedVariables false
set_option linter.unusedSimpArgs false
theorem int_at {w : World} {S : List Nat} {h : Hd} {xs : List Int} (H : HRow i64C w S h xs) (i : Nat) (hi : i < xs.length) : ∃ b off, h.a = some ⟨b, off, none⟩ ∧ b < w.heap.size ∧ w.cell? ⟨b, off + i, none⟩ = some (.int .i64 xs[i]) := by
  obtain ⟨b, off, e, hb, _, hc⟩ := H.row (by omega)
  obtain ⟨cs, ⟨rfl, _⟩, hv⟩ := hc i xs[i] (List.getElem?_eq_getElem hi)
  refine ⟨b, off, e, hb, ?_⟩
  have := hv 0 _ rfl
  simpa [show i64C.k = 1 from rfl] using this
set_option maxRecDepth 20000 in
set_option maxHeartbeats 1600000 in
theorem like_any {w : World} {base o m : Nat} {L : List Kn} {a : Option Addr} {c : Nat} {S : List Sp} {k0 n0 : Int} {kh sh : Hd} (V : VwAt w base o m L a c S k0 n0) (H : RV w kh sh L S) (hc : ∀ p ∈ L, cellB p.1 = true) :
    Calls Try.prog 37 #[.pointer (some ⟨o, 0, none⟩), .agg (rvA kh sh L.length S.length k0 n0)] w fun e w' => e = .returned (.bool true) ∧ Below w.heap.size w w' := by
  have hb : Below w.heap.size w (w.alloc (.cells (rvA kh sh L.length S.length k0 n0) 58)) := by (repeat (first | exact Below.refl _ _ | assumption | refine below_alloc2 ?_ (by first | exact Nat.le_refl _ | omega) _ | refine Below.drew ?_ | refine below_drewN ?_ _ | refine below_push2 ?_ ‹_› (by first | exact Nat.le_refl _ | omega) | refine Below.setCell ?_ (by first | (simp; done) | (simp; omega) | omega) _))
  have BV := Blk.new w (rvA kh sh L.length S.length k0 n0) 58
  go_enter Try.func37, Try.ntmps37
  go_upto_region 1 with (fail)
  generalize w.alloc (.cells (rvA kh sh L.length S.length k0 n0) 58) = w1 at hb BV ⊢
  have V1 := V.under hb
  have H1 := H.below hb
  have hwb : w.heap.size < w1.heap.size := BV.lt
  have vS : ∀ W, Blk W w.heap.size (rvA kh sh L.length S.length k0 n0) 58 → W.cell? ⟨w.heap.size, 0, none⟩ = some (.slice kh.a L.length kh.c) ∧ W.cell? ⟨w.heap.size, 1, none⟩ = some (.slice sh.a S.length sh.c) ∧ W.cell? ⟨w.heap.size, 2, none⟩ = some (.int .i64 k0) ∧ W.cell? ⟨w.heap.size, 3, none⟩ = some (.int .i64 n0) := fun W B => ⟨B.at 0 rfl, B.at 1 rfl, B.at 2 rfl, B.at 3 rfl⟩
  refine wp_region_held_drew (S := fun W => W.cell? ⟨w.heap.size, 0, none⟩ = some (.slice kh.a L.length kh.c) ∧ W.cell? ⟨w.heap.size, 1, none⟩ = some (.slice sh.a S.length sh.c) ∧ W.cell? ⟨w.heap.size, 2, none⟩ = some (.int .i64 k0) ∧ W.cell? ⟨w.heap.size, 3, none⟩ = some (.int .i64 n0)) (by kernel_rfl) ?_ (fun hHeld => ?_)
  · exact vS _ BV.drew
  have Vd := V1.under (Below.refl w1.heap.size w1).drew
  have Hd' := H1.below (Below.refl w1.heap.size w1).drew
  have BVd := BV.drew
  have hbd := hb.drew
  have hwd : w.heap.size < w1.drew.heap.size := hwb
  clear V1 H1 BV hb hwb
  generalize w1.drew = wd at Vd Hd' BVd hbd hwd hHeld ⊢
  refine wpAnyH_take (i := 0) (oi := ⟨_, _, _, _, _, _⟩) (v := ?_) rfl (by kernel_rfl) (by kernel_rfl) (by kernel_rfl) (fun _ _ _ h => h) (Or.inl ⟨by rfl, ?_⟩) (by assumption) ?_
  rotate_left
  · intro wS hSw
    try dsimp only at hSw
    go_simp
    try with_reducible rfl
  try simp only [Act.put, List.setIfInBounds_toArray, List.set_cons_zero, List.set_cons_succ]
  refine wpAnyH_take (i := 2) (oi := ⟨_, _, _, _, _, _⟩) (v := ?_) rfl (by kernel_rfl) (by kernel_rfl) (by kernel_rfl) (fun _ _ _ h => h) (Or.inl ⟨by rfl, ?_⟩) (by assumption) ?_
  rotate_left
  · intro wS hSw
    try dsimp only at hSw
    go_simp
    try with_reducible rfl
  try simp only [Act.put, List.setIfInBounds_toArray, List.set_cons_zero, List.set_cons_succ]
  refine wpAnyH_ready (rs := [1]) (by kernel_rfl) (by simp) ?_
  refine AllReadyH.cons rfl (fun K hK => ?_) AllReadyH.nil
  go_simp
  refine (show Calls _ _ _ _ _ from cells_any Vd H.ll hc).mono ?_
  rintro e w2 ⟨a1, c1, rfl, hb2, R1⟩
  have B2 := BVd.below hb2
  have hbb2 := below_push2 hbd hb2 (by omega)
  refine hK.out _ _ (vS _ B2) (fun hHeld => ?_)
  clear hK K
  refine wpAnyH_ready (rs := [3]) (by kernel_rfl) (by simp) ?_
  refine AllReadyH.cons rfl (fun K hK => ?_) AllReadyH.nil
  go_simp
  refine (show Calls _ _ _ _ _ from rcells_any (Hd'.below hb2) k0 n0).mono ?_
  rintro e w3 ⟨a2, c2, rfl, hb3, O2⟩
  have R2 := OwnV.hrow O2 (by decide) (by simp)
  have R1' := R1.keep (Keeps.of_below hb3)
  have V3 := (Vd.under hb2).under hb3
  have hbb3 := below_push2 hbb2 hb3 (by have := hbb2.size; omega)
  have B3 := B2.below hb3
  refine hK.out _ _ (vS _ B3) (fun hHeld => ?_)
  clear hK K
  refine wpAnyH_take (i := 4) (oi := ⟨_, _, _, _, _, _⟩) (v := ?_) rfl (by kernel_rfl) (by kernel_rfl) (by kernel_rfl) (fun _ _ _ h => h) (Or.inl ⟨by rfl, ?_⟩) (by assumption) ?_
  rotate_left
  · intro wS hSw
    try dsimp only at hSw
    go_simp
    try with_reducible rfl
  try simp only [Act.put, List.setIfInBounds_toArray, List.set_cons_zero, List.set_cons_succ]
  refine wpAnyH_take (i := 5) (oi := ⟨_, _, _, _, _, _⟩) (v := ?_) rfl (by kernel_rfl) (by kernel_rfl) (by kernel_rfl) (fun _ _ _ h => h) (Or.inl ⟨by rfl, ?_⟩) (by assumption) ?_
  rotate_left
  · intro wS hSw
    try dsimp only at hSw
    go_simp
    try with_reducible rfl
  try simp only [Act.put, List.setIfInBounds_toArray, List.set_cons_zero, List.set_cons_succ]
  refine wpAnyH_done (by kernel_rfl) ?_ _
  clear O2 R1 B2 hb2 hb3 hbb2
  go_upto_region 2 with (fail)
  refine wp_region_held_drew (S := fun W => W.cell? ⟨w.heap.size, 0, none⟩ = some (.slice kh.a L.length kh.c) ∧ W.cell? ⟨w.heap.size, 1, none⟩ = some (.slice sh.a S.length sh.c) ∧ W.cell? ⟨w.heap.size, 2, none⟩ = some (.int .i64 k0) ∧ W.cell? ⟨w.heap.size, 3, none⟩ = some (.int .i64 n0)) (by kernel_rfl) ?_ (fun hHeld => ?_)
  · exact vS _ B3.drew
  have R2d := R2.keep (Keeps.of_below (S := []) (Below.refl w3.heap.size w3).drew)
  have R1d := R1'.keep (Keeps.of_below (S := []) (Below.refl w3.heap.size w3).drew)
  have V4 := V3.under (Below.refl w3.heap.size w3).drew
  have B4 := B3.drew
  have hbb4 := hbb3.drew
  clear R1' R2 V3 B3 hbb3
  generalize w3.drew = w4 at R2d R1d V4 B4 hbb4 hHeld ⊢
  refine wpAnyH_take (i := 0) (oi := ⟨_, _, _, _, _, _⟩) (v := ?_) rfl (by kernel_rfl) (by kernel_rfl) (by kernel_rfl) (fun _ _ _ h => h) (Or.inl ⟨by rfl, ?_⟩) (by assumption) ?_
  rotate_left
  · intro wS hSw
    try dsimp only at hSw
    go_simp
    try with_reducible rfl
  try simp only [Act.put, List.setIfInBounds_toArray, List.set_cons_zero, List.set_cons_succ]
  refine wpAnyH_take (i := 1) (oi := ⟨_, _, _, _, _, _⟩) (v := ?_) rfl (by kernel_rfl) (by kernel_rfl) (by kernel_rfl) (fun _ _ _ h => h) (Or.inl ⟨by rfl, ?_⟩) (by assumption) ?_
  rotate_left
  · intro wS hSw
    try dsimp only at hSw
    go_simp
    try with_reducible rfl
  try simp only [Act.put, List.setIfInBounds_toArray, List.set_cons_zero, List.set_cons_succ]
  refine wpAnyH_take (i := 2) (oi := ⟨_, _, _, _, _, _⟩) (v := ?_) rfl (by kernel_rfl) (by kernel_rfl) (by kernel_rfl) (fun _ _ _ h => h) (Or.inl ⟨by rfl, ?_⟩) (by assumption) ?_
  rotate_left
  · intro wS hSw
    try dsimp only at hSw
    go_simp
    try with_reducible rfl
  try simp only [Act.put, List.setIfInBounds_toArray, List.set_cons_zero, List.set_cons_succ]
  refine wpAnyH_take (i := 3) (oi := ⟨_, _, _, _, _, _⟩) (v := ?_) rfl (by kernel_rfl) (by kernel_rfl) (by kernel_rfl) (fun _ _ _ h => h) (Or.inl ⟨by rfl, ?_⟩) (by assumption) ?_
  rotate_left
  · intro wS hSw
    try dsimp only at hSw
    go_simp
    try with_reducible rfl
  try simp only [Act.put, List.setIfInBounds_toArray, List.set_cons_zero, List.set_cons_succ]
  refine wpAnyH_take (i := 4) (oi := ⟨_, _, _, _, _, _⟩) (v := ?_) rfl (by kernel_rfl) (by kernel_rfl) (by kernel_rfl) (fun _ _ _ h => h) (Or.inl ⟨by rfl, ?_⟩) (by assumption) ?_
  rotate_left
  · intro wS hSw
    try dsimp only at hSw
    go_simp
    try with_reducible rfl
  try simp only [Act.put, List.setIfInBounds_toArray, List.set_cons_zero, List.set_cons_succ]
  refine wpAnyH_take (i := 5) (oi := ⟨_, _, _, _, _, _⟩) (v := ?_) rfl (by kernel_rfl) (by kernel_rfl) (by kernel_rfl) (fun _ _ _ h => h) (Or.inl ⟨by rfl, ?_⟩) (by assumption) ?_
  rotate_left
  · intro wS hSw
    try dsimp only at hSw
    go_simp
    try with_reducible rfl
  try simp only [Act.put, List.setIfInBounds_toArray, List.set_cons_zero, List.set_cons_succ]
  refine wpAnyH_take (i := 6) (oi := ⟨_, _, _, _, _, _⟩) (v := ?_) rfl (by kernel_rfl) (by kernel_rfl) (by kernel_rfl) (fun _ _ _ h => h) (Or.inl ⟨by rfl, ?_⟩) (by assumption) ?_
  rotate_left
  · intro wS hSw
    try dsimp only at hSw
    go_simp
    try with_reducible rfl
  try simp only [Act.put, List.setIfInBounds_toArray, List.set_cons_zero, List.set_cons_succ]
  refine wpAnyH_take (i := 8) (oi := ⟨_, _, _, _, _, _⟩) (v := ?_) rfl (by kernel_rfl) (by kernel_rfl) (by kernel_rfl) (fun _ _ _ h => h) (Or.inl ⟨by rfl, ?_⟩) (by assumption) ?_
  rotate_left
  · intro wS hSw
    try dsimp only at hSw
    go_simp
    try with_reducible rfl
  try simp only [Act.put, List.setIfInBounds_toArray, List.set_cons_zero, List.set_cons_succ]
  refine wpAnyH_take (i := 9) (oi := ⟨_, _, _, _, _, _⟩) (v := ?_) rfl (by kernel_rfl) (by kernel_rfl) (by kernel_rfl) (fun _ _ _ h => h) (Or.inl ⟨by rfl, ?_⟩) (by assumption) ?_
  rotate_left
  · intro wS hSw
    try dsimp only at hSw
    go_simp
    try with_reducible rfl
  try simp only [Act.put, List.setIfInBounds_toArray, List.set_cons_zero, List.set_cons_succ]
  refine wpAnyH_take (i := 10) (oi := ⟨_, _, _, _, _, _⟩) (v := ?_) rfl (by kernel_rfl) (by kernel_rfl) (by kernel_rfl) (fun _ _ _ h => h) (Or.inl ⟨by rfl, ?_⟩) (by assumption) ?_
  rotate_left
  · intro wS hSw
    try dsimp only at hSw
    go_simp
    try with_reducible rfl
  try simp only [Act.put, List.setIfInBounds_toArray, List.set_cons_zero, List.set_cons_succ]
  refine wpAnyH_ready (rs := [7]) (by kernel_rfl) (by simp) ?_
  refine AllReadyH.cons rfl (fun K hK => ?_) AllReadyH.nil
  go_simp
  refine (show Calls _ _ _ _ _ from spares_any V4).mono ?_
  rintro e w5 ⟨rfl, rfl⟩
  refine hK.out _ _ (vS _ B4) (fun hHeld => ?_)
  clear hK K
  refine wpAnyH_take (i := 11) (oi := ⟨_, _, _, _, _, _⟩) (v := ?_) rfl (by kernel_rfl) (by kernel_rfl) (by kernel_rfl) (fun _ _ _ h => h) (Or.inl ⟨by rfl, ?_⟩) (by assumption) ?_
  rotate_left
  · intro wS hSw
    try dsimp only at hSw
    go_simp
    try with_reducible rfl
  try simp only [Act.put, List.setIfInBounds_toArray, List.set_cons_zero, List.set_cons_succ]
  refine wpAnyH_take (i := 12) (oi := ⟨_, _, _, _, _, _⟩) (v := ?_) rfl (by kernel_rfl) (by kernel_rfl) (by kernel_rfl) (fun _ _ _ h => h) (Or.inl ⟨by rfl, ?_⟩) (by assumption) ?_
  rotate_left
  · intro wS hSw
    try dsimp only at hSw
    go_simp
    try with_reducible rfl
  try simp only [Act.put, List.setIfInBounds_toArray, List.set_cons_zero, List.set_cons_succ]
  refine wpAnyH_take (i := 13) (oi := ⟨_, _, _, _, _, _⟩) (v := ?_) rfl (by kernel_rfl) (by kernel_rfl) (by kernel_rfl) (fun _ _ _ h => h) (Or.inl ⟨by rfl, ?_⟩) (by assumption) ?_
  rotate_left
  · intro wS hSw
    try dsimp only at hSw
    go_simp
    try with_reducible rfl
  try simp only [Act.put, List.setIfInBounds_toArray, List.set_cons_zero, List.set_cons_succ]
  refine wpAnyH_take (i := 14) (oi := ⟨_, _, _, _, _, _⟩) (v := ?_) rfl (by kernel_rfl) (by kernel_rfl) (by kernel_rfl) (fun _ _ _ h => h) (Or.inl ⟨by rfl, ?_⟩) (by assumption) ?_
  rotate_left
  · intro wS hSw
    try dsimp only at hSw
    go_simp
    try with_reducible rfl
  try simp only [Act.put, List.setIfInBounds_toArray, List.set_cons_zero, List.set_cons_succ]
  refine wpAnyH_take (i := 16) (oi := ⟨_, _, _, _, _, _⟩) (v := ?_) rfl (by kernel_rfl) (by kernel_rfl) (by kernel_rfl) (fun _ _ _ h => h) (Or.inl ⟨by rfl, ?_⟩) (by assumption) ?_
  rotate_left
  · intro wS hSw
    try dsimp only at hSw
    go_simp
    try with_reducible rfl
  try simp only [Act.put, List.setIfInBounds_toArray, List.set_cons_zero, List.set_cons_succ]
  refine wpAnyH_take (i := 17) (oi := ⟨_, _, _, _, _, _⟩) (v := ?_) rfl (by kernel_rfl) (by kernel_rfl) (by kernel_rfl) (fun _ _ _ h => h) (Or.inl ⟨by rfl, ?_⟩) (by assumption) ?_
  rotate_left
  · intro wS hSw
    try dsimp only at hSw
    go_simp
    try with_reducible rfl
  try simp only [Act.put, List.setIfInBounds_toArray, List.set_cons_zero, List.set_cons_succ]
  refine wpAnyH_ready (rs := [15]) (by kernel_rfl) (by simp) ?_
  refine AllReadyH.cons rfl (fun K hK => ?_) AllReadyH.nil
  go_simp
  refine (show Calls _ _ _ _ _ from need_any V4).mono ?_
  rintro e w6 ⟨rfl, hb6⟩
  have B6 := B4.below hb6
  have R1 := R1d.keep (Keeps.of_below (S := []) hb6)
  have R2 := R2d.keep (Keeps.of_below (S := []) hb6)
  have hbb6 := below_push2 hbb4 hb6 (by have := hbb4.size; omega)
  refine hK.out _ _ (vS _ B6) (fun hHeld => ?_)
  clear hK K
  refine wpAnyH_take (i := 18) (oi := ⟨_, _, _, _, _, _⟩) (v := ?_) rfl (by kernel_rfl) (by kernel_rfl) (by kernel_rfl) (fun _ _ _ h => h) (Or.inl ⟨by rfl, ?_⟩) (by assumption) ?_
  rotate_left
  · intro wS hSw
    try dsimp only at hSw
    go_simp
    try with_reducible rfl
  try simp only [Act.put, List.setIfInBounds_toArray, List.set_cons_zero, List.set_cons_succ]
  refine wpAnyH_take (i := 19) (oi := ⟨_, _, _, _, _, _⟩) (v := ?_) rfl (by kernel_rfl) (by kernel_rfl) (by kernel_rfl) (fun _ _ _ h => h) (Or.inl ⟨by rfl, ?_⟩) (by assumption) ?_
  rotate_left
  · intro wS hSw
    try dsimp only at hSw
    go_simp
    try with_reducible rfl
  try simp only [Act.put, List.setIfInBounds_toArray, List.set_cons_zero, List.set_cons_succ]
  refine wpAnyH_done (by kernel_rfl) ?_ _
  clear R1d R2d V4 B4 hbb4 hb6 vS
  have hcl : (cellsL L).length ≤ 100 := Nat.le_trans (cellsTo_le L 8192) H.ll
  generalize cellsL L = l at R1 R2 hcl ⊢
  clear hHeld V H hc Vd Hd' BVd hbd hwd
  go_wp2_with fail
  go_loop [35] (fun i => ∃ k : Nat, k ≤ l.length ∧ i = .int .i64 k) (fun i => l.length - (intOf i).toNat)
  case atStart => exact ⟨0, Nat.zero_le _, rfl⟩
  case round =>
    obtain ⟨k, hk, rfl⟩ := hrel
    by_cases hlt : k < l.length
    · have hlt' : (k : Int) < (l.length : Int) := by omega
      obtain ⟨b1, o1, e1, hb1, x1⟩ := int_at R1 k hlt
      obtain ⟨b2, o2, e2, hb2, x2⟩ := int_at R2 k hlt
      simp only at e1 e2
      subst e1
      subst e2
      generalize l[k] = x at x1 x2
      go_wp2_with fail
      go_round
      case rel => exact ⟨k + 1, by omega, by go_num⟩
      case measure => simp [intOf]; omega
    · obtain rfl : k = l.length := by omega
      go_wp2_with fail
      go_ret
      exact ⟨rfl, hbb6⟩
end Go.Proofs.Ytbemgfpnoeogdaa.FoP

/-
  ForestPlays: the acts, what lies in memory between two acts.
-/
namespace Go.Proofs.Ytbemgfpnoeogdaa.FoP
open Go.RowKit RefP Go.Maps Dp
set_option linter.unusedVariables false
set_option linter.unusedSimpArgs false
abbrev KnV := Int × Int × Int × NodeV × Unit
def knT : Cod KnV := pairC i64C (pairC u64C (pairC u64C (pairC nodeT unitC)))
abbrev ActV := Int × Int × KnV × Unit
def actT : Cod ActV := pairC i64C (pairC i64C (pairC knT unitC))
theorem op_kn : Ox Try.prog 53 knT := ox_struct Try.underlying53 (by kernel_rfl) (ox_cons rfl (by kernel_rfl) op_i64 (ox_cons rfl (by kernel_rfl) op_u64 (ox_cons rfl (by kernel_rfl) op_u64 (ox_cons rfl (by kernel_rfl) op_node ox_nil))))
theorem op_act : Ox Try.prog 68 actT := ox_struct Try.underlying68 (by kernel_rfl) (ox_cons rfl (by kernel_rfl) op_i64 (ox_cons rfl (by kernel_rfl) op_i64 (ox_cons rfl (by kernel_rfl) op_kn ox_nil)))
/-- the cells of a known -/
abbrev knA (q : NodeH) (y : KnV) : Array Value := k11 y.1 (.int .u64 y.2.1) (.int .u64 y.2.2.1) (.int .i64 y.2.2.2.1.level) (.string y.2.2.2.1.low) (.string y.2.2.2.1.high) (.bool y.2.2.2.1.last) (.int .i64 y.2.2.2.1.next) (.slice q.keys.a y.2.2.2.1.keys.length q.keys.c) (.slice q.vals.a y.2.2.2.1.vals.length q.vals.c) (.slice q.kids.a y.2.2.2.1.kids.length q.kids.c)
structure KnOk (w : World) (S : List Nat) (q : NodeH) (y : KnV) : Prop where
  cell : I64 y.1
  word : U64 y.2.1
  ver : U64 y.2.2.1
  node : NodeOk w S q y.2.2.2.1
theorem kn_of {w : World} {S : List Nat} {cs : List Value} {y : KnV} (h : knT.rep w S cs y) : ∃ q, cs = (knA q y).toList ∧ KnOk w S q y := by
  obtain ⟨_, _, rfl, ⟨rfl, h0⟩, _, _, rfl, ⟨rfl, h1⟩, _, _, rfl, ⟨rfl, h2⟩, _, _, rfl, h3, rfl⟩ := h
  obtain ⟨q, rfl, hn⟩ := nodeT_of h3
  exact ⟨q, rfl, I64.of h0, U64.of h1, U64.of h2, hn⟩
theorem act_of {w : World} {S : List Nat} {cs : List Value} {x : ActV} (h : actT.rep w S cs x) : ∃ q, cs = .int .i64 x.1 :: .int .i64 x.2.1 :: (knA q x.2.2.1).toList ∧ I64 x.1 ∧ I64 x.2.1 ∧ KnOk w S q x.2.2.1 := by
  obtain ⟨_, _, rfl, ⟨rfl, h0⟩, _, _, rfl, ⟨rfl, h1⟩, _, _, rfl, h2, rfl⟩ := h
  obtain ⟨q, rfl, hk⟩ := kn_of h2
  exact ⟨q, by simp, I64.of h0, I64.of h1, hk⟩
theorem act_at {w : World} {S : List Nat} {h : Hd} {xs : List ActV} (H : HRow actT w S h xs) (i : Nat) (hi : i < xs.length) : ∃ b off q, h.a = some ⟨b, off, none⟩ ∧ b < w.heap.size ∧ w.rangeAt b (off + i * 13) (.int .i64 xs[i].1 :: .int .i64 xs[i].2.1 :: (knA q xs[i].2.2.1).toList) ∧ I64 xs[i].1 ∧ I64 xs[i].2.1 ∧ KnOk w S q xs[i].2.2.1 := by
  obtain ⟨b, off, e, hb, _, hc⟩ := H.row (by omega)
  obtain ⟨cs, hr, hv⟩ := hc i xs[i] (List.getElem?_eq_getElem hi)
  obtain ⟨q, rfl, h0, h1, h2⟩ := act_of hr
  exact ⟨b, off, q, e, hb, hv, h0, h1, h2⟩
theorem knA_one (q : NodeH) (y : KnV) : (knA q y).size = 11 ∧ (knA q y).all (·.oneCell') = true := ⟨rfl, by kernel_rfl⟩
/-- what avoids what the law writes -/
abbrev avo (o m ob' : Nat) (a : Option Addr) : List Nat := o :: m :: ob' :: ob a
/-- between two acts -/
structure PS (w0 wr : World) (o m B : Nat) (L : List Kn) (a : Option Addr) (c : Nat) (S : List Sp) (k0 n0 : Int) (kh sh : Hd) : Prop where
  b : Below w0.heap.size w0 wr
  V : VwAt wr w0.heap.size o m L a c S k0 n0
  blk : Blk wr B (rvA kh sh L.length S.length k0 n0) 58
  kn : HRow (rawC 11) wr (avo o m B a) kh (knL L)
  sp : HRow spC wr (avo o m B a) sh S
  node : ∀ p ∈ L, ∃ q y, p.2 = knA q y ∧ y.1 = p.1 ∧ KnOk w0 [] q y ∧ cellB p.1 = true
  ll : L.length ≤ 100
  sl : S.length ≤ 100
  ge : w0.heap.size ≤ B ∧ B ≠ o ∧ B ≠ m ∧ B ∉ ob a
theorem PS.rv {w0 wr : World} {o m B : Nat} {L : List Kn} {a : Option Addr} {c : Nat} {S : List Sp} {k0 n0 : Int} {kh sh : Hd} (P : PS w0 wr o m B L a c S k0 n0 kh sh) : RV wr kh sh L S :=
  ⟨P.kn.more (by simp), P.sp.more (by simp), fun p hp => by
    obtain ⟨q, y, h1, h2, _⟩ := P.node p hp
    rw [h1, ← h2]; rfl, fun p hp => by
    obtain ⟨q, y, h1, _⟩ := P.node p hp
    rw [h1]; exact knA_one q y, P.ll, P.sl⟩
theorem PS.cells {w0 wr : World} {o m B : Nat} {L : List Kn} {a : Option Addr} {c : Nat} {S : List Sp} {k0 n0 : Int} {kh sh : Hd} (P : PS w0 wr o m B L a c S k0 n0 kh sh) : ∀ p ∈ L, cellB p.1 = true := fun p hp => by
  obtain ⟨q, y, _, _, _, h⟩ := P.node p hp
  exact h
theorem PS.under {w0 wr w' : World} {o m B : Nat} {L : List Kn} {a : Option Addr} {c : Nat} {S : List Sp} {k0 n0 : Int} {kh sh : Hd} (P : PS w0 wr o m B L a c S k0 n0 kh sh) (hb : Below wr.heap.size wr w') : PS w0 w' o m B L a c S k0 n0 kh sh :=
  ⟨below_push2 P.b hb (Nat.le_refl _), P.V.under hb, P.blk.below hb, P.kn.keep (Keeps.of_below hb), P.sp.keep (Keeps.of_below hb), P.node, P.ll, P.sl, P.ge⟩
end Go.Proofs.Ytbemgfpnoeogdaa.FoP

/-
  ForestPlays: the state behind a call of the view, and behind the store of the document's view.
-/
namespace Go.Proofs.Ytbemgfpnoeogdaa.FoP
open Go.RowKit RefP Go.Maps Dp
set_option linter.unusedVariables false
set_option linter.unusedSimpArgs false
/-- behind a call of the view -/
structure PA (w0 w' : World) (o m B : Nat) (L : List Kn) (a : Option Addr) (S : List Sp) (k0 n0 : Int) (kh sh : Hd) : Prop where
  b : Below w0.heap.size w0 w'
  blk : Blk w' B (rvA kh sh L.length S.length k0 n0) 58
  kn : HRow (rawC 11) w' (avo o m B a) kh (knL L)
  sp : HRow spC w' (avo o m B a) sh S
theorem PS.after {w0 wr w' : World} {o m B : Nat} {L : List Kn} {a : Option Addr} {c : Nat} {S : List Sp} {k0 n0 : Int} {kh sh : Hd} (P : PS w0 wr o m B L a c S k0 n0 kh sh) {T : List Nat} (F : Fr T wr w') (hT : ∀ b ∈ T, b ∈ o :: m :: ob a) : PA w0 w' o m B L a S k0 n0 kh sh := by
  have hge : ∀ b ∈ T, w0.heap.size ≤ b := fun b hb => by
    have := hT b hb
    simp only [List.mem_cons] at this
    rcases this with e | e | e
    · rw [e]; exact P.V.lo.1
    · rw [e]; exact P.V.lo.2.1
    · exact (OwnR.lt P.V.spares b (own_ob e)).1
  have hB : B ∉ T := fun h => by
    have := hT B h
    simp only [List.mem_cons] at this
    rcases this with e | e | e
    · exact P.ge.2.1 e
    · exact P.ge.2.2.1 e
    · exact P.ge.2.2.2 e
  have K : Keeps (avo o m B a) wr w' := F.keeps.more (fun b hb => by
    have := hT b hb
    simp only [List.mem_cons] at this ⊢
    rcases this with e | e | e
    · exact .inl e
    · exact .inr (.inl e)
    · exact .inr (.inr (.inr e)))
  exact ⟨F.below P.b (Nat.le_refl _) hge, F.blk P.blk hB, P.kn.keep K, P.sp.keep K⟩
theorem PA.under {w0 wr w' : World} {o m B : Nat} {L : List Kn} {a : Option Addr} {S : List Sp} {k0 n0 : Int} {kh sh : Hd} (P : PA w0 wr o m B L a S k0 n0 kh sh) (hb : Below wr.heap.size wr w') : PA w0 w' o m B L a S k0 n0 kh sh :=
  ⟨below_push2 P.b hb (Nat.le_refl _), P.blk.below hb, P.kn.keep (Keeps.of_below hb), P.sp.keep (Keeps.of_below hb)⟩
/-- behind the store -/
theorem PS.store {w0 w' : World} {o m B : Nat} {L : List Kn} {a : Option Addr} {c : Nat} {S : List Sp} {k0 n0 : Int} {kh sh : Hd} {old : Array Value} (b : Below w0.heap.size w0 w') (V : VwAt w' w0.heap.size o m L a c S k0 n0) (blk : Blk w' B old 58) (kn : HRow (rawC 11) w' (avo o m B a) kh (knL L)) (sp : HRow spC w' (avo o m B a) sh S)
    (node : ∀ p ∈ L, ∃ q y, p.2 = knA q y ∧ y.1 = p.1 ∧ KnOk w0 [] q y ∧ cellB p.1 = true) (ll : L.length ≤ 100) (sl : S.length ≤ 100) (ge : w0.heap.size ≤ B ∧ B ≠ o ∧ B ≠ m ∧ B ∉ ob a) :
    PS w0 (w'.setRow B (rvA kh sh L.length S.length k0 n0)) o m B L a c S k0 n0 kh sh := by
  have F : Fr [B] w' (w'.setRow B (rvA kh sh L.length S.length k0 n0)) := Fr.row (S := [B]) B _ (by simp)
  have K : Keeps (avo o m B a) w' (w'.setRow B (rvA kh sh L.length S.length k0 n0)) := F.keeps.more (by simp)
  refine ⟨below_setRow b ge.1 _, V.fr F (by simp; exact fun e => ge.2.1 e.symm) (by simp; exact fun e => ge.2.2.1 e.symm) (fun g hg => ?_), Blk.row blk _, kn.keep K, sp.keep K, node, ll, sl, ge⟩
  simp
  exact fun e => ge.2.2.2 (by rw [← e]; exact ob_own hg)
theorem PA.rv {w0 wr w' : World} {o m B : Nat} {L : List Kn} {a : Option Addr} {S : List Sp} {k0 n0 : Int} {kh sh : Hd} (A : PA w0 w' o m B L a S k0 n0 kh sh) (R : RV wr kh sh L S) : RV w' kh sh L S := ⟨A.kn.more (by simp), A.sp.more (by simp), R.hd, R.ok, R.ll, R.sl⟩
theorem found_has {L : List Kn} {n r : Int} (h : FoundAt L n r) : (knAt L n).isSome = decide (0 ≤ r) := by
  rcases h with ⟨rfl, h⟩ | ⟨i, hi, rfl, _, h⟩
  · rw [h]; rfl
  · rw [h]; simp
/-- behind 'w.Need = ..' -/
theorem PS.need {w0 w' : World} {o m B : Nat} {L : List Kn} {a : Option Addr} {c : Nat} {S : List Sp} {k0 n0 : Int} {kh sh : Hd} (A : PA w0 w' o m B L a S k0 n0 kh sh) (k n : Int) (V : VwAt w' w0.heap.size o m L a c S k n)
    (node : ∀ p ∈ L, ∃ q y, p.2 = knA q y ∧ y.1 = p.1 ∧ KnOk w0 [] q y ∧ cellB p.1 = true) (ll : L.length ≤ 100) (sl : S.length ≤ 100) (ge : w0.heap.size ≤ B ∧ B ≠ o ∧ B ≠ m ∧ B ∉ ob a) :
    PS w0 ((w'.setCell ⟨B, 2, none⟩ (.int .i64 k)).setCell ⟨B, 3, none⟩ (.int .i64 n)) o m B L a c S k n kh sh := by
  have F : Fr [B] w' ((w'.setCell ⟨B, 2, none⟩ (.int .i64 k)).setCell ⟨B, 3, none⟩ (.int .i64 n)) := ((Fr.refl [B] w').set ⟨B, 2, none⟩ (.int .i64 k) (.inl (by simp))).set ⟨B, 3, none⟩ (.int .i64 n) (.inl (by simp))
  have K : Keeps (avo o m B a) w' ((w'.setCell ⟨B, 2, none⟩ (.int .i64 k)).setCell ⟨B, 3, none⟩ (.int .i64 n)) := F.keeps.more (by simp)
  have Bl := (A.blk.set 2 (.int .i64 k)).set 3 (.int .i64 n)
  refine ⟨(A.b.setCell ge.1 _).setCell ge.1 _, V.fr F (by simp; exact fun e => ge.2.1 e.symm) (by simp; exact fun e => ge.2.2.1 e.symm) (fun g hg => ?_), by simpa using Bl, A.kn.keep K, A.sp.keep K, node, ll, sl, ge⟩
  simp
  exact fun e => ge.2.2.2 (by rw [← e]; exact ob_own hg)
/-- the view's spares lie elsewhere now: what avoids them -/
theorem avo_more {w : World} {o m B : Nat} {a a' : Option Addr} (h : ∀ g ∈ ob a', g ∈ ob a ∨ w.heap.size ≤ g) : ∀ b ∈ avo o m B a', b ∈ avo o m B a ∨ w.heap.size ≤ b := fun b hb => by
  simp only [List.mem_cons] at hb ⊢
  rcases hb with e | e | e | e
  · exact .inl (.inl e)
  · exact .inl (.inr (.inl e))
  · exact .inl (.inr (.inr (.inl e)))
  · rcases h b e with k | k
    · exact .inl (.inr (.inr (.inr k)))
    · exact .inr k
theorem PS.old {w0 wr : World} {o m B : Nat} {L : List Kn} {a : Option Addr} {c : Nat} {S : List Sp} {k0 n0 : Int} {kh sh : Hd} (P : PS w0 wr o m B L a c S k0 n0 kh sh) : ∀ b ∈ avo o m B a, b < wr.heap.size := fun b hb => by
  obtain ⟨h1, h2, h3⟩ := P.V.lts
  simp only [List.mem_cons] at hb
  rcases hb with e | e | e | e
  · omega
  · omega
  · rw [e]; exact P.blk.lt
  · exact h3 b (own_ob e)
/-- a row that a callee made, read as one that avoids what is elder -/
theorem own_avo {α : Type} {C : Cod α} {w w' : World} {e : TypeId} {a' : Option Addr} {c' : Nat} {xs : List α} {T : List Nat} (h : OwnV C w' [] w' w.heap.size e a' c' xs) (hk : 0 < C.k) (hrep : ∀ cs x, C.rep w' [] cs x → C.rep w' T cs x) (hT : ∀ b ∈ T, b < w.heap.size) : HRow C w' T ⟨a', c'⟩ xs :=
  OwnV.hrow (h.rep hrep) hk (fun g hg hm => by have := (h.lt g hg).1; have := hT g hm; omega)
end Go.Proofs.Ytbemgfpnoeogdaa.FoP

/-
  ForestPlays: the state between the view's call and the document's, beside boxes of the law.
-/
namespace Go.Proofs.Ytbemgfpnoeogdaa.FoP
open Go.RowKit RefP Go.Maps Dp
set_option linter.unusedVariables false
set_option linter.unusedSimpArgs false
/-- beside the boxes Z: the view lacks (k1, n1), the document's (k2, n2) -/
structure PZ (w0 wr : World) (Z : List Nat) (o m B : Nat) (L : List Kn) (a : Option Addr) (c : Nat) (S : List Sp) (k1 n1 k2 n2 : Int) (kh sh : Hd) : Prop where
  b : Below w0.heap.size w0 wr
  V : VwAt wr w0.heap.size o m L a c S k1 n1
  blk : Blk wr B (rvA kh sh L.length S.length k2 n2) 58
  kn : HRow (rawC 11) wr (Z ++ avo o m B a) kh (knL L)
  sp : HRow spC wr (Z ++ avo o m B a) sh S
  node : ∀ p ∈ L, ∃ q y, p.2 = knA q y ∧ y.1 = p.1 ∧ KnOk w0 [] q y ∧ cellB p.1 = true
  ll : L.length ≤ 100
  sl : S.length ≤ 100
  ge : w0.heap.size ≤ B ∧ B ≠ o ∧ B ≠ m ∧ B ∉ ob a
  z : ∀ b ∈ Z, w0.heap.size ≤ b ∧ b ≠ o ∧ b ≠ m ∧ b ≠ B ∧ b ∉ ob a
section
variable {w0 wr w' : World} {Z : List Nat} {o m B : Nat} {L : List Kn} {a : Option Addr} {c : Nat} {S : List Sp} {k0 n0 k1 n1 k2 n2 : Int} {kh sh : Hd}
theorem PS.opened (P : PS w0 wr o m B L a c S k0 n0 kh sh) (Z : List Nat) (hZ : ∀ b ∈ Z, wr.heap.size ≤ b) : PZ w0 wr Z o m B L a c S k0 n0 k0 n0 kh sh := by
  have h : ∀ b ∈ Z ++ avo o m B a, b ∈ avo o m B a ∨ wr.heap.size ≤ b := fun b hb => by
    rcases List.mem_append.1 hb with e | e
    · exact .inr (hZ b e)
    · exact .inl e
  obtain ⟨h1, h2, h3⟩ := P.V.lts
  have h4 := P.blk.lt
  refine ⟨P.b, P.V, P.blk, P.kn.more h, P.sp.more h, P.node, P.ll, P.sl, P.ge, fun b hb => ?_⟩
  have := hZ b hb
  have := P.b.size
  refine ⟨by omega, by omega, by omega, by omega, fun e => ?_⟩
  have := h3 b (own_ob e)
  omega
theorem PZ.under (P : PZ w0 wr Z o m B L a c S k1 n1 k2 n2 kh sh) (hb : Below wr.heap.size wr w') : PZ w0 w' Z o m B L a c S k1 n1 k2 n2 kh sh :=
  ⟨below_push2 P.b hb (Nat.le_refl _), P.V.under hb, P.blk.below hb, P.kn.keep (Keeps.of_below hb), P.sp.keep (Keeps.of_below hb), P.node, P.ll, P.sl, P.ge, P.z⟩
theorem PZ.call (P : PZ w0 wr Z o m B L a c S k1 n1 k2 n2 kh sh) (F : Fr [o] wr w') {k n : Int} (V : VwAt w' w0.heap.size o m L a c S k n) : PZ w0 w' Z o m B L a c S k n k2 n2 kh sh := by
  have K : Keeps (Z ++ avo o m B a) wr w' := F.keeps.more (by simp)
  exact ⟨F.below P.b (Nat.le_refl _) (by simpa using P.V.lo.1), V, F.blk P.blk (by simpa using P.ge.2.1), P.kn.keep K, P.sp.keep K, P.node, P.ll, P.sl, P.ge, P.z⟩
theorem PZ.box (P : PZ w0 wr Z o m B L a c S k1 n1 k2 n2 kh sh) {T : List Nat} (F : Fr T wr w') (hT : ∀ b ∈ T, b ∈ Z) : PZ w0 w' Z o m B L a c S k1 n1 k2 n2 kh sh := by
  have K : Keeps (Z ++ avo o m B a) wr w' := F.keeps.more (fun b hb => List.mem_append.2 (.inl (hT b hb)))
  exact ⟨F.below P.b (Nat.le_refl _) (fun b hb => (P.z b (hT b hb)).1), P.V.fr F (fun h => (P.z _ (hT _ h)).2.1 rfl) (fun h => (P.z _ (hT _ h)).2.2.1 rfl) (fun g hg h => (P.z g (hT g h)).2.2.2.2 (ob_own hg)), F.blk P.blk (fun h => (P.z _ (hT _ h)).2.2.2.1 rfl), P.kn.keep K, P.sp.keep K, P.node, P.ll, P.sl, P.ge, P.z⟩
theorem PZ.ref (P : PZ w0 wr Z o m B L a c S k1 n1 k2 n2 kh sh) (k n : Int) : PZ w0 (wr.setRow B (rvA kh sh L.length S.length k n)) Z o m B L a c S k1 n1 k n kh sh := by
  have F : Fr [B] wr (wr.setRow B (rvA kh sh L.length S.length k n)) := Fr.row (S := [B]) B _ (by simp)
  have K : Keeps (Z ++ avo o m B a) wr (wr.setRow B (rvA kh sh L.length S.length k n)) := F.keeps.more (by simp)
  refine ⟨below_setRow P.b P.ge.1 _, P.V.fr F (by simp; exact fun e => P.ge.2.1 e.symm) (by simp; exact fun e => P.ge.2.2.1 e.symm) (fun g hg => ?_), Blk.row P.blk _, P.kn.keep K, P.sp.keep K, P.node, P.ll, P.sl, P.ge, P.z⟩
  simp
  exact fun e => P.ge.2.2.2 (by rw [← e]; exact ob_own hg)
theorem PZ.row (P : PZ w0 wr Z o m B L a c S k1 n1 k2 n2 kh sh) {s : Nat} (hs : s ∈ Z) (cs : Array Value) : PZ w0 (wr.setRow s cs) Z o m B L a c S k1 n1 k2 n2 kh sh :=
  P.box (T := [s]) (Fr.row (S := [s]) s cs (by simp)) (by simpa using hs)
theorem PZ.closed (P : PZ w0 wr Z o m B L a c S k0 n0 k0 n0 kh sh) : PS w0 wr o m B L a c S k0 n0 kh sh :=
  ⟨P.b, P.V, P.blk, P.kn.more (fun b hb => .inl (List.mem_append.2 (.inr hb))), P.sp.more (fun b hb => .inl (List.mem_append.2 (.inr hb))), P.node, P.ll, P.sl, P.ge⟩
theorem PZ.rv (P : PZ w0 wr Z o m B L a c S k1 n1 k2 n2 kh sh) : RV wr kh sh L S :=
  ⟨P.kn.more (by simp), P.sp.more (by simp), fun p hp => by
    obtain ⟨q, y, h1, h2, _⟩ := P.node p hp
    rw [h1, ← h2]; rfl, fun p hp => by
    obtain ⟨q, y, h1, _⟩ := P.node p hp
    rw [h1]; exact knA_one q y, P.ll, P.sl⟩
end
theorem Blk.rowFar {w : World} {b s : Nat} {cs : Array Value} {T : TypeId} (k : Blk w b cs T) (h : b ≠ s) (ds : Array Value) : Blk (w.setRow s ds) b cs T := (Fr.row (S := [s]) s ds (by simp)).blk k (by simpa using h)
def atK (L : List Kn) (k0 n : Int) : Int := if (knAt L n).isSome then k0 else missK k0 n
def atN (L : List Kn) (k0 n0 n : Int) : Int := if (knAt L n).isSome then n0 else missN k0 n0 n
theorem at_all {w : World} {base o m : Nat} {L : List Kn} {a : Option Addr} {c : Nat} {S : List Sp} {k0 n0 : Int} (V : VwAt w base o m L a c S k0 n0) (n : Int) (hr : -9223372036854775808 ≤ n ∧ n ≤ 9223372036854775807) :
    Calls Try.prog 30 #[.pointer (some ⟨o, 0, none⟩), .int .i64 n] w fun e w' => e = .returned (.tuple #[.agg ((knAt L n).getD kz), .bool (knAt L n).isSome]) ∧ VwAt w' base o m L a c S (atK L k0 n) (atN L k0 n0 n) ∧ Fr [o] w w' := by
  cases hn : knAt L n with
  | some cs =>
    refine (at_hit V n hr hn).mono ?_
    rintro e w' ⟨rfl, hb⟩
    refine ⟨rfl, ?_, Fr.of_below hb⟩
    rw [atK, atN, hn]
    exact V.under hb
  | none =>
    refine (at_miss V n hr hn).mono ?_
    rintro e w' ⟨rfl, V', F⟩
    refine ⟨rfl, ?_, F⟩
    rw [atK, atN, hn]
    exact V'
theorem rat_all {w : World} {kh sh : Hd} {L : List Kn} {S : List Sp} (H : RV w kh sh L S) (k0 n0 n : Int) : Calls Try.prog 31 #[.agg (rvA kh sh L.length S.length k0 n0), .int .i64 n] w fun e w' => e = .returned (.tuple #[.agg (rvA kh sh L.length S.length (atK L k0 n) (atN L k0 n0 n)), .agg ((knAt L n).getD kz), .bool (knAt L n).isSome]) ∧ Below w.heap.size w w' := by
  cases hn : knAt L n with
  | some cs =>
    refine (rat_hit H k0 n0 n hn).mono ?_
    rintro e w' ⟨rfl, hb⟩
    refine ⟨?_, hb⟩
    rw [atK, atN, hn]
    rfl
  | none =>
    refine (rat_miss H k0 n0 n hn).mono ?_
    rintro e w' ⟨rfl, hb⟩
    refine ⟨?_, hb⟩
    rw [atK, atN, hn]
    rfl
abbrev q00 : NodeH := ⟨Hd.nil, Hd.nil, Hd.nil⟩
abbrev n00 : NodeV := ⟨0, ⟨#[]⟩, ⟨#[]⟩, false, 0, [], [], []⟩
theorem n00_ok (w : World) (S : List Nat) : NodeOk w S q00 n00 := ⟨⟨by decide, by decide⟩, by decide, by decide, ⟨by decide, by decide⟩, HRow.nil _ _ _, HRow.nil _ _ _, HRow.nil _ _ _⟩
theorem PS.found {w0 wr : World} {o m B : Nat} {L : List Kn} {a : Option Addr} {c : Nat} {S : List Sp} {k0 n0 : Int} {kh sh : Hd} (P : PS w0 wr o m B L a c S k0 n0 kh sh) (n : Int) : ∃ q y, (knAt L n).getD kz = knA q y ∧ NodeOk w0 [] q y.2.2.2.1 := by
  cases hn : knAt L n with
  | none => exact ⟨q00, (0, 0, 0, n00, ()), rfl, n00_ok _ _⟩
  | some cs =>
    obtain ⟨q, y, h1, _, h2, _⟩ := P.node _ (knAt_some hn)
    exact ⟨q, y, h1, h2.node⟩
theorem kn_node {w : World} {s : Nat} {q : NodeH} {y : KnV} {T : TypeId} (B : Blk w s (knA q y) T) : w.rangeAt s 3 (nodeA q y.2.2.2.1).toList := fun j v hv => by
  have hj : j < 8 := (List.getElem?_eq_some_iff.1 hv).1
  have e : j = 0 ∨ j = 1 ∨ j = 2 ∨ j = 3 ∨ j = 4 ∨ j = 5 ∨ j = 6 ∨ j = 7 := by omega
  refine B.at (3 + j) ?_
  rcases e with e | e | e | e | e | e | e | e <;> subst e <;> exact hv
theorem wpList_load_midw {P : Program} {ops : Array Oper} {rest : List Oper} {op : Oper} {a : Act} {w : World} {Q : Exit → Act → World → Prop} (hw : Region.wanted op (yielded ops a.tmps) = true) (ty : TypeId) (x : Operand) (ho : op.op = .load ty x)
    (b o : Nat) (hx : a.eval x = .pointer (some ⟨b, o, none⟩)) (cs : List Value) (d : TypeDesc) (hc : w.rangeAt b o cs)
    (hu : P.underlying ty = some d) (hd : d.isRow = true) (hi : (P.info? ty).map (·.size) = some cs.length)
    (h : wpList P ops Q rest (a.put op.dst (.agg cs.toArray)) w) : wpList P ops Q (op :: rest) a w :=
  wpList_step fun K hK => by
    rw [if_pos hw]
    exact wp_load_mid ty x ho b o hx cs d hc hu hd hi (hK _ _ h)
theorem PS.spared {w0 wr w' : World} {o m B : Nat} {L : List Kn} {a a' : Option Addr} {c : Nat} {S : List Sp} {k0 n0 : Int} {kh sh : Hd} (P : PS w0 wr o m B L a c S k0 n0 kh sh) (F : Fr (o :: ob a) wr w') (hg : ∀ g ∈ ob a', g ∈ ob a ∨ wr.heap.size ≤ g) : PA w0 w' o m B L a' S k0 n0 kh sh ∧ B ∉ ob a' := by
  have A := P.after F (fun b hb => by
    simp only [List.mem_cons] at hb ⊢
    rcases hb with e | e
    · exact .inl e
    · exact .inr (.inr e))
  have hm : ∀ b ∈ avo o m B a ++ ob a', b ∈ avo o m B a ∨ wr.heap.size ≤ b := fun b hb => by
    rcases List.mem_append.1 hb with e | e
    · exact .inl e
    · rcases hg b e with k | k
      · exact .inl (by simp only [List.mem_cons]; exact .inr (.inr (.inr k)))
      · exact .inr k
  have hs : ∀ b ∈ avo o m B a', b ∈ avo o m B a ++ ob a' := fun b hb => by
    simp only [List.mem_cons, List.mem_append] at hb ⊢
    rcases hb with e | e | e | e
    · exact .inl (.inl e)
    · exact .inl (.inr (.inl e))
    · exact .inl (.inr (.inr (.inl e)))
    · exact .inr e
  have K : Keeps (avo o m B a ++ ob a') wr w' := F.keeps.more (fun b hb => by
    simp only [List.mem_cons, List.mem_append] at hb ⊢
    rcases hb with e | e
    · exact .inl (.inl e)
    · exact .inl (.inr (.inr (.inr e))))
  have hB := P.blk.lt
  exact ⟨⟨A.b, A.blk, ((P.kn.more hm).keep K).more (fun b hb => .inl (hs b hb)), ((P.sp.more hm).keep K).more (fun b hb => .inl (hs b hb))⟩, fun h => by
    rcases hg B h with k | k
    · exact P.ge.2.2.2 k
    · omega⟩
theorem vspare_no {w : World} {base o m : Nat} {L : List Kn} {a : Option Addr} {c : Nat} {S : List Sp} {k0 n0 : Int} (V : VwAt w base o m L a c S k0 n0) (n v : Int) (hl : S.length ≤ 100) (h : (cellB n && !spHas S n) = false) :
    Calls Try.prog 26 #[.pointer (some ⟨o, 0, none⟩), .agg #[.int .i64 n, .int .u64 v]] w fun e w' => e = .returned (.bool false) ∧ Below w.heap.size w w' := by
  refine (spare_any V n v hl).mono ?_
  intro e w' hx
  unfold VSpareAt at hx
  rw [h] at hx
  exact hx
theorem vspare_yes {w : World} {base o m : Nat} {L : List Kn} {a : Option Addr} {c : Nat} {S : List Sp} {k0 n0 : Int} (V : VwAt w base o m L a c S k0 n0) (n v : Int) (hl : S.length ≤ 100) (h : (cellB n && !spHas S n) = true) :
    Calls Try.prog 26 #[.pointer (some ⟨o, 0, none⟩), .agg #[.int .i64 n, .int .u64 v]] w fun e w' => ∃ a' c', e = .returned (.bool true) ∧ VwAt w' base o m L a' c' (S ++ [(n, v)]) k0 n0 ∧ Fr (o :: ob a) w w' ∧ (∀ g ∈ ob a', g ∈ ob a ∨ w.heap.size ≤ g) := by
  refine (spare_any V n v hl).mono ?_
  intro e w' hx
  unfold VSpareAt at hx
  rw [h] at hx
  exact hx
theorem rspare_no {w : World} {kh sh : Hd} {L : List Kn} {S : List Sp} (H : RV w kh sh L S) (k0 n0 n v : Int) (h0 : I64 n) (h1 : U64 v) (h : (cellB n && !spHas S n) = false) : Calls Try.prog 27 #[.agg (rvA kh sh L.length S.length k0 n0), .agg #[.int .i64 n, .int .u64 v]] w fun e w' => e = .returned (.tuple #[.agg (rvA kh sh L.length S.length k0 n0), .bool false]) ∧ Below w.heap.size w w' := by
  refine (rspare_any H k0 n0 n v h0 h1).mono ?_
  intro e w' hx
  unfold SpareAt at hx
  rw [h] at hx
  exact hx
theorem rspare_yes {w : World} {kh sh : Hd} {L : List Kn} {S : List Sp} (H : RV w kh sh L S) (k0 n0 n v : Int) (h0 : I64 n) (h1 : U64 v) (h : (cellB n && !spHas S n) = true) : Calls Try.prog 27 #[.agg (rvA kh sh L.length S.length k0 n0), .agg #[.int .i64 n, .int .u64 v]] w fun e w' => ∃ a c, e = .returned (.tuple #[.agg (rvA kh ⟨a, c⟩ L.length (S.length + 1) k0 n0), .bool true]) ∧ Below w.heap.size w w' ∧ OwnS w' w.heap.size a c (S ++ [(n, v)]) := by
  refine (rspare_any H k0 n0 n v h0 h1).mono ?_
  intro e w' hx
  unfold SpareAt at hx
  rw [h, List.length_append] at hx
  exact hx
/-- two new boxes -/
theorem two_boxes (w : World) (cs : Array Value) (T : TypeId) : Below w.heap.size w ((w.alloc (.cells cs T)).alloc (.cells cs T)) ∧ Blk ((w.alloc (.cells cs T)).alloc (.cells cs T)) w.heap.size cs T ∧ Blk ((w.alloc (.cells cs T)).alloc (.cells cs T)) (w.heap.size + 1) cs T := by
  have h := Blk.new (w.alloc (.cells cs T)) cs T
  rw [World.size_alloc] at h
  exact ⟨((Below.refl _ _).alloc (Nat.le_refl _) _).alloc (by rw [World.size_alloc]; omega) _, (Blk.new w cs T).alloc _, h⟩
theorem two_free {w : World} : ∀ b ∈ [w.heap.size, w.heap.size + 1], w.heap.size ≤ b := by simp
end Go.Proofs.Ytbemgfpnoeogdaa.FoP

/-
  An edit in memory: what lies where; what calls of its view, and appends to its changes and its taken spares, leave. No walk.
-/
namespace Go.Proofs.Ytbemgfpnoeogdaa.EdP
open Go.RowKit RefP FoP Dp
set_option linter.unusedVariables false
set_option linter.unusedSimpArgs false
theorem infoChange : (Try.prog.info? 97).map (fun i => (i.zero, i.size, i.bytes)) = some (some (.agg chz), 14, 168) := by kernel_rfl
theorem tinChange : TIn Try.prog 33 97 14 168 := tin_mk Try.underlying33 infoChange (by simp [Value.cells])
abbrev edA (o : Nat) (ca : Option Addr) (n cc : Nat) (ta : Option Addr) (t tc : Nat) : Array Value := #[.pointer (some ⟨o, 0, none⟩), .slice ca n cc, .slice ta t tc]
abbrev chL (C : List Ch) : List (List Value) := C.map (fun p => (chA p).toList)
def SmallN (x : NodeV) : Prop := x.keys.length ≤ 1000 ∧ x.vals.length ≤ 1000 ∧ x.kids.length ≤ 1000
/-- a change's node lies outside of the blocks M -/
structure ChOk (w : World) (M : List Nat) (p : Ch) : Prop where
  node : NodeOk w M p.1 p.2.node
  small : SmallN p.2.node
theorem node_more {w : World} {S S' : List Nat} {q : NodeH} {x : NodeV} (h : NodeOk w S q x) (k : ∀ b ∈ S', b ∈ S ∨ w.heap.size ≤ b) : NodeOk w S' q x := ⟨h.level, h.low, h.high, h.next, h.keys.more k, h.vals.more k, h.kids.more k⟩
theorem ChOk.keep {w w' : World} {M : List Nat} {p : Ch} (h : ChOk w M p) (k : Keeps M w w') : ChOk w' M p := ⟨h.node.keep k, h.small⟩
theorem ChOk.more {w : World} {M M' : List Nat} {p : Ch} (h : ChOk w M p) (k : ∀ b ∈ M', b ∈ M ∨ w.heap.size ≤ b) : ChOk w M' p := ⟨node_more h.node k, h.small⟩
/-- what an edit writes -/
abbrev mutE (e o : Nat) (ca ta : Option Addr) : List Nat := e :: o :: (ob ca ++ ob ta)
structure EdAt (w0 w : World) (e o m : Nat) (L : List Kn) (a : Option Addr) (c : Nat) (S : List Sp) (k0 n0 : Int) (C : List Ch) (ca : Option Addr) (cc : Nat) (ta : Option Addr) (tc t : Nat) : Prop where
  b : Below w0.heap.size w0 w
  V : VwAt w w0.heap.size o m L a c S k0 n0
  blk : Blk w e (edA o ca C.length cc ta t tc) 36
  ch : OwnV (rawC 14) w [] w w0.heap.size 97 ca cc (chL C)
  tk : OwnS w w0.heap.size ta tc (S.take t)
  node : ∀ p ∈ C, ChOk w (mutE e o ca ta) p
  cl : C.length ≤ 46
  tl : t ≤ S.length
  sl : S.length ≤ 100
  ge : w0.heap.size ≤ e ∧ e ≠ o ∧ e ≠ m ∧ e ∉ ob a ∧ e ∉ ob ca ∧ e ∉ ob ta
  dc : ∀ g ∈ ob ca, g ≠ o ∧ g ≠ m ∧ g ∉ ob a ∧ g ∉ ob ta
  dt : ∀ g ∈ ob ta, g ≠ o ∧ g ≠ m ∧ g ∉ ob a
  si : ∀ p ∈ S, I64 p.1 ∧ U64 p.2
section
variable {w0 w w' : World} {e o m : Nat} {L : List Kn} {a : Option Addr} {c : Nat} {S : List Sp} {k0 n0 : Int} {C : List Ch} {ca : Option Addr} {cc : Nat} {ta : Option Addr} {tc t : Nat}
theorem raw14_any {w w' : World} {S S' : List Nat} {cs : List Value} {x : List Value} (h : (rawC 14).rep w S cs x) : (rawC 14).rep w' S' cs x := h
theorem EdAt.lts (E : EdAt w0 w e o m L a c S k0 n0 C ca cc ta tc t) : ∀ b ∈ mutE e o ca ta, b < w.heap.size := fun b hb => by
  simp only [List.mem_cons, List.mem_append] at hb
  rcases hb with h | h | h | h
  · rw [h]; exact E.blk.lt
  · rw [h]; exact E.V.lts.1
  · exact (OwnV.lt E.ch b h).2
  · exact (OwnV.lt E.tk b h).2
theorem EdAt.ges (E : EdAt w0 w e o m L a c S k0 n0 C ca cc ta tc t) : ∀ b ∈ mutE e o ca ta, w0.heap.size ≤ b := fun b hb => by
  simp only [List.mem_cons, List.mem_append] at hb
  rcases hb with h | h | h | h
  · rw [h]; exact E.ge.1
  · rw [h]; exact E.V.lo.1
  · exact (OwnV.lt E.ch b h).1
  · exact (OwnV.lt E.tk b h).1
theorem EdAt.under (E : EdAt w0 w e o m L a c S k0 n0 C ca cc ta tc t) (hb : Below w.heap.size w w') : EdAt w0 w' e o m L a c S k0 n0 C ca cc ta tc t :=
  ⟨below_push2 E.b hb (Nat.le_refl _), E.V.under hb, E.blk.below hb, (E.ch.below hb).rep (fun _ _ => raw14_any), E.tk.below hb, fun p hp => (E.node p hp).keep (Keeps.of_below hb), E.cl, E.tl, E.sl, E.ge, E.dc, E.dt, E.si⟩
theorem EdAt.view (E : EdAt w0 w e o m L a c S k0 n0 C ca cc ta tc t) (F : Fr [o] w w') {k n : Int} (V : VwAt w' w0.heap.size o m L a c S k n) : EdAt w0 w' e o m L a c S k n C ca cc ta tc t :=
  ⟨F.below E.b (Nat.le_refl _) (by simpa using E.V.lo.1), V, F.blk E.blk (by simpa using E.ge.2.1), (E.ch.fr F (fun g hg => by simpa using (E.dc g hg).1)).rep (fun _ _ => raw14_any), E.tk.fr F (fun g hg => by simpa using (E.dt g hg).1), fun p hp => (E.node p hp).keep (F.keeps.more (by simp)), E.cl, E.tl, E.sl, E.ge, E.dc, E.dt, E.si⟩
theorem EdAt.row (E : EdAt w0 w e o m L a c S k0 n0 C ca cc ta tc t) : HRow (rawC 14) w [] ⟨ca, cc⟩ (chL C) := OwnV.hrow E.ch (by decide) (by simp)
theorem EdAt.chrow (E : EdAt w0 w e o m L a c S k0 n0 C ca cc ta tc t) : ChRow w.heap.size w e C := by
  refine ⟨E.blk.lt, ca, cc, E.blk.at 1 rfl, fun hp => ?_⟩
  obtain ⟨b, off, e1, hb, _⟩ := raw_at E.row 0 (by simpa using hp)
  refine ⟨b, off, e1, hb, fun j hj => ?_⟩
  obtain ⟨b', off', e2, _, hr⟩ := raw_at E.row j (by simpa using hj)
  rw [e1] at e2
  simp only [Option.some.injEq, Addr.mk.injEq, and_true] at e2
  obtain ⟨rfl, rfl⟩ := e2
  simpa using hr
/-- a change more -/
theorem EdAt.added (E : EdAt w0 w e o m L a c S k0 n0 C ca cc ta tc t) {p : Ch} {v : Value} {g cap : Nat} (A : AddedV Try.prog (rawC 14) w [] w w0.heap.size 33 97 ca cc C.length v 1 (chL C ++ [(chA p).toList]) g cap w') (hp : ChOk w (mutE e o ca ta) p) (hcl : C.length < 46) :
    EdAt w0 (w'.setCell ⟨e, 1, none⟩ (.slice (some ⟨g, 0, none⟩) (C.length + 1) cap)) e o m L a c S k0 n0 (C ++ [p]) (some ⟨g, 0, none⟩) cap ta tc t := by
  have F1 := A.fr
  have F2 : Fr [e] w' (w'.setCell ⟨e, 1, none⟩ (.slice (some ⟨g, 0, none⟩) (C.length + 1) cap)) := (Fr.refl _ _).set _ _ (.inl (by simp))
  obtain ⟨h1, h2, h3⟩ := E.V.lts
  have he := E.blk.lt
  have hoc : o ∉ ob ca := fun h => (E.dc o h).1 rfl
  have hmc : m ∉ ob ca := fun h => (E.dc m h).2.1 rfl
  have hac : ∀ q, (Value.slice a S.length c).ownBlock = some q → q ∉ ob ca := fun q hq h => (E.dc q h).2.2.1 (ob_own hq)
  have V1 := E.V.fr F1 hoc hmc hac
  have V2 := V1.fr F2 (by simpa using fun h => E.ge.2.1 h.symm) (by simpa using fun h => E.ge.2.2.1 h.symm) (fun q hq h => by simp at h; subst h; exact E.ge.2.2.2.1 (ob_own hq))
  have hgn : g ≠ e ∧ g ≠ o ∧ g ≠ m ∧ g ∉ ob a ∧ g ∉ ob ta := by
    rcases A.at' with h | h
    · obtain ⟨q1, q2, q3, q4⟩ := E.dc g h
      exact ⟨fun q => E.ge.2.2.2.2.1 (q ▸ h), q1, q2, q3, q4⟩
    · refine ⟨by omega, by omega, by omega, fun q => ?_, fun q => ?_⟩
      · have := h3 g (own_ob q); omega
      · have := (OwnV.lt E.tk g q).2; omega
  have B1 := (F1.blk E.blk E.ge.2.2.2.2.1).set 1 (.slice (some ⟨g, 0, none⟩) (C.length + 1) cap)
  have T1 := E.tk.fr F1 (fun q hq h => (E.dc q h).2.2.2 hq)
  have T2 := T1.fr F2 (fun q hq h => by simp at h; subst h; exact E.ge.2.2.2.2.2 hq)
  have FF : Fr (e :: ob ca) w (w'.setCell ⟨e, 1, none⟩ (.slice (some ⟨g, 0, none⟩) (C.length + 1) cap)) := (F1.more (fun b hb => List.mem_cons_of_mem _ hb)).trans (F2.more (by simp))
  refine ⟨FF.below E.b (Nat.le_refl _) (fun b hb => ?_), V2, by simpa using B1, ?_, T2, fun q hq => ?_, by simp; omega, E.tl, E.sl, ⟨E.ge.1, E.ge.2.1, E.ge.2.2.1, E.ge.2.2.2.1, ?_, E.ge.2.2.2.2.2⟩, ?_, E.dt, E.si⟩
  · simp only [List.mem_cons] at hb
    rcases hb with h | h
    · rw [h]; exact E.ge.1
    · exact (OwnV.lt E.ch b h).1
  · have := (A.own.fr F2 (fun q hq h => by simp [ob] at hq; simp at h; exact hgn.1 (by rw [← hq, h]))).rep (wr' := w'.setCell ⟨e, 1, none⟩ (.slice (some ⟨g, 0, none⟩) (C.length + 1) cap)) (S' := []) (fun _ _ => raw14_any)
    rw [show chL (C ++ [p]) = chL C ++ [(chA p).toList] by simp [chL]]
    exact this
  · have hk : Keeps (e :: o :: (ob ca ++ (ob ta ++ [g]))) w (w'.setCell ⟨e, 1, none⟩ (.slice (some ⟨g, 0, none⟩) (C.length + 1) cap)) := FF.keeps.more (fun b hb => by
      simp only [List.mem_cons, List.mem_append] at hb ⊢
      rcases hb with h | h
      · exact .inl h
      · exact .inr (.inr (.inl h)))
    have hq' : ChOk w (mutE e o ca ta) q := by
      rcases List.mem_append.1 hq with h | h
      · exact E.node q h
      · rw [List.mem_singleton.1 h]; exact hp
    have hq2 : ChOk w (e :: o :: (ob ca ++ (ob ta ++ [g]))) q := hq'.more (fun b hb => by
      simp only [List.mem_cons, List.mem_append, List.not_mem_nil, or_false] at hb ⊢
      rcases hb with h | h | h | h | h
      · exact .inl (.inl h)
      · exact .inl (.inr (.inl h))
      · exact .inl (.inr (.inr (.inl h)))
      · exact .inl (.inr (.inr (.inr h)))
      · rcases A.at' with k | k
        · exact .inl (.inr (.inr (.inl (h ▸ k))))
        · exact .inr (by omega))
    exact (hq2.keep hk).more (fun b hb => .inl (by
      simp only [List.mem_cons, List.mem_append, ob, List.not_mem_nil, or_false] at hb ⊢
      rcases hb with h | h | h | h
      · exact .inl h
      · exact .inr (.inl h)
      · exact .inr (.inr (.inr (.inr h)))
      · exact .inr (.inr (.inr (.inl h)))))
  · simp [ob]; exact fun h => hgn.1 h.symm
  · intro q hq
    simp [ob] at hq
    subst hq
    exact ⟨hgn.2.1, hgn.2.2.1, hgn.2.2.2.1, hgn.2.2.2.2⟩
/-- a spare more is taken -/
theorem EdAt.took (E : EdAt w0 w e o m L a c S k0 n0 C ca cc ta tc t) {v : Value} {g cap : Nat} (ht : t < S.length) (A : AddedV Try.prog spC w [] w w0.heap.size 34 60 ta tc (S.take t).length v 1 (S.take t ++ [S[t]]) g cap w') :
    EdAt w0 (w'.setCell ⟨e, 2, none⟩ (.slice (some ⟨g, 0, none⟩) (t + 1) cap)) e o m L a c S k0 n0 C ca cc (some ⟨g, 0, none⟩) cap (t + 1) := by
  have F1 := A.fr
  have F2 : Fr [e] w' (w'.setCell ⟨e, 2, none⟩ (.slice (some ⟨g, 0, none⟩) (t + 1) cap)) := (Fr.refl _ _).set _ _ (.inl (by simp))
  obtain ⟨h1, h2, h3⟩ := E.V.lts
  have he := E.blk.lt
  have hoc : o ∉ ob ta := fun h => (E.dt o h).1 rfl
  have hmc : m ∉ ob ta := fun h => (E.dt m h).2.1 rfl
  have hac : ∀ q, (Value.slice a S.length c).ownBlock = some q → q ∉ ob ta := fun q hq h => (E.dt q h).2.2 (ob_own hq)
  have V1 := E.V.fr F1 hoc hmc hac
  have V2 := V1.fr F2 (by simpa using fun h => E.ge.2.1 h.symm) (by simpa using fun h => E.ge.2.2.1 h.symm) (fun q hq h => by simp at h; subst h; exact E.ge.2.2.2.1 (ob_own hq))
  have hgn : g ≠ e ∧ g ≠ o ∧ g ≠ m ∧ g ∉ ob a ∧ g ∉ ob ca := by
    rcases A.at' with h | h
    · obtain ⟨q1, q2, q3⟩ := E.dt g h
      exact ⟨fun q => E.ge.2.2.2.2.2 (q ▸ h), q1, q2, q3, fun q => (E.dc g q).2.2.2 h⟩
    · refine ⟨by omega, by omega, by omega, fun q => ?_, fun q => ?_⟩
      · have := h3 g (own_ob q); omega
      · have := (OwnV.lt E.ch g q).2; omega
  have B1 := (F1.blk E.blk E.ge.2.2.2.2.2).set 2 (.slice (some ⟨g, 0, none⟩) (t + 1) cap)
  have T1 := (E.ch.fr F1 (fun q hq h => (E.dc q hq).2.2.2 h)).rep (wr' := w') (S' := []) (fun _ _ => raw14_any)
  have T2 := (T1.fr F2 (fun q hq h => by simp at h; subst h; exact E.ge.2.2.2.2.1 hq)).rep (wr' := w'.setCell ⟨e, 2, none⟩ (.slice (some ⟨g, 0, none⟩) (t + 1) cap)) (S' := []) (fun _ _ => raw14_any)
  have FF : Fr (e :: ob ta) w (w'.setCell ⟨e, 2, none⟩ (.slice (some ⟨g, 0, none⟩) (t + 1) cap)) := (F1.more (fun b hb => List.mem_cons_of_mem _ hb)).trans (F2.more (by simp))
  refine ⟨FF.below E.b (Nat.le_refl _) (fun b hb => ?_), V2, by simpa using B1, T2, ?_, fun q hq => ?_, E.cl, ht, E.sl, ⟨E.ge.1, E.ge.2.1, E.ge.2.2.1, E.ge.2.2.2.1, E.ge.2.2.2.2.1, ?_⟩, fun q hq => ?_, ?_, E.si⟩
  · simp only [List.mem_cons] at hb
    rcases hb with h | h
    · rw [h]; exact E.ge.1
    · exact (OwnV.lt E.tk b h).1
  · have := (A.own.fr F2 (fun q hq h => by simp [ob] at hq; simp at h; exact hgn.1 (by rw [← hq, h]))).rep (wr' := w'.setCell ⟨e, 2, none⟩ (.slice (some ⟨g, 0, none⟩) (t + 1) cap)) (S' := []) (fun _ _ => sp_any)
    rw [List.take_succ_eq_append_getElem ht]
    exact this
  · have hk : Keeps (e :: o :: (ob ca ++ (ob ta ++ [g]))) w (w'.setCell ⟨e, 2, none⟩ (.slice (some ⟨g, 0, none⟩) (t + 1) cap)) := FF.keeps.more (fun b hb => by
      simp only [List.mem_cons, List.mem_append] at hb ⊢
      rcases hb with h | h
      · exact .inl h
      · exact .inr (.inr (.inr (.inl h))))
    have hq2 : ChOk w (e :: o :: (ob ca ++ (ob ta ++ [g]))) q := (E.node q hq).more (fun b hb => by
      simp only [List.mem_cons, List.mem_append, List.not_mem_nil, or_false] at hb ⊢
      rcases hb with h | h | h | h | h
      · exact .inl (.inl h)
      · exact .inl (.inr (.inl h))
      · exact .inl (.inr (.inr (.inl h)))
      · exact .inl (.inr (.inr (.inr h)))
      · rcases A.at' with k | k
        · exact .inl (.inr (.inr (.inr (h ▸ k))))
        · exact .inr (by omega))
    exact (hq2.keep hk).more (fun b hb => .inl (by
      simp only [List.mem_cons, List.mem_append, ob, List.not_mem_nil, or_false] at hb ⊢
      rcases hb with h | h | h | h
      · exact .inl h
      · exact .inr (.inl h)
      · exact .inr (.inr (.inl h))
      · exact .inr (.inr (.inr (.inr h)))))
  · simp [ob]; exact fun h => hgn.1 h.symm
  · obtain ⟨q1, q2, q3, q4⟩ := E.dc q hq
    refine ⟨q1, q2, q3, ?_⟩
    simp [ob]
    exact fun h => hgn.2.2.2.2 (h ▸ hq)
  · intro q hq
    simp [ob] at hq
    subst hq
    exact ⟨hgn.2.1, hgn.2.2.1, hgn.2.2.2.1⟩
end
/-- an edit, whatever lies within -/
structure EdIs (w0 w : World) (e o : Nat) (L : List Kn) (S : List Sp) (C : List Ch) (t : Nat) : Prop where
  ex : ∃ m a c k0 n0 ca cc ta tc, EdAt w0 w e o m L a c S k0 n0 C ca cc ta tc t
theorem EdIs.under {w0 w w' : World} {e o : Nat} {L : List Kn} {S : List Sp} {C : List Ch} {t : Nat} (E : EdIs w0 w e o L S C t) (hb : Below w.heap.size w w') : EdIs w0 w' e o L S C t := by
  obtain ⟨m, a, c, k0, n0, ca, cc, ta, tc, H⟩ := E.ex
  exact ⟨m, a, c, k0, n0, ca, cc, ta, tc, H.under hb⟩
theorem EdIs.b {w0 w : World} {e o : Nat} {L : List Kn} {S : List Sp} {C : List Ch} {t : Nat} (E : EdIs w0 w e o L S C t) : Below w0.heap.size w0 w := by
  obtain ⟨m, a, c, k0, n0, ca, cc, ta, tc, H⟩ := E.ex
  exact H.b
end Go.Proofs.Ytbemgfpnoeogdaa.EdP

/-
  edit: nobody, spare, At: contracts.
-/
namespace Go.Proofs.Ytbemgfpnoeogdaa.EdP
open Go.RowKit RefP FoP Dp
set_option linter.unusedVariables false
set_option linter.unusedSimpArgs false
theorem nobody_some {w : World} {e : Nat} {p : Addr} {v1 v2 : Value} {T : TypeId} (B : Blk w e #[.pointer (some p), v1, v2] T) : Calls Try.prog 43 #[.pointer (some ⟨e, 0, none⟩)] w fun r w' => r = .returned (.bool false) ∧ w' = w := by
  have c0 := B.at 0 rfl
  go_enter Try.func43, Try.ntmps43
  go_wp2_with fail
  go_ret
  exact ⟨rfl, rfl⟩
def spFind (T : List Sp) (n : Int) : Option Sp := T.find? (fun p => p.1 == n)
def spRet (x : Option Sp) : Value := match x with | some s => .tuple #[.agg #[.int .i64 s.1, .int .u64 s.2], .bool true] | none => .tuple #[.agg sz, .bool false]
theorem find_first {α : Type} (f : α → Bool) : ∀ (T : List α) (k : Nat) (h : k < T.length), f T[k] = true → (∀ j (hj : j < T.length), j < k → f T[j] = false) → T.find? f = some T[k]
  | x :: xs, 0, h, e, _ => by simp at e; simp [List.find?, e]
  | x :: xs, k + 1, h, e, hall => by
    have h0 : f x = false := hall 0 (by simp) (by omega)
    rw [List.find?, h0]
    simpa using find_first f xs k (by simpa using h) (by simpa using e) (fun j hj hjk => hall (j + 1) (by simpa using hj) (by omega))
theorem spFind_hit {T : List Sp} {n : Int} {k : Nat} (h : k < T.length) (e : T[k].1 = n) (hall : ∀ j (hj : j < T.length), j < k → T[j].1 ≠ n) : spFind T n = some T[k] :=
  find_first _ T k h (by simpa using e) (fun j hj hjk => by simpa using hall j hj hjk)
theorem spFind_miss {T : List Sp} {n : Int} (hall : ∀ j (hj : j < T.length), T[j].1 ≠ n) : spFind T n = none := by
  unfold spFind
  rw [List.find?_eq_none]
  intro p hp
  obtain ⟨j, hj, rfl⟩ := List.getElem_of_mem hp
  simpa using hall j hj
set_option maxRecDepth 20000 in
set_option maxHeartbeats 1600000 in
theorem esp_any {w : World} {e base : Nat} {v0 v1 : Value} {ta : Option Addr} {tc : Nat} {T : List Sp} {Ty : TypeId} (B : Blk w e #[v0, v1, .slice ta T.length tc] Ty) (O : OwnS w base ta tc T) (hl : T.length ≤ 100) (n : Int) :
    Calls Try.prog 60 #[.pointer (some ⟨e, 0, none⟩), .int .i64 n] w fun r w' => r = .returned (spRet (spFind T n)) ∧ Below w.heap.size w w' := by
  have hb : Below w.heap.size w (w.alloc (.cells sz 60)) := by (repeat (first | exact Below.refl _ _ | assumption | refine below_alloc2 ?_ (by first | exact Nat.le_refl _ | omega) _ | refine Below.drew ?_ | refine below_drewN ?_ _ | refine below_push2 ?_ ‹_› (by first | exact Nat.le_refl _ | omega) | refine Below.setCell ?_ (by first | (simp; done) | (simp; omega) | omega) _))
  have BR := Blk.new w sz 60
  have B1 := B.below hb
  have O1 := O.below hb
  have hz := BR.lt
  go_enter Try.func60, Try.ntmps60
  go_upto_region 1 with (fail)
  generalize w.alloc (.cells sz 60) = w1 at hb BR B1 O1 hz ⊢
  have c2 := B1.at 2 rfl
  go_wp2_with fail
  go_loopg [13] T.length (fun gg i wr => ∃ k : Nat, k ≤ T.length ∧ T.length ≤ k + gg ∧ i = .int .i64 k ∧ Below w1.heap.size w1 wr ∧ Hid (∀ j (hj : j < T.length), j < k → T[j].1 ≠ n))
  case atStart => exact ⟨0, Nat.zero_le _, by omega, rfl, Below.refl _ _, Lib.hid fun j _ h => absurd h (by omega)⟩
  case round =>
    obtain ⟨k, hk, hkg, rfl, hb2, hall⟩ := hrel
    have hbb := below_push2 hb hb2 (Nat.le_refl _)
    have BR2 := BR.below hb2
    have hzr := hb2.size
    by_cases hlt : k < T.length
    · have hlt' : (k : Int) < (T.length : Int) := by omega
      obtain ⟨b, off, ha, hbl, y0, y1, _⟩ := sp_at (OwnV.hrow (O1.below hb2) (by decide) (by simp)) k hlt
      simp only at ha
      subst ha
      obtain ⟨x0, hx0⟩ : ∃ x, x = T[k].1 := ⟨_, rfl⟩
      obtain ⟨x1, hx1⟩ : ∃ x, x = T[k].2 := ⟨_, rfl⟩
      rw [← hx0] at y0
      rw [← hx1] at y1
      replace hx0 := Lib.hid hx0
      replace hx1 := Lib.hid hx1
      by_cases he : x0 = n
      · have hbt : (x0 == n) = true := by simpa using he
        replace he := Lib.hid he
        have BRs := (BR2.alloc (.cells #[.int .i64 x0, .int .u64 x1] 60))
        have BXs := Blk.new wr #[.int .i64 x0, .int .u64 x1] 60
        go_wp2_with (first
          | (refine wpList_store_row rfl 60 _ _ rfl wr.heap.size _ rfl rfl 60 _ (Blk.new wr _ _).h (by kernel_rfl) (by rfl) (by kernel_rfl) ?_; rw [World.setRow_alloc_new])
          | (refine wpList_load_row rfl 60 _ rfl wr.heap.size rfl 60 _ (0, 0) _ BXs.h Try.underlying60 rfl (by kernel_rfl) ?_)
          | (refine wpList_store_row rfl 60 _ _ rfl w.heap.size _ rfl rfl 60 _ BRs.h (by kernel_rfl) (by rfl) (by kernel_rfl) ?_))
        refine bodyPost_ret (v := .tuple #[.agg #[.int .i64 x0, .int .u64 x1], .bool true]) (FoP.results_cell_tmp rfl _ _ w.heap.size 60 #[.int .i64 x0, .int .u64 x1] (0, 0) _ (.bool true) rfl rfl (Blk.row BRs _).h Try.underlying60 rfl (by kernel_rfl)) rfl ⟨?_, below_setRow (hbb.alloc (by omega) _) (Nat.le_refl _) _⟩
        rw [spFind_hit hlt (by rw [← hx0.out]; exact he.out) hall.out, hx0.out, hx1.out]
        rfl
      · have hbt : (x0 == n) = false := by simpa using he
        replace he := Lib.hid he
        go_wp2_with (refine wpList_store_row rfl 60 _ _ rfl wr.heap.size _ rfl rfl 60 _ (Blk.new wr _ _).h (by kernel_rfl) (by rfl) (by kernel_rfl) ?_; rw [World.setRow_alloc_new])
        go_roundg (T.length - (k + 1))
        case measure => omega
        case rel => exact ⟨k + 1, by omega, by omega, by go_num, hb2.alloc hb2.size _, Lib.hid fun j hj hjk => by
          by_cases e : j = k
          · subst e; rw [← hx0.out]; exact he.out
          · exact hall.out j hj (by omega)⟩
    · obtain rfl : k = T.length := by omega
      go_wp2_with (refine wpList_store_row rfl 60 _ _ rfl w.heap.size _ rfl rfl 60 _ BR2.h (by kernel_rfl) (by rfl) (by kernel_rfl) ?_)
      refine bodyPost_ret (v := .tuple #[.agg sz, .bool false]) (FoP.results_cell_tmp rfl _ _ w.heap.size 60 sz (0, 0) _ (.bool false) rfl rfl (Blk.row BR2 _).h Try.underlying60 rfl (by kernel_rfl)) rfl ⟨?_, below_setRow hbb (Nat.le_refl _) _⟩
      rw [spFind_miss (fun j hj => hall.out j hj hj)]
      rfl
/-- what is known of a cell -/
def KnIs (w0 : World) (L : List Kn) (l : List KnV) : Prop := L.length = l.length ∧ ∀ i (h : i < L.length) (h' : i < l.length), ∃ q, L[i] = (l[i].1, knA q l[i]) ∧ KnOk w0 [] q l[i]
def knFind (l : List KnV) (n : Int) : Option KnV := l.find? (fun y => y.1 == n)
theorem KnIs.at {w0 : World} {L : List Kn} {l : List KnV} (H : KnIs w0 L l) (n : Int) : (knAt L n = none ∧ knFind l n = none) ∨ (∃ q y, knAt L n = some (knA q y) ∧ knFind l n = some y ∧ KnOk w0 [] q y ∧ y ∈ l) := by
  by_cases hex : ∃ k, ∃ h : k < l.length, l[k].1 = n ∧ ∀ j (hj : j < l.length), j < k → l[j].1 ≠ n
  · obtain ⟨k, hk, e, hall⟩ := hex
    have hkL : k < L.length := by have := H.1; omega
    obtain ⟨q, h1, h2⟩ := H.2 k hkL hk
    refine .inr ⟨q, l[k], ?_, find_first _ l k hk (by simpa using e) (fun j hj hjk => by simpa using hall j hj hjk), h2, List.getElem_mem _⟩
    unfold knAt
    rw [find_first (fun p : Kn => p.1 == n) L k hkL (by rw [h1]; simpa using e) (fun j hj hjk => by
      obtain ⟨q', h3, _⟩ := H.2 j hj (by have := H.1; omega)
      rw [h3]
      simpa using hall j (by have := H.1; omega) hjk), h1]
    rfl
  · have hno : ∀ j (hj : j < l.length), l[j].1 ≠ n := by
      intro j
      induction j using Nat.strongRecOn with
      | ind j ih => exact fun hj he => hex ⟨j, hj, he, fun i hi hij => ih i hij hi⟩
    refine .inl ⟨?_, ?_⟩
    · unfold knAt
      rw [List.find?_eq_none.2 (fun p hp => ?_)]
      · rfl
      · obtain ⟨j, hj, rfl⟩ := List.getElem_of_mem hp
        obtain ⟨q', h3, _⟩ := H.2 j hj (by have := H.1; omega)
        rw [h3]
        simpa using hno j (by have := H.1; omega)
    · unfold knFind
      rw [List.find?_eq_none]
      intro p hp
      obtain ⟨j, hj, rfl⟩ := List.getElem_of_mem hp
      simpa using hno j hj
end Go.Proofs.Ytbemgfpnoeogdaa.EdP

/-
  edit: At: the contract.
-/
namespace Go.Proofs.Ytbemgfpnoeogdaa.EdP
open Go.RowKit RefP FoP Dp
set_option linter.unusedVariables false
set_option linter.unusedSimpArgs false
/-- what an edit tells of a cell -/
def AtIs (C : List Ch) (l : List KnV) (cell : Int) (x : NodeV) (bit : Bool) : Prop :=
  (∃ i, ∃ hi : i < C.length, C[i].2.cell = cell ∧ (∀ j (hj : j < C.length), i < j → C[j].2.cell ≠ cell) ∧ bit = !C[i].2.empty ∧ (bit = true → x = C[i].2.node)) ∨
  ((∀ j (hj : j < C.length), C[j].2.cell ≠ cell) ∧ ((knFind l cell = none ∧ bit = false) ∨ ∃ y, knFind l cell = some y ∧ bit = true ∧ x = y.2.2.2.1))
theorem ch_node {w : World} {s : Nat} {p : Ch} {T : TypeId} (B : Blk w s (chA p) T) : w.rangeAt s 6 (nodeA p.1 p.2.node).toList := fun j v hv => by
  have hj : j < 8 := (List.getElem?_eq_some_iff.1 hv).1
  have e : j = 0 ∨ j = 1 ∨ j = 2 ∨ j = 3 ∨ j = 4 ∨ j = 5 ∨ j = 6 ∨ j = 7 := by omega
  refine B.at (6 + j) ?_
  rcases e with e | e | e | e | e | e | e | e <;> subst e <;> exact hv
theorem KnIs.got {w0 : World} {L : List Kn} {l : List KnV} (H : KnIs w0 L l) (n : Int) : ∃ q y, (knAt L n).getD kz = knA q y ∧ NodeOk w0 [] q y.2.2.2.1 ∧ ((knFind l n = none ∧ (knAt L n).isSome = false) ∨ (knFind l n = some y ∧ (knAt L n).isSome = true)) := by
  rcases H.at n with ⟨h1, h2⟩ | ⟨q, y, h1, h2, h3, _⟩
  · exact ⟨q00, (0, 0, 0, n00, ()), by rw [h1]; rfl, n00_ok _ _, .inl ⟨h2, by rw [h1]; rfl⟩⟩
  · exact ⟨q, y, by rw [h1]; rfl, h3.node, .inr ⟨h2, by rw [h1]; rfl⟩⟩
set_option maxRecDepth 100000 in
set_option maxHeartbeats 1600000 in
theorem eat_any {w0 w : World} {e o : Nat} {L : List Kn} {S : List Sp} {C : List Ch} {t : Nat} {l : List KnV} (E : EdIs w0 w e o L S C t) (K : KnIs w0 L l) (cell : Int) (hc : I64 cell) :
    Calls Try.prog 10 #[.pointer (some ⟨e, 0, none⟩), .int .i64 cell] w fun r w' => ∃ q x bit, r = .returned (.tuple #[.agg (nodeA q x), .bool bit]) ∧ NodeOk w' [] q x ∧ EdIs w0 w' e o L S C t ∧ Fr [o] w w' ∧ AtIs C l cell x bit := by
  obtain ⟨m, a, c, k0, n0, ca, cc, ta, tc, H⟩ := E.ex
  have hb : Below w.heap.size w (w.alloc (.cells nd0 26)) := by (repeat (first | exact Below.refl _ _ | assumption | refine below_alloc2 ?_ (by first | exact Nat.le_refl _ | omega) _ | refine Below.drew ?_ | refine below_drewN ?_ _ | refine below_push2 ?_ ‹_› (by first | exact Nat.le_refl _ | omega) | refine Below.setCell ?_ (by first | (simp; done) | (simp; omega) | omega) _))
  have BR := Blk.new w nd0 26
  have H1 := H.under hb
  have hz := BR.lt
  go_enter Try.func10, Try.ntmps10
  go_upto_region 1 with (fail)
  generalize w.alloc (.cells nd0 26) = w1 at hb BR H1 hz ⊢
  go_wp2_with fail
  refine (nobody_some H1.blk).mono ?_
  rintro r w2 ⟨rfl, rfl⟩
  go_wp2_with fail
  refine (last_any e C cell w2 H1.chrow (by have := H1.cl; omega)).mono ?_
  rintro r w3 ⟨hlast, hb3⟩
  have H3 := H1.under hb3
  have BR3 := BR.below hb3
  have hbb := below_push2 hb hb3 (Nat.le_refl _)
  have hz3 := hb3.size
  clear BR H1
  rcases hlast with ⟨rfl, hno⟩ | ⟨i, hi, rfl, he, hla⟩
  · have hbx : Below w3.heap.size w3 (w3.alloc (.cells chz 97)) := by (repeat (first | exact Below.refl _ _ | assumption | refine below_alloc2 ?_ (by first | exact Nat.le_refl _ | omega) _ | refine Below.drew ?_ | refine below_drewN ?_ _ | refine below_push2 ?_ ‹_› (by first | exact Nat.le_refl _ | omega) | refine Below.setCell ?_ (by first | (simp; done) | (simp; omega) | omega) _))
    have H4 := H3.under hbx
    have BR4 := BR3.below hbx
    have hb4 := below_push2 hbb hbx (Nat.le_refl _)
    go_upto_region 4 with (refine wpList_store_row rfl 97 _ _ rfl _ _ rfl rfl 97 _ (Blk.new w3 _ _).h (by kernel_rfl) (by rfl) (by kernel_rfl) ?_; rw [World.setRow_alloc_new])
    generalize w3.alloc (.cells chz 97) = w4 at hbx H4 BR4 hb4 ⊢
    have e0 := H4.blk.at 0 rfl
    go_wp2_with fail
    refine (at_all H4.V cell ⟨hc.1, hc.2⟩).mono ?_
    rintro r w5 ⟨rfl, V5, F5⟩
    obtain ⟨q, y, hq, hn, hcase⟩ := K.got cell
    rw [hq]
    generalize (knAt L cell).isSome = bit at hcase
    have hge := H.V.lts.1
    have BR5 := F5.blk BR4 (by first | (simp; done) | (simp; omega))
    have F45 : Fr [o] w w5 := (Fr.of_below hb4).trans F5
    have hbk : Below w5.heap.size w5 (w5.alloc (.cells (knA q y) 53)) := by (repeat (first | exact Below.refl _ _ | assumption | refine below_alloc2 ?_ (by first | exact Nat.le_refl _ | omega) _ | refine Below.drew ?_ | refine below_drewN ?_ _ | refine below_push2 ?_ ‹_› (by first | exact Nat.le_refl _ | omega) | refine Below.setCell ?_ (by first | (simp; done) | (simp; omega) | omega) _))
    have BK := Blk.new w5 (knA q y) 53
    have BR6 := BR5.below hbk
    have hz6 := F5.size
    have hz4 := hb4.size
    have F6 : Fr [o] w ((w5.alloc (.cells (knA q y) 53)).setRow w.heap.size (nodeA q y.2.2.2.1)) := (F45.trans (Fr.of_below hbk)).rowNew w.heap.size _ (Nat.le_refl _)
    have hN := hn.keep (Keeps.of_below (S := []) (F6.below H.b (Nat.le_refl _) (by simpa using H.V.lo.1)))
    have hAt : AtIs C l cell y.2.2.2.1 bit := .inr ⟨hno, by
      rcases hcase with ⟨h1, h2⟩ | ⟨h1, h2⟩
      · exact .inl ⟨h1, h2⟩
      · exact .inr ⟨y, h1, h2, rfl⟩⟩
    have H7 := H.view F6 (H.V.row (V5.under hbk) w.heap.size (nodeA q y.2.2.2.1) (Nat.le_refl _))
    go_wp2_with (first
      | (refine wpList_store_row rfl 53 _ _ rfl _ _ rfl rfl 53 _ (Blk.new w5 _ _).h (by kernel_rfl) (by rfl) (by kernel_rfl) ?_; rw [World.setRow_alloc_new])
      | (refine wpList_load_mid rfl 26 _ rfl w5.heap.size 3 rfl (nodeA q y.2.2.2.1).toList _ (kn_node BK) Try.underlying26 rfl (by kernel_rfl) ?_)
      | (refine wpList_store_row rfl 26 _ _ rfl w.heap.size _ rfl rfl 26 _ BR6.h (by kernel_rfl) (by rfl) (by kernel_rfl) ?_))
    refine bodyPost_ret (v := .tuple #[.agg (nodeA q y.2.2.2.1), .bool bit]) (FoP.results_cell_tmp rfl _ _ w.heap.size 26 (nodeA q y.2.2.2.1) (0, 0) _ (.bool bit) rfl rfl (FoP.Blk.row BR6 _).h Try.underlying26 rfl (by kernel_rfl)) rfl ⟨q, y.2.2.2.1, bit, rfl, hN, ⟨m, a, c, _, _, ca, cc, ta, tc, H7⟩, F6, hAt⟩
  · have hne : ((i : Int) == -1) = false := by first | (simp; done) | (simp; omega)
    have hbx : Below w3.heap.size w3 (w3.alloc (.cells (chA C[i]) 97)) := by (repeat (first | exact Below.refl _ _ | assumption | refine below_alloc2 ?_ (by first | exact Nat.le_refl _ | omega) _ | refine Below.drew ?_ | refine below_drewN ?_ _ | refine below_push2 ?_ ‹_› (by first | exact Nat.le_refl _ | omega) | refine Below.setCell ?_ (by first | (simp; done) | (simp; omega) | omega) _))
    have BX := Blk.new w3 (chA C[i]) 97
    have H4 := H3.under hbx
    have BR4 := BR3.below hbx
    have hb4 := below_push2 hbb hbx (Nat.le_refl _)
    go_upto_region 4 with (refine wpList_store_row rfl 97 _ _ rfl _ _ rfl rfl 97 _ (Blk.new w3 _ _).h (by kernel_rfl) (by rfl) (by kernel_rfl) ?_; rw [World.setRow_alloc_new])
    obtain ⟨X, hX⟩ : ∃ x, x = w3.heap.size := ⟨_, rfl⟩
    rw [← hX] at BX ⊢
    replace hX := Lib.hid hX
    generalize w3.alloc (.cells (chA C[i]) 97) = w4 at hbx BX H4 BR4 hb4 ⊢
    have hx4 : w4.cell? ⟨X, 4, none⟩ = some (.bool C[i].2.empty) := BX.at 4 rfl
    cases hem : C[i].2.empty
    · rw [hem] at hx4
      have hAt : AtIs C l cell C[i].2.node true := .inl ⟨i, hi, he, hla, by rw [hem]; rfl, fun _ => rfl⟩
      replace hem := Lib.hid hem
      have hok := H4.node _ (List.getElem_mem hi)
      go_wp2_with (refine wpList_load_mid rfl 26 _ rfl X 6 rfl (nodeA C[i].1 C[i].2.node).toList _ (ch_node BX) Try.underlying26 rfl (by kernel_rfl) ?_)
      refine (nclone_any _ C[i].1 C[i].2.node w4 hok.node hok.small.1 hok.small.2.1 hok.small.2.2).mono ?_
      rintro r w5 ⟨⟨q, rfl, hn⟩, hb5⟩
      have BR5 := BR4.below hb5
      have hbf := below_setRow (below_push2 hb4 hb5 (Nat.le_refl _)) (Nat.le_refl _) (nodeA q C[i].2.node)
      have hz4 := hb4.size
      have hbl := BR4.lt
      have F7 := Fr.row (S := [w.heap.size]) (w := w5) w.heap.size (nodeA q C[i].2.node) (by simp)
      have hN := node_more ((node_more hn (S' := [w.heap.size]) (fun b hb => .inl (by simp at hb ⊢; omega))).keep F7.keeps) (S' := []) (by simp)
      go_wp2_with (refine wpList_store_row rfl 26 _ _ rfl w.heap.size _ rfl rfl 26 _ BR5.h (by kernel_rfl) (by rfl) (by kernel_rfl) ?_)
      exact bodyPost_ret (v := .tuple #[.agg (nodeA q C[i].2.node), .bool true]) (FoP.results_cell_tmp rfl _ _ w.heap.size 26 (nodeA q C[i].2.node) (0, 0) _ (.bool true) rfl rfl (FoP.Blk.row BR5 _).h Try.underlying26 rfl (by kernel_rfl)) rfl ⟨q, C[i].2.node, true, rfl, hN, ⟨m, a, c, _, _, ca, cc, ta, tc, H.under hbf⟩, Fr.of_below hbf, hAt⟩
    · rw [hem] at hx4
      have hAt : AtIs C l cell n00 false := .inl ⟨i, hi, he, hla, by rw [hem]; rfl, fun h => by cases h⟩
      replace hem := Lib.hid hem
      go_wp2_with (refine wpList_store_row rfl 26 _ _ rfl w.heap.size _ rfl rfl 26 _ BR4.h (by kernel_rfl) (by rfl) (by kernel_rfl) ?_)
      have hbf := below_setRow hb4 (Nat.le_refl _) nd0
      exact bodyPost_ret (v := .tuple #[.agg nd0, .bool false]) (FoP.results_cell_tmp rfl _ _ w.heap.size 26 nd0 (0, 0) _ (.bool false) rfl rfl (FoP.Blk.row BR4 _).h Try.underlying26 rfl (by kernel_rfl)) rfl ⟨q00, n00, false, rfl, n00_ok _ _, ⟨m, a, c, _, _, ca, cc, ta, tc, H.under hbf⟩, Fr.of_below hbf, hAt⟩
end Go.Proofs.Ytbemgfpnoeogdaa.EdP

/-
  edit: begin: the contract.
-/
namespace Go.Proofs.Ytbemgfpnoeogdaa.EdP
open Go.RowKit RefP FoP Dp
set_option linter.unusedVariables false
set_option linter.unusedSimpArgs false
/-- a change that is begun -/
def cBeg (cell from_ word ver : Int) : ChangeV := ⟨cell, from_, word, ver, false, false, n00⟩
def BgIs (C : List Ch) (l : List KnV) (T : List Sp) (cell : Int) (cv : ChangeV) : Prop :=
  C.length < 46 ∧
  ((∃ i, ∃ hi : i < C.length, C[i].2.cell = cell ∧ (∀ j (hj : j < C.length), i < j → C[j].2.cell ≠ cell) ∧ C[i].2.empty = false ∧ cv = cBeg cell i 0 (IntKind.u64.wrap (C[i].2.ver + 1))) ∨
   ((∀ j (hj : j < C.length), C[j].2.cell ≠ cell) ∧ ((∃ s, spFind T cell = some s ∧ cv = cBeg cell (-1) 0 s.2) ∨ (spFind T cell = none ∧ ∃ y, knFind l cell = some y ∧ cv = cBeg cell (-1) y.2.1 y.2.2.1))))
/-- what begin answers -/
def BegAt (w0 : World) (e o m : Nat) (L : List Kn) (a : Option Addr) (c : Nat) (S : List Sp) (C : List Ch) (ca : Option Addr) (cc : Nat) (ta : Option Addr) (tc t : Nat) (l : List KnV) (cell : Int) (w : World) (r : Ending) (w' : World) : Prop :=
  ∃ cv bit k n, r = .returned (.tuple #[.agg (changeA q00 cv), .bool bit]) ∧ Fr [o] w w' ∧ EdAt w0 w' e o m L a c S k n C ca cc ta tc t ∧ cv.node = n00 ∧ (bit = true → BgIs C l (S.take t) cell cv) ∧ (bit = false → ∀ cv, ¬ BgIs C l (S.take t) cell cv)
set_option maxRecDepth 100000 in
set_option maxHeartbeats 3200000 in
theorem begin_any {w0 w : World} {e o m : Nat} {L : List Kn} {a : Option Addr} {c : Nat} {S : List Sp} {k0 n0 : Int} {C : List Ch} {ca : Option Addr} {cc : Nat} {ta : Option Addr} {tc t : Nat} {l : List KnV} (H : EdAt w0 w e o m L a c S k0 n0 C ca cc ta tc t) (K : KnIs w0 L l) (cell : Int) (hc : I64 cell) :
    Calls Try.prog 46 #[.pointer (some ⟨e, 0, none⟩), .int .i64 cell] w (BegAt w0 e o m L a c S C ca cc ta tc t l cell w) := by
  have hb : Below w.heap.size w (w.alloc (.cells chz 97)) := by (repeat (first | exact Below.refl _ _ | assumption | refine below_alloc2 ?_ (by first | exact Nat.le_refl _ | omega) _ | refine Below.drew ?_ | refine below_drewN ?_ _ | refine below_push2 ?_ ‹_› (by first | exact Nat.le_refl _ | omega) | refine Below.setCell ?_ (by first | (simp; done) | (simp; omega) | omega) _))
  have BR := Blk.new w chz 97
  have H1 := H.under hb
  have hz := BR.lt
  go_enter Try.func46, Try.ntmps46
  go_upto_region 1 with (fail)
  generalize w.alloc (.cells chz 97) = w1 at hb BR H1 hz ⊢
  go_wp2_with fail
  refine (nobody_some H1.blk).mono ?_
  rintro r w2 ⟨rfl, rfl⟩
  go_wp2_with fail
  refine (last_any e C cell w2 H1.chrow (by have := H1.cl; omega)).mono ?_
  rintro r w3 ⟨hlast, hb3⟩
  have H3 := H1.under hb3
  have BR3 := BR.below hb3
  have hbb := below_push2 hb hb3 (Nat.le_refl _)
  have hz3 := hb3.size
  have hcl := H.cl
  have hol := H.V.lts.1
  clear BR H1
  rcases hlast with ⟨rfl, hno⟩ | ⟨i, hi, rfl, he, hla⟩
  · have hbx : Below w3.heap.size w3 (w3.alloc (.cells chz 97)) := by (repeat (first | exact Below.refl _ _ | assumption | refine below_alloc2 ?_ (by first | exact Nat.le_refl _ | omega) _ | refine Below.drew ?_ | refine below_drewN ?_ _ | refine below_push2 ?_ ‹_› (by first | exact Nat.le_refl _ | omega) | refine Below.setCell ?_ (by first | (simp; done) | (simp; omega) | omega) _))
    have H4 := H3.under hbx
    have BR4 := BR3.below hbx
    have hb4 := below_push2 hbb hbx (Nat.le_refl _)
    go_upto_region 4 with (refine wpList_store_row rfl 97 _ _ rfl _ _ rfl rfl 97 _ (Blk.new w3 _ _).h (by kernel_rfl) (by rfl) (by kernel_rfl) ?_; rw [World.setRow_alloc_new])
    generalize w3.alloc (.cells chz 97) = w4 at hbx H4 BR4 hb4 ⊢
    have e1 := H4.blk.at 1 rfl
    have e0 := H4.blk.at 0 rfl
    by_cases h46 : C.length < 46
    · have h46' : ¬ (46 ≤ (C.length : Int)) := by omega
      go_wp2_with fail
      have htl : (S.take t).length = t := by rw [List.length_take]; have := H.tl; omega
      have B4' : Blk w4 e #[.pointer (some ⟨o, 0, none⟩), .slice ca C.length cc, .slice ta (S.take t).length tc] 36 := by rw [htl]; exact H4.blk
      refine (esp_any B4' H4.tk (by rw [htl]; have := H.tl; have := H.sl; omega) cell).mono ?_
      rintro r w5 ⟨rfl, hb5⟩
      have H5 := H4.under hb5
      have BR5 := BR4.below hb5
      have hB5 := below_push2 hb4 hb5 (Nat.le_refl _)
      cases hsp : spFind (S.take t) cell with
      | some s =>
        obtain ⟨s0, s1⟩ := s
        have hBg : BgIs C l (S.take t) cell (cBeg cell (-1) 0 s1) := ⟨h46, .inr ⟨hno, .inl ⟨_, hsp, rfl⟩⟩⟩
        simp only [spRet]
        replace hsp := Lib.hid hsp
        have hbs : Below w5.heap.size w5 (w5.alloc (.cells #[.int .i64 s0, .int .u64 s1] 60)) := by (repeat (first | exact Below.refl _ _ | assumption | refine below_alloc2 ?_ (by first | exact Nat.le_refl _ | omega) _ | refine Below.drew ?_ | refine below_drewN ?_ _ | refine below_push2 ?_ ‹_› (by first | exact Nat.le_refl _ | omega) | refine Below.setCell ?_ (by first | (simp; done) | (simp; omega) | omega) _))
        have BS := Blk.new w5 #[.int .i64 s0, .int .u64 s1] 60
        have BR6 := BR5.below hbs
        have hB6 := below_push2 hB5 hbs (Nat.le_refl _)
        go_upto_region 10 with (refine wpList_store_row rfl 60 _ _ rfl _ _ rfl rfl 60 _ (Blk.new w5 _ _).h (by kernel_rfl) (by rfl) (by kernel_rfl) ?_; rw [World.setRow_alloc_new])
        have x1 := BS.at 1 rfl
        have hbf := below_setRow hB6 (Nat.le_refl _) (changeA q00 (cBeg cell (-1) 0 s1))
        go_wp2_with (refine wpList_store_row rfl 97 _ _ rfl w.heap.size _ rfl rfl 97 _ BR6.h (by kernel_rfl) (by rfl) (by kernel_rfl) ?_)
        exact bodyPost_ret (v := .tuple #[.agg (changeA q00 (cBeg cell (-1) 0 s1)), .bool true]) (FoP.results_cell_tmp rfl _ _ w.heap.size 97 (changeA q00 (cBeg cell (-1) 0 s1)) (0, 0) _ (.bool true) rfl rfl (FoP.Blk.row BR6 _).h Try.underlying97 rfl (by kernel_rfl)) rfl ⟨cBeg cell (-1) 0 s1, true, _, _, rfl, Fr.of_below hbf, H.under hbf, rfl, (fun _ => hBg), fun h => by cases h⟩
      | none =>
        simp only [spRet]
        have hbs : Below w5.heap.size w5 (w5.alloc (.cells sz 60)) := by (repeat (first | exact Below.refl _ _ | assumption | refine below_alloc2 ?_ (by first | exact Nat.le_refl _ | omega) _ | refine Below.drew ?_ | refine below_drewN ?_ _ | refine below_push2 ?_ ‹_› (by first | exact Nat.le_refl _ | omega) | refine Below.setCell ?_ (by first | (simp; done) | (simp; omega) | omega) _))
        have BR6 := BR5.below hbs
        have H6 := H5.under hbs
        have hB6 := below_push2 hB5 hbs (Nat.le_refl _)
        go_upto_region 10 with (refine wpList_store_row rfl 60 _ _ rfl _ _ rfl rfl 60 _ (Blk.new w5 _ _).h (by kernel_rfl) (by rfl) (by kernel_rfl) ?_; rw [World.setRow_alloc_new])
        generalize w5.alloc (.cells sz 60) = w6 at hbs BR6 H6 hB6 ⊢
        have e0' := H6.blk.at 0 rfl
        go_wp2_with fail
        refine (at_all H6.V cell ⟨hc.1, hc.2⟩).mono ?_
        rintro r w7 ⟨rfl, V7, F7⟩
        obtain ⟨q, y, hq, hn, hcase⟩ := K.got cell
        rw [hq]
        have hBg : (knAt L cell).isSome = true → BgIs C l (S.take t) cell (cBeg cell (-1) y.2.1 y.2.2.1) := fun h => ⟨h46, .inr ⟨hno, .inr ⟨hsp, y, by
          rcases hcase with ⟨h1, h2⟩ | ⟨h1, h2⟩
          · rw [h2] at h; cases h
          · exact h1, rfl⟩⟩⟩
        have hNo : (knAt L cell).isSome = false → ∀ cv, ¬ BgIs C l (S.take t) cell cv := fun h cv hB => by
          rcases hB.2 with ⟨i, hi, he, _⟩ | ⟨_, ⟨s, hs, _⟩ | ⟨_, y', hy', _⟩⟩
          · exact hno i hi he
          · rw [hsp] at hs; cases hs
          · rcases hcase with ⟨h1, h2⟩ | ⟨h1, h2⟩
            · rw [h1] at hy'; cases hy'
            · rw [h2] at h; cases h
        replace hsp := Lib.hid hsp
        generalize (knAt L cell).isSome = bit at hBg hNo
        have BR7 := F7.blk BR6 (by first | (simp; done) | (simp; omega))
        have hbk : Below w7.heap.size w7 (w7.alloc (.cells (knA q y) 53)) := by (repeat (first | exact Below.refl _ _ | assumption | refine below_alloc2 ?_ (by first | exact Nat.le_refl _ | omega) _ | refine Below.drew ?_ | refine below_drewN ?_ _ | refine below_push2 ?_ ‹_› (by first | exact Nat.le_refl _ | omega) | refine Below.setCell ?_ (by first | (simp; done) | (simp; omega) | omega) _))
        have BK := Blk.new w7 (knA q y) 53
        have BR8 := BR7.below hbk
        have F8 := (((Fr.of_below (S := [o]) hB6).trans F7).trans (Fr.of_below hbk)).rowNew w.heap.size (changeA q00 (cBeg cell (-1) y.2.1 y.2.2.1)) (Nat.le_refl _)
        have H8 := H.view F8 (H.V.row (V7.under hbk) w.heap.size _ (Nat.le_refl _))
        have k1 := BK.at 1 rfl
        have k2 := BK.at 2 rfl
        go_wp2_with (first
          | (refine wpList_store_row rfl 53 _ _ rfl _ _ rfl rfl 53 _ (Blk.new w7 _ _).h (by kernel_rfl) (by rfl) (by kernel_rfl) ?_; rw [World.setRow_alloc_new])
          | (refine wpList_store_row rfl 97 _ _ rfl w.heap.size _ rfl rfl 97 _ BR8.h (by kernel_rfl) (by rfl) (by kernel_rfl) ?_))
        exact bodyPost_ret (v := .tuple #[.agg (changeA q00 (cBeg cell (-1) y.2.1 y.2.2.1)), .bool bit]) (FoP.results_cell_tmp rfl _ _ w.heap.size 97 (changeA q00 (cBeg cell (-1) y.2.1 y.2.2.1)) (0, 0) _ (.bool bit) rfl rfl (FoP.Blk.row BR8 _).h Try.underlying97 rfl (by kernel_rfl)) rfl ⟨cBeg cell (-1) y.2.1 y.2.2.1, bit, _, _, rfl, F8, H8, rfl, hBg, hNo⟩
    · have h46' : 46 ≤ (C.length : Int) := by omega
      go_wp2_with fail
      refine (giveup_any H4.V).mono ?_
      rintro r w5 ⟨rfl, V5, F5⟩
      have F6 := ((Fr.of_below (S := [o]) hb4).trans F5).rowNew w.heap.size chz (Nat.le_refl _)
      have BR5 := F5.blk BR4 (by first | (simp; done) | (simp; omega))
      have H7 := H.view F6 (H.V.row V5 w.heap.size chz (Nat.le_refl _))
      go_wp2_with (refine wpList_store_row rfl 97 _ _ rfl w.heap.size _ rfl rfl 97 _ BR5.h (by kernel_rfl) (by rfl) (by kernel_rfl) ?_)
      exact bodyPost_ret (v := .tuple #[.agg chz, .bool false]) (FoP.results_cell_tmp rfl _ _ w.heap.size 97 chz (0, 0) _ (.bool false) rfl rfl (FoP.Blk.row BR5 _).h Try.underlying97 rfl (by kernel_rfl)) rfl ⟨cBeg 0 0 0 0, false, _, _, rfl, F6, H7, rfl, (fun h => by cases h), fun _ => fun cv hB => h46 hB.1⟩
  · have hne : ((i : Int) == -1) = false := by first | (simp; done) | (simp; omega)
    have hbx : Below w3.heap.size w3 (w3.alloc (.cells (chA C[i]) 97)) := by (repeat (first | exact Below.refl _ _ | assumption | refine below_alloc2 ?_ (by first | exact Nat.le_refl _ | omega) _ | refine Below.drew ?_ | refine below_drewN ?_ _ | refine below_push2 ?_ ‹_› (by first | exact Nat.le_refl _ | omega) | refine Below.setCell ?_ (by first | (simp; done) | (simp; omega) | omega) _))
    have BX := Blk.new w3 (chA C[i]) 97
    have H4 := H3.under hbx
    have BR4 := BR3.below hbx
    have hb4 := below_push2 hbb hbx (Nat.le_refl _)
    go_upto_region 4 with (refine wpList_store_row rfl 97 _ _ rfl _ _ rfl rfl 97 _ (Blk.new w3 _ _).h (by kernel_rfl) (by rfl) (by kernel_rfl) ?_; rw [World.setRow_alloc_new])
    obtain ⟨X, hX⟩ : ∃ x, x = w3.heap.size := ⟨_, rfl⟩
    rw [← hX] at BX ⊢
    replace hX := Lib.hid hX
    generalize w3.alloc (.cells (chA C[i]) 97) = w4 at hbx BX H4 BR4 hb4 ⊢
    have hx4 : w4.cell? ⟨X, 4, none⟩ = some (.bool C[i].2.empty) := BX.at 4 rfl
    have hx3 : w4.cell? ⟨X, 3, none⟩ = some (.int .u64 C[i].2.ver) := BX.at 3 rfl
    have e1 := H4.blk.at 1 rfl
    have e0 := H4.blk.at 0 rfl
    by_cases h46 : C.length < 46
    · have h46' : ¬ (46 ≤ (C.length : Int)) := by omega
      cases hem : C[i].2.empty
      · rw [hem] at hx4
        have hBg : BgIs C l (S.take t) cell (cBeg cell i 0 (IntKind.u64.wrap (C[i].2.ver + 1))) := ⟨h46, .inl ⟨i, hi, he, hla, hem, rfl⟩⟩
        generalize C[i].2.ver = ver at hx3 hBg
        replace hem := Lib.hid hem
        go_wp2_with (refine wpList_store_row rfl 97 _ _ rfl w.heap.size _ rfl rfl 97 _ BR4.h (by kernel_rfl) (by rfl) (by kernel_rfl) ?_)
        have hbf := below_setRow hb4 (Nat.le_refl _) (changeA q00 (cBeg cell i 0 (IntKind.u64.wrap (ver + 1))))
        exact bodyPost_ret (v := .tuple #[.agg (changeA q00 (cBeg cell i 0 (IntKind.u64.wrap (ver + 1)))), .bool true]) (FoP.results_cell_tmp rfl _ _ w.heap.size 97 (changeA q00 (cBeg cell i 0 (IntKind.u64.wrap (ver + 1)))) (0, 0) _ (.bool true) rfl rfl (FoP.Blk.row BR4 _).h Try.underlying97 rfl (by kernel_rfl)) rfl ⟨cBeg cell i 0 (IntKind.u64.wrap (ver + 1)), true, _, _, rfl, Fr.of_below hbf, H.under hbf, rfl, (fun _ => hBg), fun h => by cases h⟩
      · rw [hem] at hx4
        have hNo : ∀ cv, ¬ BgIs C l (S.take t) cell cv := fun cv hB => by
          rcases hB.2 with ⟨i', hi', he', hla', hem', _⟩ | ⟨hno, _⟩
          · have : i' = i := by
              rcases Nat.lt_trichotomy i' i with h | h | h
              · exact absurd he (hla' i hi h)
              · exact h
              · exact absurd he' (hla i' hi' h)
            subst this
            rw [hem] at hem'; cases hem'
          · exact hno i hi he
        replace hem := Lib.hid hem
        go_wp2_with fail
        refine (giveup_any H4.V).mono ?_
        rintro r w5 ⟨rfl, V5, F5⟩
        have F6 := ((Fr.of_below (S := [o]) hb4).trans F5).rowNew w.heap.size chz (Nat.le_refl _)
        have BR5 := F5.blk BR4 (by first | (simp; done) | (simp; omega))
        have H7 := H.view F6 (H.V.row V5 w.heap.size chz (Nat.le_refl _))
        go_wp2_with (refine wpList_store_row rfl 97 _ _ rfl w.heap.size _ rfl rfl 97 _ BR5.h (by kernel_rfl) (by rfl) (by kernel_rfl) ?_)
        exact bodyPost_ret (v := .tuple #[.agg chz, .bool false]) (FoP.results_cell_tmp rfl _ _ w.heap.size 97 chz (0, 0) _ (.bool false) rfl rfl (FoP.Blk.row BR5 _).h Try.underlying97 rfl (by kernel_rfl)) rfl ⟨cBeg 0 0 0 0, false, _, _, rfl, F6, H7, rfl, (fun h => by cases h), fun _ => hNo⟩
    · have h46' : 46 ≤ (C.length : Int) := by omega
      go_wp2_with fail
      refine (giveup_any H4.V).mono ?_
      rintro r w5 ⟨rfl, V5, F5⟩
      have F6 := ((Fr.of_below (S := [o]) hb4).trans F5).rowNew w.heap.size chz (Nat.le_refl _)
      have BR5 := F5.blk BR4 (by first | (simp; done) | (simp; omega))
      have H7 := H.view F6 (H.V.row V5 w.heap.size chz (Nat.le_refl _))
      go_wp2_with (refine wpList_store_row rfl 97 _ _ rfl w.heap.size _ rfl rfl 97 _ BR5.h (by kernel_rfl) (by rfl) (by kernel_rfl) ?_)
      exact bodyPost_ret (v := .tuple #[.agg chz, .bool false]) (FoP.results_cell_tmp rfl _ _ w.heap.size 97 chz (0, 0) _ (.bool false) rfl rfl (FoP.Blk.row BR5 _).h Try.underlying97 rfl (by kernel_rfl)) rfl ⟨cBeg 0 0 0 0, false, _, _, rfl, F6, H7, rfl, (fun h => by cases h), fun _ => fun cv hB => h46 hB.1⟩
end Go.Proofs.Ytbemgfpnoeogdaa.EdP

/-
  edit: Set: the contract.
-/
namespace Go.Proofs.Ytbemgfpnoeogdaa.EdP
open Go.RowKit RefP FoP Dp
set_option linter.unusedVariables false
set_option linter.unusedSimpArgs false
/-- cells of a block behind a store of some -/
def setsE (cs : Array Value) : Nat → List Value → Array Value
  | _, [] => cs
  | o, v :: r => setsE (cs.setIfInBounds o v) (o + 1) r
theorem blk_setsE {b : Nat} {T : TypeId} : ∀ (vs : List Value) (o : Nat) (w : World) (cs : Array Value), Blk w b cs T → Blk (w.setCells b o vs) b (setsE cs o vs) T
  | [], _, _, _, h => h
  | v :: r, o, w, cs, h => blk_setsE r (o + 1) _ _ (h.set o v)
theorem fr_setsE {S : List Nat} {b : Nat} (hb : b ∈ S) : ∀ (vs : List Value) (o : Nat) (w : World), Fr S w (w.setCells b o vs)
  | [], _, _ => Fr.refl _ _
  | v :: r, o, w => ((Fr.refl _ _).set _ _ (.inl hb)).trans (fr_setsE hb r (o + 1) _)
theorem below_setsE {B b : Nat} {w0 : World} (hb : B ≤ b) : ∀ (vs : List Value) (o : Nat) (w : World), Below B w0 w → Below B w0 (w.setCells b o vs)
  | [], _, _, h => h
  | v :: r, o, w, h => below_setsE hb r (o + 1) _ (h.setCell (p := ⟨b, o, none⟩) hb v)
theorem there_blkE {w : World} {b o n : Nat} {cs : Array Value} {T : TypeId} (h : Blk w b cs T) (hn : o + n ≤ cs.size) : w.there b o n := fun j hj => by
  refine ⟨?_, h.free _⟩
  rw [h.at (o + j) (Array.getElem?_eq_getElem (show o + j < cs.size by omega))]; rfl
def cNode (cv : ChangeV) (x : NodeV) (lin : Bool) : ChangeV := ⟨cv.cell, cv.from_, cv.word, cv.ver, cv.empty, lin, x⟩
theorem sets_ch (q q' : NodeH) (cv : ChangeV) (x : NodeV) : setsE (changeA q cv) 6 (nodeA q' x).toList = changeA q' (cNode cv x cv.lin) := by
  simp [setsE, cNode]
/-- a change more, or none -/
def StepIs (C : List Ch) (l : List KnV) (T : List Sp) (cell : Int) (f : ChangeV → ChangeV) (C' : List Ch) (bit : Bool) : Prop :=
  (bit = false ∧ C' = C ∧ ∀ cv, ¬ BgIs C l T cell cv) ∨ (bit = true ∧ ∃ cv q, BgIs C l T cell cv ∧ cv.node = n00 ∧ C' = C ++ [(q, f cv)])
/-- what Set and Clear answer -/
def StAt (w0 : World) (e o : Nat) (L : List Kn) (S : List Sp) (C : List Ch) (t : Nat) (l : List KnV) (cell : Int) (f : ChangeV → ChangeV) (r : Ending) (w' : World) : Prop :=
  ∃ C' bit, r = .returned (.bool bit) ∧ EdIs w0 w' e o L S C' t ∧ StepIs C l (S.take t) cell f C' bit
theorem raw14_mk {w : World} {S : List Nat} (p : Ch) : (rawC 14).rep w S (chA p).toList (chA p).toList := ⟨rfl, rfl, fun v hv => by
  simp at hv
  rcases hv with e | e | e | e | e | e | e | e | e | e | e | e | e | e <;> subst e <;> rfl⟩
set_option maxRecDepth 100000 in
set_option maxHeartbeats 3200000 in
theorem set_any {w0 w : World} {e o : Nat} {L : List Kn} {S : List Sp} {C : List Ch} {t : Nat} {l : List KnV} (E : EdIs w0 w e o L S C t) (K : KnIs w0 L l) (cell : Int) (hc : I64 cell) (q : NodeH) (x : NodeV) (hx : NodeOk w0 [] q x) (hs : SmallN x) (lin : Bool) :
    Calls Try.prog 12 #[.pointer (some ⟨e, 0, none⟩), .int .i64 cell, .agg (nodeA q x), .bool lin] w (StAt w0 e o L S C t l cell (fun cv => cNode cv x lin)) := by
  obtain ⟨m, a, c, k0, n0, ca, cc, ta, tc, H⟩ := E.ex
  have hb : Below w.heap.size w (w.alloc (.cells (nodeA q x) 26)) := by (repeat (first | exact Below.refl _ _ | assumption | refine below_alloc2 ?_ (by first | exact Nat.le_refl _ | omega) _ | refine Below.drew ?_ | refine below_drewN ?_ _ | refine below_push2 ?_ ‹_› (by first | exact Nat.le_refl _ | omega) | refine Below.setCell ?_ (by first | (simp; done) | (simp; omega) | omega) _))
  have BN := Blk.new w (nodeA q x) 26
  have H1 := H.under hb
  have hol := H.V.lts.1
  have hz := BN.lt
  go_enter Try.func12, Try.ntmps12
  go_upto_region 1 with (fail)
  obtain ⟨N0, hN0⟩ : ∃ r, r = w.heap.size := ⟨_, rfl⟩
  rw [← hN0] at BN hz ⊢
  replace hN0 := Lib.hid hN0
  generalize w.alloc (.cells (nodeA q x) 26) = w1 at hb BN H1 hz ⊢
  go_wp2_with fail
  refine (begin_any H1 K cell hc).mono ?_
  rintro r w2 ⟨cv, bit, k, n, rfl, F2, H2, hcn, hbg, hnb⟩
  have BN2 := F2.blk BN (by have := hN0.out; simp; omega)
  have hbx : Below w2.heap.size w2 (w2.alloc (.cells (changeA q00 cv) 97)) := by (repeat (first | exact Below.refl _ _ | assumption | refine below_alloc2 ?_ (by first | exact Nat.le_refl _ | omega) _ | refine Below.drew ?_ | refine below_drewN ?_ _ | refine below_push2 ?_ ‹_› (by first | exact Nat.le_refl _ | omega) | refine Below.setCell ?_ (by first | (simp; done) | (simp; omega) | omega) _))
  have BX := Blk.new w2 (changeA q00 cv) 97
  have BN3 := BN2.below hbx
  have hlts := H2.lts
  obtain ⟨X, hX⟩ : ∃ r, r = w2.heap.size := ⟨_, rfl⟩
  go_upto_region 2 with (refine wpList_store_row rfl 97 _ _ rfl _ _ rfl rfl 97 _ (Blk.new w2 _ _).h (by kernel_rfl) (by rfl) (by kernel_rfl) ?_; rw [World.setRow_alloc_new])
  have hlx := BX.lt
  rw [← hX] at BX hbx hlx ⊢
  replace hX := Lib.hid hX
  generalize w2.alloc (.cells (changeA q00 cv) 97) = w3 at hbx BX BN3 hlx ⊢
  cases bit
  · go_wp2_with fail
    go_ret
    exact ⟨C, false, rfl, ⟨m, a, c, _, _, ca, cc, ta, tc, H2.under (hX.out ▸ hbx)⟩, .inl ⟨rfl, rfl, hnb (by simp)⟩⟩
  · have hbg' := hbg rfl
    clear hbg
    have hx3 := hx.keep (Keeps.of_below (S := []) (below_push2 H2.b (hX.out ▸ hbx) (Nat.le_refl _)))
    go_wp2_with (refine wpList_load_row rfl 26 _ rfl N0 rfl 26 _ (0, 0) _ BN3.h Try.underlying26 rfl (by kernel_rfl) ?_)
    refine (nclone_any [] q x w3 hx3 hs.1 hs.2.1 hs.2.2).mono ?_
    rintro r w4 ⟨⟨q', rfl, hn⟩, hb4⟩
    have BX4 := BX.below hb4
    have hth : w4.there X 6 (nodeA q' x).size := there_blkE BX4 (by simp)
    have BX5 := blk_setsE (nodeA q' x).toList 6 _ _ BX4
    rw [sets_ch] at BX5
    have F45 := fr_setsE (S := [X]) (b := X) (by simp) (nodeA q' x).toList 6 w4
    go_upto_region 4 with ((with_reducible (show wpList _ _ _ _ _ _)); refine wpList_store_mid rfl 26 _ _ rfl X 6 (nodeA q' x) rfl rfl hth (by kernel_rfl) (by kernel_rfl) ?_; generalize w4.setCells X 6 (nodeA q' x).toList = w5 at BX5 F45 ⊢; have x5 := BX5.at 5 rfl; have f5 := BX5.free 5)
    have F56 : Fr [X] w5 (w5.setCell ⟨X, 5, none⟩ (.bool lin)) := (Fr.refl _ _).set _ _ (.inl (by simp))
    have BX6 : Blk (w5.setCell ⟨X, 5, none⟩ (.bool lin)) X (chA (q', cNode cv x lin)) 97 := by simpa [cNode] using BX5.set 5 (.bool lin)
    generalize w5.setCell ⟨X, 5, none⟩ (.bool lin) = w6 at BX6 F56 ⊢
    have F46 := F45.trans F56
    have hb24 : Below w2.heap.size w2 w4 := below_push2 (hX.out ▸ hbx) hb4 (by have := hbx.size; omega)
    have H6 := H2.under (F46.below hb24 (Nat.le_refl _) (by simp; have := hX.out; omega))
    obtain ⟨p, hpe⟩ : ∃ p : Ch, p = (q', cNode cv x lin) := ⟨_, rfl⟩
    have hp : ChOk w6 (mutE e o ca ta) p := by
      subst hpe
      refine ⟨node_more ((node_more hn (S' := X :: mutE e o ca ta) (fun b hb => .inl ?_)).keep (F46.keeps.more (by simp))) (fun b hb => .inl (List.mem_cons_of_mem _ hb)), hs⟩
      rcases List.mem_cons.1 hb with h | h
      · simp; omega
      · have := hlts b h
        have := hX.out
        simp; omega
    rw [← hpe] at BX6
    replace hpe := Lib.hid hpe
    clear hx3 hth F45 F56 F46 hb24 BX4 hn BX5 hb4 BX BN3 hx H1 BN2 BN hlts hb hz hlx
    have hb7 : Below w6.heap.size w6 (w6.alloc (.cells (chA p) 97)).drew := ((Below.refl _ _).alloc (Nat.le_refl _) _).drew
    have H7 := H6.under hb7
    have hp7 := hp.keep (Keeps.of_below hb7)
    have hbase : w0.heap.size ≤ (w6.alloc (.cells (chA p) 97)).drew.heap.size := H7.b.size
    have hcl46 := hbg'.1
    have hel := H6.blk.lt
    obtain ⟨g, cap, w8, A⟩ := OwnV.addLit tinChange (by decide) H7.ch (Blk.new w6 (chA p) 97).drew (raw14_mk p) (by simp; omega) (by decide) hbase
    rw [show (chL C).length = C.length from List.length_map _] at A
    have hr := Lib.hid A.run
    have H9 := H7.added A hp7 hbg'.1
    have E8 := A.fr.blk H7.blk H7.ge.2.2.2.2.1
    have e1 := H6.blk.at 1 rfl
    have x0 := BX6.at 0 rfl
    have x1 := BX6.at 1 rfl
    have x2 := BX6.at 2 rfl
    have x3 := BX6.at 3 rfl
    have x4 := BX6.at 4 rfl
    have x5 := BX6.at 5 rfl
    have x6 := BX6.at 6 rfl
    have x7 := BX6.at 7 rfl
    have x8 := BX6.at 8 rfl
    have x9 := BX6.at 9 rfl
    have x10 := BX6.at 10 rfl
    have x11 := BX6.at 11 rfl
    have x12 := BX6.at 12 rfl
    have x13 := BX6.at 13 rfl
    have s1 := E8.at 1 rfl
    have g1 := E8.free 1
    replace H9 := Lib.hid H9
    clear A E8 H7 hp7 hbase hb7
    go_region_law (refine step_append_run hr.out rfl (by rfl) (by rfl) (by rfl) ?_)
    all_goals
      go_wp2_with fail
      go_ret
      exact ⟨_, true, rfl, ⟨m, a, c, _, _, _, _, ta, tc, H9.out⟩, .inr ⟨rfl, cv, q', hbg', hcn, by rw [hpe.out]⟩⟩
end Go.Proofs.Ytbemgfpnoeogdaa.EdP

/-
  edit: Clear: the contract.
-/
namespace Go.Proofs.Ytbemgfpnoeogdaa.EdP
open Go.RowKit RefP FoP Dp
set_option linter.unusedVariables false
set_option linter.unusedSimpArgs false
def cEmp (cv : ChangeV) : ChangeV := ⟨cv.cell, cv.from_, cv.word, cv.ver, true, cv.lin, cv.node⟩
set_option maxRecDepth 100000 in
set_option maxHeartbeats 3200000 in
theorem clear_any {w0 w : World} {e o : Nat} {L : List Kn} {S : List Sp} {C : List Ch} {t : Nat} {l : List KnV} (E : EdIs w0 w e o L S C t) (K : KnIs w0 L l) (cell : Int) (hc : I64 cell) :
    Calls Try.prog 13 #[.pointer (some ⟨e, 0, none⟩), .int .i64 cell] w (StAt w0 e o L S C t l cell cEmp) := by
  obtain ⟨m, a, c, k0, n0, ca, cc, ta, tc, H⟩ := E.ex
  have hol := H.V.lts.1
  go_enter Try.func13, Try.ntmps13
  go_wp2_with fail
  refine (begin_any H K cell hc).mono ?_
  rintro r w2 ⟨cv, bit, k, n, rfl, F2, H2, hcn, hbg, hnb⟩
  have hbx : Below w2.heap.size w2 (w2.alloc (.cells (changeA q00 cv) 97)) := by (repeat (first | exact Below.refl _ _ | assumption | refine below_alloc2 ?_ (by first | exact Nat.le_refl _ | omega) _ | refine Below.drew ?_ | refine below_drewN ?_ _ | refine below_push2 ?_ ‹_› (by first | exact Nat.le_refl _ | omega) | refine Below.setCell ?_ (by first | (simp; done) | (simp; omega) | omega) _))
  have BX := Blk.new w2 (changeA q00 cv) 97
  have hlts := H2.lts
  obtain ⟨X, hX⟩ : ∃ r, r = w2.heap.size := ⟨_, rfl⟩
  go_upto_region 2 with (refine wpList_store_row rfl 97 _ _ rfl _ _ rfl rfl 97 _ (Blk.new w2 _ _).h (by kernel_rfl) (by rfl) (by kernel_rfl) ?_; rw [World.setRow_alloc_new])
  have hlx := BX.lt
  rw [← hX] at BX hbx hlx ⊢
  replace hX := Lib.hid hX
  generalize w2.alloc (.cells (changeA q00 cv) 97) = w3 at hbx BX hlx ⊢
  cases bit
  · go_wp2_with fail
    go_ret
    exact ⟨C, false, rfl, ⟨m, a, c, _, _, ca, cc, ta, tc, H2.under (hX.out ▸ hbx)⟩, .inl ⟨rfl, rfl, hnb (by simp)⟩⟩
  · have hbg' := hbg rfl
    clear hbg
    have x4 := BX.at 4 rfl
    have f4 := BX.free 4
    go_upto_region 4 with (fail)
    have F36 : Fr [X] w3 (w3.setCell ⟨X, 4, none⟩ (.bool true)) := (Fr.refl _ _).set _ _ (.inl (by simp))
    have BX6 : Blk (w3.setCell ⟨X, 4, none⟩ (.bool true)) X (chA (q00, cEmp cv)) 97 := by simpa [cEmp] using BX.set 4 (.bool true)
    generalize w3.setCell ⟨X, 4, none⟩ (.bool true) = w6 at BX6 F36 ⊢
    have H6 := H2.under (F36.below (hX.out ▸ hbx) (Nat.le_refl _) (by simp; have := hX.out; omega))
    obtain ⟨p, hpe⟩ : ∃ p : Ch, p = (q00, cEmp cv) := ⟨_, rfl⟩
    have hp : ChOk w6 (mutE e o ca ta) p := by
      subst hpe
      refine ⟨?_, ?_⟩
      · simp only [cEmp, hcn]; exact n00_ok _ _
      · simp only [cEmp, hcn]; exact ⟨by simp, by simp, by simp⟩
    rw [← hpe] at BX6
    replace hpe := Lib.hid hpe
    clear F36 BX hlts hlx x4 f4
    have hb7 : Below w6.heap.size w6 (w6.alloc (.cells (chA p) 97)).drew := ((Below.refl _ _).alloc (Nat.le_refl _) _).drew
    have H7 := H6.under hb7
    have hp7 := hp.keep (Keeps.of_below hb7)
    have hbase : w0.heap.size ≤ (w6.alloc (.cells (chA p) 97)).drew.heap.size := H7.b.size
    have hcl46 := hbg'.1
    have hel := H6.blk.lt
    obtain ⟨g, cap, w8, A⟩ := OwnV.addLit tinChange (by decide) H7.ch (Blk.new w6 (chA p) 97).drew (raw14_mk p) (by simp; omega) (by decide) hbase
    rw [show (chL C).length = C.length from List.length_map _] at A
    have hr := Lib.hid A.run
    have H9 := H7.added A hp7 hbg'.1
    have E8 := A.fr.blk H7.blk H7.ge.2.2.2.2.1
    have e1 := H6.blk.at 1 rfl
    have x0 := BX6.at 0 rfl
    have x1 := BX6.at 1 rfl
    have x2 := BX6.at 2 rfl
    have x3 := BX6.at 3 rfl
    have x4 := BX6.at 4 rfl
    have x5 := BX6.at 5 rfl
    have x6 := BX6.at 6 rfl
    have x7 := BX6.at 7 rfl
    have x8 := BX6.at 8 rfl
    have x9 := BX6.at 9 rfl
    have x10 := BX6.at 10 rfl
    have x11 := BX6.at 11 rfl
    have x12 := BX6.at 12 rfl
    have x13 := BX6.at 13 rfl
    have s1 := E8.at 1 rfl
    have g1 := E8.free 1
    replace H9 := Lib.hid H9
    clear A E8 H7 hp7 hbase hb7
    go_region_law (refine step_append_run hr.out rfl (by rfl) (by rfl) (by rfl) ?_)
    all_goals
      go_wp2_with fail
      go_ret
      exact ⟨_, true, rfl, ⟨m, a, c, _, _, _, _, ta, tc, H9.out⟩, .inr ⟨rfl, cv, q00, hbg', hcn, by rw [hpe.out]⟩⟩
end Go.Proofs.Ytbemgfpnoeogdaa.EdP

/-
  edit: Spare: the contract.
-/
namespace Go.Proofs.Ytbemgfpnoeogdaa.EdP
open Go.RowKit RefP FoP Dp
set_option linter.unusedVariables false
set_option linter.unusedSimpArgs false
abbrev tkA (S : List Sp) (i : Nat) : Array Value := #[.int .i64 (S.getD i (0, 0)).1, .int .u64 (S.getD i (0, 0)).2]
theorem take_all {w : World} {base o m : Nat} {L : List Kn} {a : Option Addr} {c : Nat} {S : List Sp} {k0 n0 : Int} (V : VwAt w base o m L a c S k0 n0) (i : Nat) (hl : S.length ≤ 100) :
    Calls Try.prog 32 #[.pointer (some ⟨o, 0, none⟩), .int .i64 i] w fun r w' => r = .returned (.tuple #[.agg (tkA S i), .bool (decide (i < S.length))]) ∧ (∃ k n, VwAt w' base o m L a c S k n) ∧ Fr [o] w w' := by
  by_cases hi : i < S.length
  · refine (take_hit V i hi hl).mono ?_
    rintro r w' ⟨rfl, hb⟩
    refine ⟨?_, ⟨_, _, V.under hb⟩, Fr.of_below hb⟩
    rw [decide_eq_true hi, tkA, List.getD_eq_getElem?_getD, List.getElem?_eq_getElem hi]
    rfl
  · refine (take_miss V i (.inr (by omega)) hl).mono ?_
    rintro r w' ⟨rfl, V', F⟩
    refine ⟨?_, ⟨_, _, V'⟩, F⟩
    rw [decide_eq_false hi, tkA, List.getD_eq_getElem?_getD, List.getElem?_eq_none (by omega)]
    rfl
/-- what Spare answers -/
def SpAt (w0 : World) (e o : Nat) (L : List Kn) (S : List Sp) (C : List Ch) (t : Nat) (r : Ending) (w' : World) : Prop :=
  ∃ n bit, r = .returned (.tuple #[.int .i64 n, .bool bit]) ∧ EdIs w0 w' e o L S C (if t < S.length then t + 1 else t)
theorem SpAt.yes {w0 w' : World} {e o : Nat} {L : List Kn} {S : List Sp} {C : List Ch} {t : Nat} (n : Int) (h : t < S.length) (H : EdIs w0 w' e o L S C (t + 1)) : SpAt w0 e o L S C t (.returned (.tuple #[.int .i64 n, .bool true])) w' := ⟨n, true, rfl, by rw [if_pos h]; exact H⟩
theorem SpAt.no {w0 w' : World} {e o : Nat} {L : List Kn} {S : List Sp} {C : List Ch} {t : Nat} (n : Int) (h : ¬ t < S.length) (H : EdIs w0 w' e o L S C t) : SpAt w0 e o L S C t (.returned (.tuple #[.int .i64 n, .bool false])) w' := ⟨n, false, rfl, by rw [if_neg h]; exact H⟩
set_option maxRecDepth 100000 in
set_option maxHeartbeats 3200000 in
theorem espare_any {w0 w : World} {e o : Nat} {L : List Kn} {S : List Sp} {C : List Ch} {t : Nat} (E : EdIs w0 w e o L S C t) :
    Calls Try.prog 11 #[.pointer (some ⟨e, 0, none⟩)] w (SpAt w0 e o L S C t) := by
  obtain ⟨m, a, c, k0, n0, ca, cc, ta, tc, H⟩ := E.ex
  have hol := H.V.lts.1
  have hsl := H.sl
  have hel := H.blk.lt
  have hlts := H.lts
  go_enter Try.func11, Try.ntmps11
  go_wp2_with fail
  refine (nobody_some H.blk).mono ?_
  rintro r w2 ⟨rfl, rfl⟩
  go_upto_region 3 with (fail)
  go_cut [4, 5] (fun v4 v5 W => ∃ X k n, v4 = .pointer (some ⟨X, 0, none⟩) ∧ v5 = .bool (decide (t < S.length)) ∧ X ∉ mutE e o ca ta ∧ Blk W X (tkA S t) 60 ∧ EdAt w0 W e o m L a c S k n C ca cc ta tc t)
  case first =>
    refine wp_region_held_drew (S := fun w' => w'.cell? ⟨e, 0, none⟩ = some (.pointer (some ⟨o, 0, none⟩)) ∧ w'.cell? ⟨e, 2, none⟩ = some (.slice ta t tc)) (by kernel_rfl) ?_ (fun hHeld => ?_)
    · exact ⟨H.blk.drew.at 0 rfl, H.blk.drew.at 2 rfl⟩
    have hb0 : Below w2.heap.size w2 w2.drew := (Below.refl _ _).drew
    refine wpAnyH_take (i := 0) (oi := ⟨_, _, _, _, _, _⟩) (v := ?_) rfl (by kernel_rfl) (by kernel_rfl) (by kernel_rfl) (fun _ _ _ h => h) (Or.inl ⟨by rfl, ?_⟩) (by assumption) ?_
    rotate_left
    · intro wS hSw
      try dsimp only at hSw
      go_simp
      try with_reducible rfl
    try simp only [Act.put, List.setIfInBounds_toArray, List.set_cons_zero, List.set_cons_succ]
    refine wpAnyH_take (i := 1) (oi := ⟨_, _, _, _, _, _⟩) (v := ?_) rfl (by kernel_rfl) (by kernel_rfl) (by kernel_rfl) (fun _ _ _ h => h) (Or.inl ⟨by rfl, ?_⟩) (by assumption) ?_
    rotate_left
    · intro wS hSw
      try dsimp only at hSw
      go_simp
      try with_reducible rfl
    try simp only [Act.put, List.setIfInBounds_toArray, List.set_cons_zero, List.set_cons_succ]
    refine wpAnyH_take (i := 2) (oi := ⟨_, _, _, _, _, _⟩) (v := ?_) rfl (by kernel_rfl) (by kernel_rfl) (by kernel_rfl) (fun _ _ _ h => h) (Or.inl ⟨by rfl, ?_⟩) (by assumption) ?_
    rotate_left
    · intro wS hSw
      try dsimp only at hSw
      go_simp
      try with_reducible rfl
    try simp only [Act.put, List.setIfInBounds_toArray, List.set_cons_zero, List.set_cons_succ]
    refine wpAnyH_take (i := 3) (oi := ⟨_, _, _, _, _, _⟩) (v := ?_) rfl (by kernel_rfl) (by kernel_rfl) (by kernel_rfl) (fun _ _ _ h => h) (Or.inl ⟨by rfl, ?_⟩) (by assumption) ?_
    rotate_left
    · intro wS hSw
      try dsimp only at hSw
      go_simp
      try with_reducible rfl
    try simp only [Act.put, List.setIfInBounds_toArray, List.set_cons_zero, List.set_cons_succ]
    refine wpAnyH_take (i := 4) (oi := ⟨_, _, _, _, _, _⟩) (v := ?_) rfl (by kernel_rfl) (by kernel_rfl) (by kernel_rfl) (fun _ _ _ h => h) (Or.inl ⟨by rfl, ?_⟩) (by assumption) ?_
    rotate_left
    · intro wS hSw
      try dsimp only at hSw
      go_simp
      try with_reducible rfl
    try simp only [Act.put, List.setIfInBounds_toArray, List.set_cons_zero, List.set_cons_succ]
    refine wpAnyH_take (i := 5) (oi := ⟨_, _, _, _, _, _⟩) (v := ?_) rfl (by kernel_rfl) (by kernel_rfl) (by kernel_rfl) (fun _ _ _ h => h) (Or.inl ⟨by rfl, ?_⟩) (by assumption) ?_
    rotate_left
    · intro wS hSw
      try dsimp only at hSw
      go_simp
      try with_reducible rfl
    try simp only [Act.put, List.setIfInBounds_toArray, List.set_cons_zero, List.set_cons_succ]
    refine wpAnyH_take (i := 6) (oi := ⟨_, _, _, _, _, _⟩) (v := ?_) rfl (by kernel_rfl) (by kernel_rfl) (by kernel_rfl) (fun _ _ _ h => h) (Or.inl ⟨by rfl, ?_⟩) (by assumption) ?_
    rotate_left
    · intro wS hSw
      try dsimp only at hSw
      go_simp
      try with_reducible rfl
    try simp only [Act.put, List.setIfInBounds_toArray, List.set_cons_zero, List.set_cons_succ]
    refine wpAnyH_take (i := 7) (oi := ⟨_, _, _, _, _, _⟩) (v := ?_) rfl (by kernel_rfl) (by kernel_rfl) (by kernel_rfl) (fun _ _ _ h => h) (Or.inl ⟨by rfl, ?_⟩) (by assumption) ?_
    rotate_left
    · intro wS hSw
      try dsimp only at hSw
      go_simp
      try with_reducible rfl
    try simp only [Act.put, List.setIfInBounds_toArray, List.set_cons_zero, List.set_cons_succ]
    refine wpAnyH_take (i := 8) (oi := ⟨_, _, _, _, _, _⟩) (v := ?_) rfl (by kernel_rfl) (by kernel_rfl) (by kernel_rfl) (fun _ _ _ h => h) (Or.inl ⟨by rfl, ?_⟩) (by assumption) ?_
    rotate_left
    · intro wS hSw
      try dsimp only at hSw
      go_simp
      try with_reducible rfl
    try simp only [Act.put, List.setIfInBounds_toArray, List.set_cons_zero, List.set_cons_succ]
    refine wpAnyH_ready (rs := [9, 13]) (by kernel_rfl) (by simp) ?_
    refine AllReadyH.cons rfl (fun K hK => ?_) (AllReadyH.cons rfl (fun K hK => ?_) AllReadyH.nil)
    · go_simp
      refine (take_all (H.V.under hb0) t hsl).mono ?_
      rintro r w3 ⟨rfl, ⟨k1, n1, V3⟩, F3⟩
      have F23 := (Fr.of_below (S := [o]) hb0).trans F3
      have H3 := H.view F23 V3
      have hge := F23.size
      generalize decide (t < S.length) = bit at *
      refine hK.out _ _ ⟨H3.blk.at 0 rfl, H3.blk.at 2 rfl⟩ (fun hHeld => ?_)
      clear hK K
      refine wpAnyH_take (i := 10) (oi := ⟨_, _, _, _, _, _⟩) (v := ?_) rfl (by kernel_rfl) (by kernel_rfl) (by kernel_rfl) (fun _ _ _ h => h) (Or.inl ⟨by rfl, ?_⟩) (by assumption) ?_
      rotate_left
      · intro wS hSw
        try dsimp only at hSw
        go_simp
        try with_reducible rfl
      try simp only [Act.put, List.setIfInBounds_toArray, List.set_cons_zero, List.set_cons_succ]
      refine wpAnyH_take (i := 11) (oi := ⟨_, _, _, _, _, _⟩) (v := ?_) rfl (by kernel_rfl) (by kernel_rfl) (by kernel_rfl) (fun _ _ _ h => h) (Or.inl ⟨by rfl, ?_⟩) (by assumption) ?_
      rotate_left
      · intro wS hSw
        try dsimp only at hSw
        go_simp
        try with_reducible rfl
      try simp only [Act.put, List.setIfInBounds_toArray, List.set_cons_zero, List.set_cons_succ]
      refine wpAnyH_take (i := 12) (oi := ⟨_, _, _, _, _, _⟩) (v := ?_) rfl (by kernel_rfl) (by kernel_rfl) (by kernel_rfl) (fun _ _ _ h => h) (Or.inl ⟨by rfl, ?_⟩) (by assumption) ?_
      rotate_left
      · intro wS hSw
        try dsimp only at hSw
        go_simp
        try with_reducible rfl
      try simp only [Act.put, List.setIfInBounds_toArray, List.set_cons_zero, List.set_cons_succ]
      refine wpAnyH_ready (rs := [13]) (by kernel_rfl) (by simp) ?_
      refine AllReadyH.cons rfl (fun K hK => ?_) AllReadyH.nil
      go_simp
      have hbx : Below w3.heap.size w3 (w3.alloc (.cells sz 60)) := by (repeat (first | exact Below.refl _ _ | assumption | refine below_alloc2 ?_ (by first | exact Nat.le_refl _ | omega) _ | refine Below.drew ?_ | refine below_drewN ?_ _ | refine below_push2 ?_ ‹_› (by first | exact Nat.le_refl _ | omega) | refine Below.setCell ?_ (by first | (simp; done) | (simp; omega) | omega) _))
      have BX := Blk.new w3 sz 60
      have V4 := V3.under hbx
      have F24 := F23.trans (Fr.of_below hbx)
      have H4 := H.view F24 V4
      refine hK.out _ _ ⟨H4.blk.at 0 rfl, H4.blk.at 2 rfl⟩ (fun hHeld => ?_)
      clear hK K
      refine wpAnyH_ready (rs := [14]) (by kernel_rfl) (by simp) ?_
      refine AllReadyH.cons rfl (fun K hK => ?_) AllReadyH.nil
      rw [if_pos (by rfl)]
      refine wp_store_row 60 _ _ rfl (w3.heap.size) _ rfl rfl 60 _ (BX).h (by kernel_rfl) (by rfl) (by kernel_rfl) ?_
      have BXf := Blk.row BX (tkA S t)
      have Hf := H.view (F24.rowNew (w3.heap.size) (tkA S t) (hge)) (H.V.row V4 (w3.heap.size) (tkA S t) (hge))
      refine hK.out _ _ ⟨Hf.blk.at 0 rfl, Hf.blk.at 2 rfl⟩ (fun hHeld => ?_)
      clear hK K
      refine wpAnyH_take (i := 15) (oi := ⟨_, _, _, _, _, _⟩) (v := ?_) rfl (by kernel_rfl) (by kernel_rfl) (by kernel_rfl) (fun _ _ _ h => h) (Or.inl ⟨by rfl, ?_⟩) (by assumption) ?_
      rotate_left
      · intro wS hSw
        try dsimp only at hSw
        go_simp
        try with_reducible rfl
      try simp only [Act.put, List.setIfInBounds_toArray, List.set_cons_zero, List.set_cons_succ]
      refine wpAnyH_done (by kernel_rfl) ?_ _
      go_wp2_with fail
      go_meet
      exact ⟨_, _, _, rfl, rfl, fun h => absurd (hlts _ h) (Nat.not_lt.2 (hge)), BXf, Hf⟩
    · go_simp
      have hbx : Below w2.heap.size w2 (w2.alloc (.cells sz 60)).drew := ((Below.refl _ _).alloc (Nat.le_refl _) _).drew
      have BX := (Blk.new w2 sz 60).drew
      have V3 := H.V.under hbx
      have F23 := Fr.of_below (S := [o]) hbx
      have H3 := H.view F23 V3
      have hlx := BX.lt
      refine hK.out _ _ ⟨H3.blk.at 0 rfl, H3.blk.at 2 rfl⟩ (fun hHeld => ?_)
      clear hK K
      generalize (w2.alloc (.cells sz 60)).drew = w3 at hbx BX V3 F23 H3 hlx ⊢
      refine wpAnyH_ready (rs := [9]) (by kernel_rfl) (by simp) ?_
      refine AllReadyH.cons rfl (fun K hK => ?_) AllReadyH.nil
      go_simp
      refine (take_all V3 t hsl).mono ?_
      rintro r w4 ⟨rfl, ⟨k1, n1, V4⟩, F4⟩
      have F24 := F23.trans F4
      have H4 := H.view F24 V4
      have BX4 := F4.blk BX (by simp; omega)
      generalize decide (t < S.length) = bit at *
      refine hK.out _ _ ⟨H4.blk.at 0 rfl, H4.blk.at 2 rfl⟩ (fun hHeld => ?_)
      clear hK K
      refine wpAnyH_take (i := 10) (oi := ⟨_, _, _, _, _, _⟩) (v := ?_) rfl (by kernel_rfl) (by kernel_rfl) (by kernel_rfl) (fun _ _ _ h => h) (Or.inl ⟨by rfl, ?_⟩) (by assumption) ?_
      rotate_left
      · intro wS hSw
        try dsimp only at hSw
        go_simp
        try with_reducible rfl
      try simp only [Act.put, List.setIfInBounds_toArray, List.set_cons_zero, List.set_cons_succ]
      refine wpAnyH_take (i := 11) (oi := ⟨_, _, _, _, _, _⟩) (v := ?_) rfl (by kernel_rfl) (by kernel_rfl) (by kernel_rfl) (fun _ _ _ h => h) (Or.inl ⟨by rfl, ?_⟩) (by assumption) ?_
      rotate_left
      · intro wS hSw
        try dsimp only at hSw
        go_simp
        try with_reducible rfl
      try simp only [Act.put, List.setIfInBounds_toArray, List.set_cons_zero, List.set_cons_succ]
      refine wpAnyH_take (i := 12) (oi := ⟨_, _, _, _, _, _⟩) (v := ?_) rfl (by kernel_rfl) (by kernel_rfl) (by kernel_rfl) (fun _ _ _ h => h) (Or.inl ⟨by rfl, ?_⟩) (by assumption) ?_
      rotate_left
      · intro wS hSw
        try dsimp only at hSw
        go_simp
        try with_reducible rfl
      try simp only [Act.put, List.setIfInBounds_toArray, List.set_cons_zero, List.set_cons_succ]
      refine wpAnyH_ready (rs := [14]) (by kernel_rfl) (by simp) ?_
      refine AllReadyH.cons rfl (fun K hK => ?_) AllReadyH.nil
      rw [if_pos (by rfl)]
      refine wp_store_row 60 _ _ rfl (w2.heap.size) _ rfl rfl 60 _ (BX4).h (by kernel_rfl) (by rfl) (by kernel_rfl) ?_
      have BXf := Blk.row BX4 (tkA S t)
      have Hf := H.view (F24.rowNew (w2.heap.size) (tkA S t) (Nat.le_refl _)) (H.V.row V4 (w2.heap.size) (tkA S t) (Nat.le_refl _))
      refine hK.out _ _ ⟨Hf.blk.at 0 rfl, Hf.blk.at 2 rfl⟩ (fun hHeld => ?_)
      clear hK K
      refine wpAnyH_take (i := 15) (oi := ⟨_, _, _, _, _, _⟩) (v := ?_) rfl (by kernel_rfl) (by kernel_rfl) (by kernel_rfl) (fun _ _ _ h => h) (Or.inl ⟨by rfl, ?_⟩) (by assumption) ?_
      rotate_left
      · intro wS hSw
        try dsimp only at hSw
        go_simp
        try with_reducible rfl
      try simp only [Act.put, List.setIfInBounds_toArray, List.set_cons_zero, List.set_cons_succ]
      refine wpAnyH_done (by kernel_rfl) ?_ _
      go_wp2_with fail
      go_meet
      exact ⟨_, _, _, rfl, rfl, fun h => absurd (hlts _ h) (Nat.not_lt.2 (Nat.le_refl _)), BXf, Hf⟩
  case rest =>
    obtain ⟨X, k, n, rfl, rfl, hXm, BX, H3⟩ := hcut
    by_cases hts : t < S.length
    · rw [decide_eq_true hts] at *
      obtain ⟨s, hs⟩ : ∃ s, s = S[t] := ⟨_, rfl⟩
      have hbs : tkA S t = #[.int .i64 s.1, .int .u64 s.2] := by
        rw [tkA, List.getD_eq_getElem?_getD, List.getElem?_eq_getElem hts, hs]; rfl
      rw [hbs] at BX
      have hsi := H3.si s (by rw [hs]; exact List.getElem_mem hts)
      have hb7 : Below wc.heap.size wc (wc.alloc (.cells #[.int .i64 s.1, .int .u64 s.2] 60)).drew := ((Below.refl _ _).alloc (Nat.le_refl _) _).drew
      have H7 := H3.under hb7
      have hbase : w0.heap.size ≤ (wc.alloc (.cells #[.int .i64 s.1, .int .u64 s.2] 60)).drew.heap.size := H7.b.size
      have htl : (S.take t).length = t := by rw [List.length_take]; omega
      obtain ⟨g, cap, w8, A⟩ := OwnV.addLit tinSpare (by decide) H7.tk (Blk.new wc #[.int .i64 s.1, .int .u64 s.2] 60).drew (x := s) (show spC.rep _ _ (spL s) s from spC_mk hsi.1 hsi.2) (by omega) (by decide) hbase
      have hr := A.run
      rw [htl] at hr
      replace hr := Lib.hid hr
      have H9 := H7.took hts (by rw [← hs]; exact A)
      have E8 := A.fr.blk H7.blk H7.ge.2.2.2.2.2
      simp only [List.mem_cons, List.mem_append, not_or] at hXm
      have B9 := Blk.far (A.fr.blk (BX.below hb7) hXm.2.2.2) ⟨e, 2, none⟩ (.slice (some ⟨g, 0, none⟩) (t + 1) cap) hXm.1
      have y0 := B9.at 0 rfl
      have e2 := H3.blk.at 2 rfl
      have x0 := BX.at 0 rfl
      have x1 := BX.at 1 rfl
      have s1 := E8.at 2 rfl
      have g1 := E8.free 2
      have hel' := H3.blk.lt
      have hxl := BX.lt
      replace H9 := Lib.hid H9
      replace hs := Lib.hid hs
      clear A E8 H7 hbase hb7 hbs B9
      apply_assumption
      go_upto_region 6 with (fail)
      go_region_law (refine step_append_run hr.out rfl (by rfl) (by rfl) (by rfl) ?_)
      all_goals
        go_wp2_with fail
        refine bodyPost_ret (results_tmp2 rfl _ _ _) rfl ?_
        exact SpAt.yes _ hts ⟨m, a, c, _, _, ca, cc, _, _, H9.out⟩
    · rw [decide_eq_false hts] at *
      apply_assumption
      go_wp2_with fail
      refine bodyPost_ret (results_tmp2 rfl _ _ _) rfl ?_
      exact SpAt.no _ hts ⟨m, a, c, _, _, ca, cc, ta, tc, H3⟩
end Go.Proofs.Ytbemgfpnoeogdaa.EdP

/-
  'copy' into a whole new row of elements of several cells; what such a row is; reslices of rows in depth. No program in sight.
-/
namespace Go.Proofs.Ytbemgfpnoeogdaa.Dp
open Go.RowKit RefP FoP
set_option linter.unusedVariables false
set_option linter.unusedSimpArgs false
theorem run_copyK {P : Program} (w : World) (dT sT ty elem : TypeId) (k g n dCap : Nat) (a : Addr) (sLen sCap : Nat) (cur : Array Value) (t : TypeId) (cs : List Value)
    (hu : P.underlying dT = some (.slice elem)) (hs : (P.info? elem).map (·.size) = some k) (hg : w.heap[g]? = some (.cells cur t (0, 0))) (hn : n ≤ sLen) (hcs : cs.length = n * k)
    (hsrc : ∀ j v, cs[j]? = some v → w.cell? (a.add j) = some v) (hfit : cur.size = n * k) (h1 : ∀ v ∈ cs, v.oneCell' = true) :
    (Builtin.copy_ #[dT, sT] ty #[.slice (some ⟨g, 0, none⟩) n dCap, .slice (some a) sLen sCap]).run P w = .ok (goInt n) (w.setRow g cs.toArray) := by
  have hl := run_loadCells_list (P := P) w a cs hsrc
  have hst := run_storeCells_at P g 0 t cs 0 cur w hg (by simp; omega) h1
  have hd : cur.toList.drop (0 + 0 + cs.length) = [] := List.drop_eq_nil_of_le (by simp; omega)
  rw [hd] at hst
  simp only [Nat.add_zero, List.take_zero, List.nil_append, List.append_nil] at hst
  have hm : Nat.min sLen n = n := Nat.min_eq_right hn
  cases hq : P.info? elem with
  | none => simp [hq] at hs
  | some i =>
    have hi : i.size = k := by simpa [hq] using hs
    rw [hcs] at hl
    simp [Builtin.copy_, run_underlying hu, Builtin.lenOf, Builtin.firstCells, sizeOf, typeInfo, hq, hi, hm, hl, hst]
theorem run_copyK_zero {P : Program} (w : World) (dT sT ty elem : TypeId) (d a : Option Addr) (k dCap sLen sCap : Nat) (hu : P.underlying dT = some (.slice elem)) (hs : (P.info? elem).map (·.size) = some k) :
    (Builtin.copy_ #[dT, sT] ty #[.slice d 0 dCap, .slice a sLen sCap]).run P w = .ok (goInt 0) w := by
  cases hq : P.info? elem with
  | none => simp [hq] at hs
  | some i =>
    have hl : ∀ (x : Addr), (loadCells x 0).run P w = .ok #[] w := fun x => by simpa using run_loadCells_list (P := P) w x [] (by simp)
    have hm : Nat.min sLen 0 = 0 := Nat.min_zero _
    cases d <;> cases a <;> simp [Builtin.copy_, run_underlying hu, Builtin.lenOf, Builtin.firstCells, sizeOf, typeInfo, hq, hm, storeCells, hl]
variable {α : Type} {C : Cod α}
/-- the row is a row of some plain things -/
theorem hrow_blk {w : World} {S : List Nat} {b c : Nat} {raws : List (List Value)} {T : TypeId} {xs : List α} (B : Blk w b (recA C.k rawF [] raws) T) (hk : 0 < C.k) (hl : raws.length = xs.length) (hx : ∀ i x, xs[i]? = some x → C.rep w S (raws.getD i []) x) (hS : b ∉ S) (hc : xs.length ≤ c) (hm : c ≤ maxLen) : HRow C w S ⟨some ⟨b, 0, none⟩, c⟩ xs := by
  refine ⟨hc, hm, fun h0 => ⟨b, 0, rfl, B.lt, hS, fun i x hi => ?_⟩⟩
  have hix : i < xs.length := (List.getElem?_eq_some_iff.1 hi).1
  have hrep := hx i x hi
  refine ⟨_, hrep, fun j v hj => ?_⟩
  have hj' : j < C.k := by rw [← C.len hrep]; exact (List.getElem?_eq_some_iff.1 hj).1
  have := rec_blk B i j (by omega) hj'
  rw [rawF_at hj (C.one hrep)] at this
  rw [Nat.zero_add]
  exact this
/-- what lies in a row that was copied whole -/
structure CopiedK (C : Cod α) (w w' : World) (S : List Nat) (g : Nat) (t : TypeId) (n : Nat) (xs : List α) : Prop where
  row : ∃ raws : List (List Value), raws.length = xs.length ∧ Blk w' g (recA C.k rawF [] raws) t ∧ ∀ i x, xs[i]? = some x → C.rep w S (raws.getD i []) x
  fr : Fr [g] w w'
theorem run_copy_hrow {P : Program} {w : World} {S : List Nat} (dT sT elem : TypeId) (hk : 0 < C.k) (hu : P.underlying dT = some (.slice elem)) (hs : (P.info? elem).map (·.size) = some C.k) {q : Hd} {xs : List α} (H : HRow C w S q xs) (n : Nat) (hn : n ≤ xs.length) {g dCap : Nat} {cur : Array Value} {t : TypeId} (B : Blk w g cur t) (hcur : cur.size = n * C.k) :
    ∃ w', (∀ ty, (Builtin.copy_ #[dT, sT] ty #[.slice (some ⟨g, 0, none⟩) n dCap, .slice q.a xs.length q.c]).run P w = .ok (goInt n) w') ∧ CopiedK C w w' S g t n (xs.take n) := by
  by_cases h0 : n = 0
  · subst h0
    refine ⟨w, fun ty => run_copyK_zero w dT sT ty elem _ _ C.k dCap xs.length q.c hu hs, ⟨⟨[], by simp, ?_, by simp⟩, Fr.refl _ _⟩⟩
    have e : cur = recA C.k rawF [] [] := by
      have : cur = #[] := Array.eq_empty_of_size_eq_zero (by omega)
      rw [this]; exact (Array.eq_empty_of_size_eq_zero (by rw [recA_size]; simp)).symm
    rw [← e]; exact B
  · obtain ⟨raws, hl, hr, hx⟩ := H.raws hk
    obtain ⟨b, off, ha, hb, hc⟩ := hr.row.get (by rw [hl]; have := Nat.mul_pos (show 0 < xs.length by omega) hk; omega)
    have hlt : (raws.take n).length = n := by rw [List.length_take]; omega
    have hmul : n * C.k ≤ xs.length * C.k := Nat.mul_le_mul_right _ hn
    have hsz : (recA C.k rawF [] (raws.take n)).size = n * C.k := by rw [recA_size, hlt]
    have hat : ∀ m, m < n * C.k → (recA C.k rawF [] (raws.take n))[m]? = some (recF C.k rawF [] raws m) := fun m hm => by
      rw [recA_flat _ _ _ _ _ (by rw [hlt]; exact hm)]
      have := rec_div hm
      simp [recF, List.getD_eq_getElem?_getD, List.getElem?_take, this]
    refine ⟨w.setRow g (recA C.k rawF [] (raws.take n)), fun ty => ?_, ⟨⟨raws.take n, by rw [hlt, List.length_take]; omega, Blk.row B _, fun i x hi => ?_⟩, Fr.row g _ (by simp)⟩⟩
    · rw [ha]
      have := run_copyK (P := P) w dT sT ty elem C.k g n dCap ⟨b, off, none⟩ xs.length q.c cur t (recA C.k rawF [] (raws.take n)).toList hu hs B.h hn (by simpa using hsz) (fun j v hj => ?_) hcur (fun v hv => ?_)
      · simpa using this
      · have hj' : j < n * C.k := by rw [← hsz]; simpa using (List.getElem?_eq_some_iff.1 hj).1
        rw [Array.getElem?_toList, hat j hj'] at hj
        cases hj
        rw [add_plain']
        exact hc j (by rw [hl]; omega)
      · obtain ⟨j, hj, rfl⟩ := List.getElem_of_mem hv
        have hj' : j < n * C.k := by rw [← hsz]; simpa using hj
        have e := hat j hj'
        rw [Array.getElem?_eq_getElem (by omega)] at e
        simp only [Option.some.injEq] at e
        rw [Array.getElem_toList, e]
        exact rawF_one _ _
    · rw [List.getElem?_take] at hi
      split at hi
      · rename_i hin
        have := hx i x hi
        rw [List.getD_eq_getElem?_getD] at this ⊢
        rw [List.getElem?_take, if_pos hin]
        exact this
      · cases hi
/-- at a builtin copy: by its run's equation -/
theorem wpList_copy_eq {P : Program} {w : World} {ops : Array Oper} {rest : List Oper} {o : Oper} {a : Act} {Q : Exit → Act → World → Prop} {s x : Operand} {t t' : TypeId} {v v' r : Value} {w' : World}
    (hrun : ∀ ty, (Builtin.copy_ #[t, t'] ty #[v, v']).run P w = .ok r w') (hgd : o.guard = none)
    (ho : o.op = .call { callee := .builtin .copy, args := #[s, x], argTypes := #[t, t'] }) (hs : a.eval s = v) (hx : a.eval x = v')
    (h : wpList P ops Q rest (a.put o.dst r) w') : wpList P ops Q (o :: rest) a w := by
  refine wpList_plain hgd fun K hK => ?_
  unfold Oper.wp
  simp [execOp, ho, resolve, invoke, builtin, hs, hx, hrun, Result.andThen]
  exact hK _ _ h
/-- the rest of a row behind some -/
theorem hrow_drop {w : World} {S : List Nat} {b off c : Nat} {l : List α} (h : HRow C w S ⟨some ⟨b, off, none⟩, c⟩ l) (k : Nat) (hk : k ≤ l.length) : HRow C w S ⟨some ⟨b, off + k * C.k, none⟩, c - k⟩ (l.drop k) := by
  have hle := h.le
  have hcap := h.cap
  simp only at hle hcap
  refine ⟨by simp only [List.length_drop]; omega, by show c - k ≤ maxLen; omega, fun ht => ?_⟩
  rw [List.length_drop] at ht
  obtain ⟨b', off', ha, hb, hn, hc⟩ := h.row (by omega)
  simp only [Option.some.injEq, Addr.mk.injEq, and_true] at ha
  obtain ⟨rfl, rfl⟩ := ha
  refine ⟨b, off + k * C.k, rfl, hb, hn, fun i x hx => ?_⟩
  rw [List.getElem?_drop] at hx
  obtain ⟨cs, hr, hv⟩ := hc (k + i) x hx
  refine ⟨cs, hr, fun j v hj => ?_⟩
  have := hv j v hj
  rw [show off + k * C.k + i * C.k + j = off + (k + i) * C.k + j by rw [Nat.add_mul]; omega]
  exact this
theorem hrow_none {w : World} {S : List Nat} {q : Hd} {l : List α} (h : HRow C w S q l) (k : Nat) (hk : l.length ≤ k) (a : Option Addr) (c : Nat) (hc : c ≤ maxLen) : HRow C w S ⟨a, c⟩ (l.drop k) := by
  rw [List.drop_eq_nil_of_le hk]
  exact ⟨Nat.zero_le _, hc, RowRep.nil _ _ _ _⟩
theorem made_size (z : Array Value) (n : Nat) : (madeCells z n).size = n := size_madeCells z n
end Go.Proofs.Ytbemgfpnoeogdaa.Dp

/-
  Rows of elements of several cells in a block known whole: copied, read, and a part of an element written. No program in sight.
-/
namespace Go.Proofs.Ytbemgfpnoeogdaa.EdP
open Go.RowKit RefP FoP Dp
set_option linter.unusedVariables false
set_option linter.unusedSimpArgs false
theorem setsE_size : ∀ (vs : List Value) (cs : Array Value) (o : Nat), (setsE cs o vs).size = cs.size
  | [], _, _ => rfl
  | v :: r, cs, o => by rw [setsE, setsE_size r]; simp
theorem setsE_out : ∀ (vs : List Value) (cs : Array Value) (o m : Nat), (m < o ∨ o + vs.length ≤ m) → (setsE cs o vs)[m]? = cs[m]?
  | [], _, _, _, _ => rfl
  | v :: r, cs, o, m, h => by
    rw [setsE, setsE_out r _ _ _ (by simp only [List.length_cons] at h; omega), Array.getElem?_setIfInBounds_ne (by simp only [List.length_cons] at h; omega)]
theorem setsE_in : ∀ (vs : List Value) (cs : Array Value) (o j : Nat) (v : Value), vs[j]? = some v → o + vs.length ≤ cs.size → (setsE cs o vs)[o + j]? = some v
  | [], _, _, _, _, h, _ => by simp at h
  | u :: r, cs, o, 0, v, h, hs => by
    simp at h
    subst h
    rw [setsE, setsE_out r _ _ _ (by omega), Nat.add_zero, Array.getElem?_setIfInBounds_self_of_lt (by simp only [List.length_cons] at hs; omega)]
  | u :: r, cs, o, j + 1, v, h, hs => by
    have e : o + (j + 1) = o + 1 + j := by omega
    rw [setsE, e]
    exact setsE_in r _ (o + 1) j v (by simpa using h) (by simp only [List.length_cons] at hs; simp; omega)
/-- the rows of a block -/
structure RB (k : Nat) (w : World) (g : Nat) (T : TypeId) (rows : List (List Value)) : Prop where
  blk : ∃ arr, Blk w g arr T ∧ arr.size = rows.length * k ∧ ∀ i (hi : i < rows.length) j v, rows[i][j]? = some v → arr[i * k + j]? = some v
  ok : ∀ r ∈ rows, r.length = k ∧ ∀ v ∈ r, v.oneCell' = true
section
variable {k : Nat} {w w' : World} {g : Nat} {T : TypeId} {rows : List (List Value)}
theorem RB.lt (R : RB k w g T rows) : g < w.heap.size := by
  obtain ⟨_, B, _⟩ := R.blk
  exact B.lt
theorem RB.below (R : RB k w g T rows) (hb : Below w.heap.size w w') : RB k w' g T rows := by
  obtain ⟨arr, B, h⟩ := R.blk
  exact ⟨⟨arr, B.below hb, h⟩, R.ok⟩
theorem RB.fr (R : RB k w g T rows) {S : List Nat} (F : Fr S w w') (h : g ∉ S) : RB k w' g T rows := by
  obtain ⟨arr, B, h'⟩ := R.blk
  exact ⟨⟨arr, F.blk B h, h'⟩, R.ok⟩
theorem RB.range (R : RB k w g T rows) (i : Nat) (hi : i < rows.length) : w.rangeAt g (i * k) rows[i] := fun j v hv => by
  obtain ⟨arr, B, _, h⟩ := R.blk
  exact B.at _ (h i hi j v hv)
theorem RB.there (R : RB k w g T rows) (i j n : Nat) (hi : i < rows.length) (hj : j + n ≤ k) : w.there g (i * k + j) n := by
  obtain ⟨arr, B, hs, h⟩ := R.blk
  refine there_blkE B ?_
  have : (i + 1) * k ≤ rows.length * k := Nat.mul_le_mul_right _ hi
  rw [Nat.add_mul] at this
  omega
theorem RB.hrow (R : RB k w g T rows) (c : Nat) (hc : rows.length ≤ c) (hm : c ≤ maxLen) (S : List Nat) (hS : g ∉ S) : HRow (rawC k) w S ⟨some ⟨g, 0, none⟩, c⟩ rows := by
  refine ⟨hc, hm, fun h0 => ⟨g, 0, rfl, R.lt, hS, fun i x hi => ?_⟩⟩
  have hil : i < rows.length := (List.getElem?_eq_some_iff.1 hi).1
  have hx : rows[i] = x := (List.getElem?_eq_some_iff.1 hi).2
  have ho := R.ok x (hx ▸ List.getElem_mem hil)
  refine ⟨x, ⟨rfl, ho⟩, fun j v hj => ?_⟩
  rw [Nat.zero_add]
  exact R.range i hil j v (hx ▸ hj)
theorem RB.set (R : RB k w g T rows) (i j0 : Nat) (vs r' : List Value) (hi : i < rows.length) (hj : j0 + vs.length ≤ k) (hr : r'.length = k) (h1 : ∀ v ∈ r', v.oneCell' = true)
    (hin : ∀ j, j < vs.length → r'[j0 + j]? = vs[j]?) (hout : ∀ j, (j < j0 ∨ j0 + vs.length ≤ j) → r'[j]? = rows[i][j]?) : RB k (w.setCells g (i * k + j0) vs) g T (rows.set i r') := by
  obtain ⟨arr, B, hs, h⟩ := R.blk
  have hle : (i + 1) * k ≤ rows.length * k := Nat.mul_le_mul_right _ hi
  rw [Nat.add_mul] at hle
  refine ⟨⟨setsE arr (i * k + j0) vs, blk_setsE vs _ _ _ B, by rw [setsE_size, hs, List.length_set], fun i' hi' j v hv => ?_⟩, fun r hr' => ?_⟩
  · rw [List.length_set] at hi'
    by_cases e : i = i'
    · subst e
      rw [List.getElem_set_self] at hv
      by_cases hjj : j0 ≤ j ∧ j < j0 + vs.length
      · have := hin (j - j0) (by omega)
        rw [show j0 + (j - j0) = j by omega, hv] at this
        have := setsE_in vs arr (i * k + j0) (j - j0) v this.symm (by omega)
        rw [show i * k + j0 + (j - j0) = i * k + j by omega] at this
        exact this
      · rw [setsE_out _ _ _ _ (by omega)]
        rw [hout j (by omega)] at hv
        exact h i hi j v hv
    · rw [List.getElem_set_ne e] at hv
      have hjk : j < k := by
        have := (R.ok _ (List.getElem_mem hi')).1
        have := (List.getElem?_eq_some_iff.1 hv).1
        omega
      rw [setsE_out _ _ _ _ ?_]
      · exact h i' hi' j v hv
      · have h2 : (i' + 1) * k ≤ i * k ∨ (i + 1) * k ≤ i' * k := by
          rcases Nat.lt_or_gt_of_ne e with q | q
          · exact .inr (Nat.mul_le_mul_right _ q)
          · exact .inl (Nat.mul_le_mul_right _ q)
        rw [Nat.add_mul, Nat.add_mul] at h2
        omega
  · rcases List.mem_or_eq_of_mem_set hr' with q | q
    · exact R.ok r q
    · subst q; exact ⟨hr, h1⟩
end
theorem RB.of_copy {k : Nat} {w w' : World} {S : List Nat} {g : Nat} {t : TypeId} {n : Nat} {xs : List (List Value)} (CK : CopiedK (rawC k) w w' S g t n xs) : RB k w' g t xs := by
  obtain ⟨raws, hl, B, hx⟩ := CK.row
  have hrx : ∀ i (hi : i < xs.length), raws.getD i [] = xs[i] ∧ xs[i].length = k ∧ ∀ v ∈ xs[i], v.oneCell' = true := fun i hi => hx i _ (List.getElem?_eq_getElem hi)
  refine ⟨⟨_, B, ?_, fun i hi j v hv => ?_⟩, fun r hr => ?_⟩
  · rw [recA_size, hl]; rfl
  · obtain ⟨h1, h2, h3⟩ := hrx i hi
    have hj : j < k := by rw [← h2]; exact (List.getElem?_eq_some_iff.1 hv).1
    have := recA_at (k := k) rawF [] raws i j (by omega) hj
    rw [h1, rawF_at hv h3] at this
    exact this
  · obtain ⟨i, hi, rfl⟩ := List.getElem_of_mem hr
    exact (hrx i hi).2
end Go.Proofs.Ytbemgfpnoeogdaa.EdP

/-
  edit: Changes: the contract.
-/
namespace Go.Proofs.Ytbemgfpnoeogdaa.EdP
open Go.RowKit RefP FoP Dp
set_option linter.unusedVariables false
set_option linter.unusedSimpArgs false
theorem mk_changes (n : Nat) (hn : n ≤ 60000) (w : World) : (Instr.makeSlice 33 (.int .i64 (n : Int)) (.int .i64 (n : Int))).run Try.prog w = .ok (.slice (some ⟨w.heap.size, 0, none⟩) n n) (w.alloc (.cells (madeCells chz (n * 14)) 97)) := by
  obtain ⟨i0, hi, hz0, hz1, hz2⟩ := info_parts' infoChange
  have hb' : (i0.bytes : Int) * (n : Int) ≤ 281474976710656 := by rw [hz2]; omega
  have hr := run_make (P := Try.prog) w 33 97 i0 _ Try.underlying33 hi hz0 .i64 .i64 n n (by omega) (by omega) hb' (by omega)
  simp only [Int.toNat_natCast, hz1] at hr
  rw [hr]
  simp [Value.cells]
theorem lt14 {r : Nat} (h : r < 14) : r = 0 ∨ r = 1 ∨ r = 2 ∨ r = 3 ∨ r = 4 ∨ r = 5 ∨ r = 6 ∨ r = 7 ∨ r = 8 ∨ r = 9 ∨ r = 10 ∨ r = 11 ∨ r = 12 ∨ r = 13 := by omega
/-- the node's cells of an element of a row of changes -/
theorem rb_node {w : World} {g : Nat} {T : TypeId} {C : List Ch} (R : RB 14 w g T (chL C)) (k : Nat) (hk : k < C.length) : w.rangeAt g (k * 14 + 6) (nodeA C[k].1 C[k].2.node).toList := fun j v hv => by
  have hj : j < 8 := (List.getElem?_eq_some_iff.1 hv).1
  have h := R.range k (by simpa using hk)
  have e : (chL C)[k]'(by simpa using hk) = (chA C[k]).toList := by simp
  rw [e] at h
  have := h (6 + j) v (by
    have e' : j = 0 ∨ j = 1 ∨ j = 2 ∨ j = 3 ∨ j = 4 ∨ j = 5 ∨ j = 6 ∨ j = 7 := by omega
    rcases e' with e | e | e | e | e | e | e | e <;> subst e <;> exact hv)
  rw [← Nat.add_assoc] at this
  exact this
/-- .. written -/
theorem rb_setNode {w : World} {g : Nat} {T : TypeId} {C : List Ch} (R : RB 14 w g T (chL C)) (k : Nat) (hk : k < C.length) (q : NodeH) : RB 14 (w.setCells g (k * 14 + 6) (nodeA q C[k].2.node).toList) g T (chL (C.set k (q, C[k].2))) := by
  have := R.set k 6 (nodeA q C[k].2.node).toList (chA (q, C[k].2)).toList (by simpa using hk) (by simp) rfl (raw14_mk (w := w) (S := []) (q, C[k].2)).2.2 (fun j hj => by
    have e' : j = 0 ∨ j = 1 ∨ j = 2 ∨ j = 3 ∨ j = 4 ∨ j = 5 ∨ j = 6 ∨ j = 7 := by simp at hj; omega
    rcases e' with e | e | e | e | e | e | e | e <;> subst e <;> rfl) (fun j hj => by
    have e : (chL C)[k]'(by simpa using hk) = (chA C[k]).toList := by simp
    rw [e]
    by_cases h14 : j < 14
    · have hj' : j < 6 := by simp at hj; omega
      have e' : j = 0 ∨ j = 1 ∨ j = 2 ∨ j = 3 ∨ j = 4 ∨ j = 5 := by omega
      rcases e' with e | e | e | e | e | e <;> subst e <;> rfl
    · rw [List.getElem?_eq_none (by simp; omega), List.getElem?_eq_none (by simp; omega)])
  rw [show chL (C.set k (q, C[k].2)) = (chL C).set k (chA (q, C[k].2)).toList by simp [chL, List.map_set]]
  exact this
/-- in the loop over a copy of the changes -/
structure CL (w wr : World) (g : Nat) (C Ck : List Ch) : Prop where
  b : Below w.heap.size w wr
  row : RB 14 wr g 97 (chL Ck)
  eq : Ck.map (·.2) = C.map (·.2)
  ok : ∀ p ∈ Ck, ChOk wr [g] p
  ge : w.heap.size ≤ g
set_option maxRecDepth 100000 in
set_option maxHeartbeats 3200000 in
theorem changes_any {w0 w : World} {e o : Nat} {L : List Kn} {S : List Sp} {C : List Ch} {t : Nat} (E : EdIs w0 w e o L S C t) :
    Calls Try.prog 14 #[.pointer (some ⟨e, 0, none⟩)] w fun r w' => ∃ g C', r = .returned (.slice (some ⟨g, 0, none⟩) C.length C.length) ∧ CL w w' g C C' := by
  obtain ⟨m, a, c, k0, n0, ca, cc, ta, tc, H⟩ := E.ex
  have hcl := H.cl
  have hmk := mk_changes C.length (by omega)
  have e1 := H.blk.at 1 rfl
  go_enter Try.func14, Try.ntmps14
  go_wp2_with fail
  refine (nobody_some H.blk).mono ?_
  rintro r w2 ⟨rfl, rfl⟩
  go_upto_region 4 with (fail)
  have hbA : Below w2.heap.size w2 (w2.alloc (.cells (madeCells chz (C.length * 14)) 97)) := by (repeat (first | exact Below.refl _ _ | assumption | refine below_alloc2 ?_ (by first | exact Nat.le_refl _ | omega) _ | refine Below.drew ?_ | refine below_drewN ?_ _ | refine below_push2 ?_ ‹_› (by first | exact Nat.le_refl _ | omega) | refine Below.setCell ?_ (by first | (simp; done) | (simp; omega) | omega) _))
  have BP := Blk.new w2 (madeCells chz (C.length * 14)) 97
  have H1 := H.under hbA
  have hlts := H.lts
  have HR := (H.row.more (S' := [w2.heap.size]) (by simp)).keep (Keeps.of_below hbA)
  obtain ⟨g, hg⟩ : ∃ b, b = w2.heap.size := ⟨_, rfl⟩
  rw [← hg] at BP HR ⊢
  replace hg := Lib.hid hg
  generalize w2.alloc (.cells (madeCells chz (C.length * 14)) 97) = w1 at hbA BP H1 HR ⊢
  have hll : (chL C).length = C.length := List.length_map _
  obtain ⟨w3, hrc, CK⟩ := run_copy_hrow (P := Try.prog) (dCap := C.length) 33 33 97 (by decide) Try.underlying33 (show _ = some 14 by kernel_rfl) HR C.length (by omega) BP (made_size _ _)
  rw [List.take_of_length_le (by omega)] at CK
  rw [hll] at hrc
  have hb3 : Below w2.heap.size w2 w3 := CK.fr.below hbA (Nat.le_refl _) (by simp; exact Nat.le_of_eq hg.out.symm)
  have R3 := RB.of_copy CK
  have hok3 : ∀ p ∈ C, ChOk w3 [g] p := fun p hp => by
    have := (H.node p hp).more (M' := g :: mutE e o ca ta) (fun b hb => by
      rcases List.mem_cons.1 hb with h | h
      · exact .inr (by rw [h, hg.out]; exact Nat.le_refl _)
      · exact .inl h)
    exact (this.keep (Keeps.of_below hb3)).more (fun b hb => .inl (by simp at hb; subst hb; simp))
  have CL0 : CL w2 w3 g C C := ⟨hb3, R3, rfl, hok3, by rw [hg.out]; exact Nat.le_refl _⟩
  have e1' := H1.blk.at 1 rfl
  replace hrc := Lib.hid hrc
  clear hbA BP HR CK hb3 R3 hok3 hmk hlts
  go_upto_region 5 with (refine wpList_copy_eq (o := ⟨some 18, _, _, _, _, _⟩) hrc.out rfl (by rfl) (by rfl) (by rfl) ?_)
  clear hrc e1' e1 H1
  go_wp2_with fail
  go_loopg [21] C.length (fun gg i wr => ∃ (k : Nat) (Ck : List Ch), k ≤ C.length ∧ C.length ≤ k + gg ∧ i = .int .i64 k ∧ CL w2 wr g C Ck)
  case atStart => exact ⟨0, C, Nat.zero_le _, by omega, rfl, CL0⟩
  case round =>
    clear CL0
    obtain ⟨k, Ck, hk, hkg, rfl, P⟩ := hrel
    have hlen : Ck.length = C.length := by simpa using congrArg List.length P.eq
    by_cases hlt : k < C.length
    · have hlt' : (k : Int) < (C.length : Int) := by omega
      have hlk : k < Ck.length := by omega
      have hrn := rb_node P.row k hlk
      have hok := P.ok _ (List.getElem_mem hlk)
      replace hlen := Lib.hid hlen
      go_wp2_with (refine wpList_load_mid rfl 26 _ rfl g (k * 14 + 6) rfl (nodeA Ck[k].1 Ck[k].2.node).toList _ hrn Try.underlying26 rfl (by kernel_rfl) ?_)
      refine (nclone_any _ Ck[k].1 Ck[k].2.node wr hok.node hok.small.1 hok.small.2.1 hok.small.2.2).mono ?_
      rintro r w5 ⟨⟨q, rfl, hn⟩, hb5⟩
      have R5 := P.row.below hb5
      have hgl := P.row.lt
      have hth : w5.there g (k * 14 + 6) (nodeA q Ck[k].2.node).size := R5.there k 6 8 (by simpa using hlk) (by decide)
      have F6 := fr_setsE (S := [g]) (b := g) (by simp) (nodeA q Ck[k].2.node).toList (k * 14 + 6) w5
      have P6 : CL w2 (w5.setCells g (k * 14 + 6) (nodeA q Ck[k].2.node).toList) g C (Ck.set k (q, Ck[k].2)) := by
        refine ⟨below_setsE P.ge _ _ _ (below_push2 P.b hb5 (Nat.le_refl _)), rb_setNode R5 k hlk q, ?_, fun p hp => ?_, P.ge⟩
        · rw [List.map_set, ← P.eq]
          rw [show (q, Ck[k].2).2 = (Ck.map (·.2))[k]'(by simpa using hlk) by simp]
          exact List.set_getElem_self _
        · rcases List.mem_or_eq_of_mem_set hp with h | h
          · exact ((P.ok p h).keep (Keeps.of_below hb5)).keep F6.keeps
          · subst h
            exact ⟨(node_more hn (fun b hb => .inl (by simp at hb ⊢; omega))).keep F6.keeps, hok.small⟩
      replace P6 := Lib.hid P6
      go_wp2_with ((with_reducible (show wpList _ _ _ _ _ _)); refine wpList_store_mid rfl 26 _ _ rfl g (k * 14 + 6) (nodeA q Ck[k].2.node) rfl rfl hth (by kernel_rfl) (by kernel_rfl) ?_; generalize w5.setCells g (k * 14 + 6) (nodeA q Ck[k].2.node).toList = w6 at P6 ⊢)
      go_roundg (C.length - (k + 1))
      case measure => omega
      case rel => exact ⟨k + 1, _, by omega, by omega, by go_num, P6.out⟩
    · obtain rfl : k = C.length := by omega
      go_wp2_with fail
      go_ret
      exact ⟨g, Ck, rfl, P⟩
end Go.Proofs.Ytbemgfpnoeogdaa.EdP

/-
  The laws' View of known nodes: the contract.
-/
namespace Go.Proofs.Ytbemgfpnoeogdaa.EdP
open Go.RowKit RefP FoP Dp
set_option linter.unusedVariables false
set_option linter.unusedSimpArgs false
abbrev KP := NodeH × KnV
abbrev knK (p : KP) : Kn := (p.2.1, knA p.1 p.2)
abbrev kpL (ps : List KP) : List (List Value) := ps.map (fun p => (knA p.1 p.2).toList)
theorem kpL_knL (ps : List KP) : knL (ps.map knK) = kpL ps := by simp [knL, kpL]
theorem kp_at {w : World} {S : List Nat} {h : Hd} {ps : List KP} (H : HRow (rawC 11) w S h (kpL ps)) (i : Nat) (hi : i < ps.length) : ∃ b off, h.a = some ⟨b, off, none⟩ ∧ b < w.heap.size ∧ w.rangeAt b (off + i * 11) (knA ps[i].1 ps[i].2).toList := by
  obtain ⟨b, off, e, hb, hr⟩ := raw_at H i (by simpa using hi)
  exact ⟨b, off, e, hb, by simpa using hr⟩
theorem knDel_new {ps : List KP} (hd : (ps.map (·.2.1)).Nodup) (k : Nat) (hk : k < ps.length) : knDel ((ps.take k).map knK) ps[k].2.1 ++ [knK ps[k]] = (ps.take (k + 1)).map knK := by
  have e : knDel ((ps.take k).map knK) ps[k].2.1 = (ps.take k).map knK := by
    unfold knDel
    rw [List.filter_eq_self]
    intro p hp
    obtain ⟨x, hx, rfl⟩ := List.mem_map.1 hp
    obtain ⟨j, hj, rfl⟩ := List.getElem_of_mem hx
    have hjk : j < k := by rw [List.length_take] at hj; omega
    rw [List.getElem_take]
    have hne : ps[j].2.1 ≠ ps[k].2.1 := fun he => by
      have := (List.pairwise_iff_getElem.1 hd) j k (by simp; omega) (by simpa using hk) hjk
      exact this (by simpa using he)
    simpa using hne
  rw [e, List.take_succ_eq_append_getElem hk, List.map_append]
  rfl
set_option maxRecDepth 100000 in
set_option maxHeartbeats 3200000 in
theorem view19_any {w : World} {h : Hd} {ps : List KP} (H : HRow (rawC 11) w [] h (kpL ps)) (hc : ∀ p ∈ ps, cellB p.2.1 = true) (hd : (ps.map (·.2.1)).Nodup) (hl : ps.length ≤ 100) :
    Calls Try.prog 41 #[.slice h.a ps.length h.c] w fun r w' => ∃ o m, r = .returned (.pointer (some ⟨o, 0, none⟩)) ∧ VwAt w' w.heap.size o m (ps.map knK) none 0 [] 0 0 ∧ Below w.heap.size w w' := by
  go_enter Try.func41, Try.ntmps41
  go_wp2_with fail
  refine (fNew_any _).mono ?_
  rintro r w1 ⟨o, m, rfl, V1, hb1⟩
  go_wp2_with fail
  go_loopg [9] ps.length (fun gg i wr => ∃ k : Nat, k ≤ ps.length ∧ ps.length ≤ k + gg ∧ i = .int .i64 k ∧ VwAt wr w.heap.size o m ((ps.take k).map knK) none 0 [] 0 0 ∧ Below w.heap.size w wr)
  case atStart => exact ⟨0, Nat.zero_le _, by omega, rfl, V1, hb1⟩
  case round =>
    clear V1 hb1
    obtain ⟨k, hk, hkg, rfl, V, hb⟩ := hrel
    by_cases hlt : k < ps.length
    · have hlt' : (k : Int) < (ps.length : Int) := by omega
      obtain ⟨b, off, ha, hbl, hcs0⟩ := kp_at H k hlt
      have hcs := raw_keep hcs0 hb hbl
      obtain ⟨ha', hc'⟩ := h
      simp only at ha
      subst ha
      have hck := hc _ (List.getElem_mem hlt)
      have hnew := knDel_new hd k hlt
      have hbx : Below wr.heap.size wr (wr.alloc (.cells (knA ps[k].1 ps[k].2) 53)) := by (repeat (first | exact Below.refl _ _ | assumption | refine below_alloc2 ?_ (by first | exact Nat.le_refl _ | omega) _ | refine Below.drew ?_ | refine below_drewN ?_ _ | refine below_push2 ?_ ‹_› (by first | exact Nat.le_refl _ | omega) | refine Below.setCell ?_ (by first | (simp; done) | (simp; omega) | omega) _))
      have BX := Blk.new wr (knA ps[k].1 ps[k].2) 53
      have V2 := V.under hbx
      have hlk : ((ps.take k).map knK).length < 100000 := by rw [List.length_map, List.length_take]; omega
      replace hnew := Lib.hid hnew
      go_upto_region 5 with (first
        | (refine wpList_load_mid rfl 53 _ rfl b (off + k * 11) rfl (knA ps[k].1 ps[k].2).toList _ hcs Try.underlying53 rfl (by kernel_rfl) ?_)
        | (refine wpList_store_row rfl 53 _ _ rfl _ _ rfl rfl 53 _ (Blk.new wr _ _).h (by kernel_rfl) (by rfl) (by kernel_rfl) ?_; rw [World.setRow_alloc_new]))
      have hlx := BX.lt
      obtain ⟨X, hX⟩ : ∃ x, x = wr.heap.size := ⟨_, rfl⟩
      have hB2 := below_push2 hb hbx (Nat.le_refl _)
      rw [← hX] at BX ⊢
      replace hX := Lib.hid hX
      generalize wr.alloc (.cells (knA ps[k].1 ps[k].2) 53) = w2 at hbx BX V2 hB2 hlx ⊢
      go_wp2_with (refine wpList_load_row rfl 53 _ rfl X rfl 53 _ (0, 0) _ BX.h Try.underlying53 rfl (by kernel_rfl) ?_)
      refine (learn_any V2 ps[k].2.1 (knA ps[k].1 ps[k].2) rfl (knA_one _ _) hck hlk).mono ?_
      rintro r w3 ⟨rfl, V3, F3⟩
      have hB3 := F3.below hB2 (Nat.le_refl _) (by simpa using V.lo.2.1)
      rw [hnew.out] at V3
      go_wp2_with fail
      go_roundg (ps.length - (k + 1))
      case measure => omega
      case rel => exact ⟨k + 1, by omega, by omega, by go_num, V3, hB3⟩
    · obtain rfl : k = ps.length := by omega
      rw [List.take_length] at V
      go_wp2_with fail
      go_ret
      exact ⟨o, m, rfl, V, hb⟩
end Go.Proofs.Ytbemgfpnoeogdaa.EdP

/-
  edit: place, fits: contracts where a change may be made.
-/
namespace Go.Proofs.Ytbemgfpnoeogdaa.EdP
open Go.RowKit RefP FoP Dp
set_option linter.unusedVariables false
set_option linter.unusedSimpArgs false
/-- may change number i be made of what a cell has? -/
def FitB (y : KnV) (c : ChangeV) (i : Nat) : Prop :=
  y.2.2.1 = c.ver ∧ ((c.from_ = -1 ∧ y.2.1 = c.word ∧ (c.empty = true → c.word ≠ 0)) ∨ (∃ j : Nat, j < i ∧ c.from_ = j ∧ y.2.1 = 1048576 + j))
theorem wrap_small {n : Nat} (h : n ≤ 10000000) : IntKind.u64.wrap (n : Int) = n := by
  simp [IntKind.wrap, IntKind.bits]
  omega
set_option maxRecDepth 100000 in
set_option maxHeartbeats 1600000 in
theorem fits_yes (w : World) (q : NodeH) (y : KnV) (p : Ch) (i : Nat) (hi : i ≤ 100) (h : FitB y p.2 i) : Calls Try.prog 50 #[.agg (knA q y), .agg (chA p), .int .i64 i, .int .u64 1048576] w fun r w' => r = .returned (.bool true) ∧ Below w.heap.size w w' := by
  have hb : Below w.heap.size w ((w.alloc (.cells (knA q y) 53)).alloc (.cells (chA p) 97)) := by (repeat (first | exact Below.refl _ _ | assumption | refine below_alloc2 ?_ (by first | exact Nat.le_refl _ | omega) _ | refine Below.drew ?_ | refine below_drewN ?_ _ | refine below_push2 ?_ ‹_› (by first | exact Nat.le_refl _ | omega) | refine Below.setCell ?_ (by first | (simp; done) | (simp; omega) | omega) _))
  have BK := (Blk.new w (knA q y) 53).alloc (.cells (chA p) 97)
  have BC := Blk.new (w.alloc (.cells (knA q y) 53)) (chA p) 97
  simp only [World.size_alloc] at BC
  go_enter Try.func50, Try.ntmps50
  go_upto_region 1 with (fail)
  generalize (w.alloc (.cells (knA q y) 53)).alloc (.cells (chA p) 97) = w1 at hb BK BC ⊢
  have k1 : w1.cell? ⟨w.heap.size, 1, none⟩ = some (.int .u64 y.2.1) := BK.at 1 rfl
  have k2 : w1.cell? ⟨w.heap.size, 2, none⟩ = some (.int .u64 y.2.2.1) := BK.at 2 rfl
  have c1 : w1.cell? ⟨w.heap.size + 1, 1, none⟩ = some (.int .i64 p.2.from_) := BC.at 1 rfl
  have c2 : w1.cell? ⟨w.heap.size + 1, 2, none⟩ = some (.int .u64 p.2.word) := BC.at 2 rfl
  have c3 : w1.cell? ⟨w.heap.size + 1, 3, none⟩ = some (.int .u64 p.2.ver) := BC.at 3 rfl
  have c4 : w1.cell? ⟨w.heap.size + 1, 4, none⟩ = some (.bool p.2.empty) := BC.at 4 rfl
  have hwi := wrap_small (n := i) (by omega)
  have hwi2 := wrap_small (n := 1048576 + i) (by omega)
  have hni : ((1048576 : Int) + (i : Int) != 0) = true := by simp; omega
  obtain ⟨hv, hc⟩ := h
  rw [← hv] at c3
  rcases hc with ⟨hf, hw, he⟩ | ⟨j, hj, hf, hw⟩
  · rw [hf] at c1
    rw [← hw] at c2
    have hni1 : ¬ ((i : Int) ≤ -1) := by omega
    cases hem : p.2.empty
    · rw [hem] at c4
      go_wp2_with fail
      go_ret
      exact ⟨rfl, hb⟩
    · rw [hem] at c4
      have hz : (y.2.1 == 0) = false := by rw [hw]; simpa using he hem
      go_wp2_with fail
      go_ret
      exact ⟨rfl, hb⟩
  · rw [hf] at c1
    rw [hw] at k1
    have hjm : ((j : Int) == -1) = false := by first | (simp; done) | (simp; omega)
    have hjl : ¬ ((j : Int) < -1) := by omega
    have hij : ¬ ((i : Int) ≤ (j : Int)) := by omega
    have hwj := wrap_small (n := j) (by omega)
    have hwj2 := wrap_small (n := 1048576 + j) (by omega)
    go_wp2_with fail
    go_ret
    exact ⟨rfl, hb⟩
set_option maxRecDepth 100000 in
set_option maxHeartbeats 1600000 in
theorem place_yes {w : World} {S : List Nat} {h : Hd} {ps : List KP} (H : HRow (rawC 11) w S h (kpL ps)) (cell : Int) (p : Nat) (hp : p < ps.length) (he : ps[p].2.1 = cell) (hf : ∀ j (hj : j < ps.length), j < p → ps[j].2.1 ≠ cell) (hl : ps.length ≤ 100) :
    Calls Try.prog 49 #[.slice h.a ps.length h.c, .int .i64 cell] w fun r w' => r = .returned (.int .i64 p) ∧ Below w.heap.size w w' := by
  go_enter Try.func49, Try.ntmps49
  go_wp2_with fail
  go_loopg [9] ps.length (fun gg i wr => ∃ k : Nat, k ≤ p ∧ ps.length ≤ k + gg ∧ i = .int .i64 k ∧ Below w.heap.size w wr)
  case atStart => exact ⟨0, Nat.zero_le _, by omega, rfl, Below.refl _ _⟩
  case round =>
    obtain ⟨k, hk, hkg, rfl, hb⟩ := hrel
    have hlt : k < ps.length := by omega
    have hlt' : (k : Int) < (ps.length : Int) := by omega
    obtain ⟨b, off, ha, hbl, hcs0⟩ := kp_at H k hlt
    have hcs := raw_keep hcs0 hb hbl
    obtain ⟨ha', hc'⟩ := h
    simp only at ha
    subst ha
    have hbx : Below wr.heap.size wr (wr.alloc (.cells (knA ps[k].1 ps[k].2) 53)) := by (repeat (first | exact Below.refl _ _ | assumption | refine below_alloc2 ?_ (by first | exact Nat.le_refl _ | omega) _ | refine Below.drew ?_ | refine below_drewN ?_ _ | refine below_push2 ?_ ‹_› (by first | exact Nat.le_refl _ | omega) | refine Below.setCell ?_ (by first | (simp; done) | (simp; omega) | omega) _))
    have BX := Blk.new wr (knA ps[k].1 ps[k].2) 53
    have hB2 := below_push2 hb hbx (Nat.le_refl _)
    have hkp : Hid (k = p ∨ k < p) := Lib.hid (by omega)
    go_upto_region 4 with (first
      | (refine wpList_load_mid rfl 53 _ rfl b (off + k * 11) rfl (knA ps[k].1 ps[k].2).toList _ hcs Try.underlying53 rfl (by kernel_rfl) ?_)
      | (refine wpList_store_row rfl 53 _ _ rfl _ _ rfl rfl 53 _ (Blk.new wr _ _).h (by kernel_rfl) (by rfl) (by kernel_rfl) ?_; rw [World.setRow_alloc_new]))
    obtain ⟨X, hX⟩ : ∃ x, x = wr.heap.size := ⟨_, rfl⟩
    rw [← hX] at BX ⊢
    replace hX := Lib.hid hX
    generalize wr.alloc (.cells (knA ps[k].1 ps[k].2) 53) = w2 at hbx BX hB2 ⊢
    have x0 : w2.cell? ⟨X, 0, none⟩ = some (.int .i64 ps[k].2.1) := BX.at 0 rfl
    rcases hkp.out with q | q
    · subst q
      rw [he] at x0
      go_wp2_with fail
      go_ret
      exact ⟨rfl, hB2⟩
    · have hbt : (ps[k].2.1 == cell) = false := by simpa using hf k hlt q
      go_wp2_with fail
      go_roundg (ps.length - (k + 1))
      case measure => omega
      case rel => exact ⟨k + 1, by omega, by omega, by go_num, hB2⟩
end Go.Proofs.Ytbemgfpnoeogdaa.EdP

/-
  EditGoes: the plain law: what an edit's changes are, and what cells have behind them. No memory.
-/
namespace Go.Proofs.Ytbemgfpnoeogdaa.EdP
open Go.RowKit RefP FoP Dp
set_option linter.unusedVariables false
set_option linter.unusedSimpArgs false
/-- cells: the known ones, then the spares -/
def cellsL (l : List KnV) (S : List Sp) : List KnV := l ++ S.map (fun s => (s.1, 0, s.2, n00, ()))
theorem cellsL_len (l : List KnV) (S : List Sp) : (cellsL l S).length = l.length + S.length := by simp [cellsL]
def upd (k : Nat) (c : ChangeV) : KnV := (c.cell, if c.empty then 0 else 1048576 + k, IntKind.u64.wrap (c.ver + 1), if c.empty then n00 else c.node, ())
/-- what a cell has behind the first k changes -/
def stY (C : List Ch) : Nat → KnV → KnV
  | 0, y => y
  | k + 1, y => if (C.getD k ch0).2.cell = y.1 then upd k (C.getD k ch0).2 else stY C k y
theorem stY_cell (C : List Ch) : ∀ (k : Nat) (y : KnV), (stY C k y).1 = y.1
  | 0, _ => rfl
  | k + 1, y => by
    unfold stY
    split
    · rename_i h; exact h
    · exact stY_cell C k y
theorem getD_at {C : List Ch} {k : Nat} (hk : k < C.length) : C.getD k ch0 = C[k] := by rw [List.getD_eq_getElem?_getD, List.getElem?_eq_getElem hk]; rfl
theorem stY_none {C : List Ch} {y : KnV} : ∀ (k : Nat), k ≤ C.length → (∀ j (hj : j < C.length), j < k → C[j].2.cell ≠ y.1) → stY C k y = y
  | 0, _, _ => rfl
  | k + 1, hk, h => by
    unfold stY
    rw [getD_at (by omega), if_neg (h k (by omega) (by omega))]
    exact stY_none k (by omega) (fun j hj hjk => h j hj (by omega))
theorem stY_last {C : List Ch} {y : KnV} {j : Nat} (hj : j < C.length) (he : C[j].2.cell = y.1) : ∀ (k : Nat), j < k → k ≤ C.length → (∀ i (hi : i < C.length), j < i → i < k → C[i].2.cell ≠ y.1) → stY C k y = upd j C[j].2
  | 0, h, _, _ => absurd h (by omega)
  | k + 1, h, hk, hall => by
    unfold stY
    rw [getD_at (by omega)]
    by_cases e : j = k
    · subst e
      rw [if_pos he]
    · rw [if_neg (hall k (by omega) (by omega) (by omega))]
      exact stY_last hj he k (by omega) (by omega) (fun i hi h1 h2 => hall i hi h1 (by omega))
/-- each change is of what its cell has then -/
def GI (l : List KnV) (S : List Sp) (C : List Ch) : Prop :=
  ∀ k (hk : k < C.length),
    (∃ j, ∃ hj : j < C.length, j < k ∧ C[j].2.cell = C[k].2.cell ∧ (∀ i (hi : i < C.length), j < i → i < k → C[i].2.cell ≠ C[k].2.cell) ∧ C[j].2.empty = false ∧ C[k].2.from_ = j ∧ C[k].2.ver = IntKind.u64.wrap (C[j].2.ver + 1)) ∨
    ((∀ j (hj : j < C.length), j < k → C[j].2.cell ≠ C[k].2.cell) ∧ C[k].2.from_ = -1 ∧ ∃ y ∈ cellsL l S, y.1 = C[k].2.cell ∧ y.2.1 = C[k].2.word ∧ y.2.2.1 = C[k].2.ver ∧ (C[k].2.empty = true → y.2.1 ≠ 0))
theorem GI.nil (l : List KnV) (S : List Sp) : GI l S [] := fun k hk => by simp at hk
/-- the cells are unlike, and the known ones have words -/
structure Cells (l : List KnV) (S : List Sp) : Prop where
  nodup : ((cellsL l S).map (·.1)).Nodup
  word : ∀ y ∈ l, y.2.1 ≠ 0
theorem Cells.uniq {l : List KnV} {S : List Sp} (H : Cells l S) {i j : Nat} (hi : i < (cellsL l S).length) (hj : j < (cellsL l S).length) (e : (cellsL l S)[i].1 = (cellsL l S)[j].1) : i = j := by
  have h := List.pairwise_iff_getElem.1 H.nodup
  rcases Nat.lt_trichotomy i j with q | q | q
  · exact absurd (by rw [List.getElem_map, List.getElem_map]; exact e) (h i j (by simpa using hi) (by simpa using hj) q)
  · exact q
  · exact absurd (by rw [List.getElem_map, List.getElem_map]; exact e.symm) (h j i (by simpa using hj) (by simpa using hi) q)
theorem Cells.apart {l : List KnV} {S : List Sp} (H : Cells l S) {y : KnV} (hy : y ∈ l) {s : Sp} (hs : s ∈ S) : y.1 ≠ s.1 := fun e => by
  obtain ⟨i, hi, rfl⟩ := List.getElem_of_mem hy
  obtain ⟨j, hj, rfl⟩ := List.getElem_of_mem hs
  have h1 : (cellsL l S)[i]'(by rw [cellsL_len]; omega) = l[i] := by simp [cellsL, List.getElem_append, hi]
  have h2 : (cellsL l S)[l.length + j]'(by rw [cellsL_len]; omega) = (S[j].1, 0, S[j].2, n00, ()) := by simp [cellsL, List.getElem_append]
  have := H.uniq (i := i) (j := l.length + j) (by rw [cellsL_len]; omega) (by rw [cellsL_len]; omega) (by rw [h1, h2]; exact e)
  omega
theorem spFind_mem {T : List Sp} {n : Int} {s : Sp} (h : spFind T n = some s) : s ∈ T ∧ s.1 = n := by
  unfold spFind at h
  exact ⟨List.mem_of_find?_eq_some h, by simpa using List.find?_some h⟩
theorem knFind_mem {l : List KnV} {n : Int} {y : KnV} (h : knFind l n = some y) : y ∈ l ∧ y.1 = n := by
  unfold knFind at h
  exact ⟨List.mem_of_find?_eq_some h, by simpa using List.find?_some h⟩
/-- a change more -/
theorem GI.snoc {l : List KnV} {S : List Sp} {C : List Ch} (H : Cells l S) (G : GI l S C) {t : Nat} {cell : Int} {cv : ChangeV} (hB : BgIs C l (S.take t) cell cv) {p : Ch} (h1 : p.2.cell = cv.cell) (h2 : p.2.from_ = cv.from_) (h3 : p.2.word = cv.word) (h4 : p.2.ver = cv.ver)
    (h5 : p.2.empty = true → ∃ x, AtIs C l cell x true) : GI l S (C ++ [p]) := fun k hk => by
  have hC : ∀ j (hj : j < C.length), (C ++ [p])[j]'(by simp; omega) = C[j] := fun j hj => List.getElem_append_left hj
  by_cases hlt : k < C.length
  · rw [hC k hlt]
    rcases G k hlt with ⟨j, hj, a1, a2, a3, a4, a5, a6⟩ | ⟨a1, a2, a3⟩
    · refine .inl ⟨j, by simp; omega, a1, by rw [hC j hj]; exact a2, fun i hi q1 q2 => by rw [hC i (by omega)]; exact a3 i (by omega) q1 q2, by rw [hC j hj]; exact a4, a5, by rw [hC j hj]; exact a6⟩
    · exact .inr ⟨fun j hj q => by rw [hC j (by omega)]; exact a1 j (by omega) q, a2, a3⟩
  · have hkk : k = C.length := by simp at hk; omega
    subst hkk
    have hp : (C ++ [p])[C.length]'(by simp) = p := by simp
    rw [hp]
    rcases hB.2 with ⟨i, hi, b1, b2, b3, b4⟩ | ⟨b1, b2⟩
    · have hcc : p.2.cell = cell := by rw [h1, b4]; rfl
      refine .inl ⟨i, by simp; omega, hi, by rw [hC i hi, b1, hcc], fun j hj q1 q2 => by rw [hC j q2, hcc]; exact b2 j q2 q1, by rw [hC i hi]; exact b3, by rw [h2, b4]; rfl, by rw [hC i hi, h4, b4]; rfl⟩
    · refine .inr ⟨fun j hj q => ?_, ?_, ?_⟩
      · rw [hC j q, h1]
        rcases b2 with ⟨s, _, e⟩ | ⟨_, y, _, e⟩ <;> (rw [e]; exact b1 j q)
      · rw [h2]
        rcases b2 with ⟨s, _, e⟩ | ⟨_, y, _, e⟩ <;> rw [e] <;> rfl
      · rcases b2 with ⟨s, hs, e⟩ | ⟨_, y, hy, e⟩
        · obtain ⟨m1, m2⟩ := spFind_mem hs
          have m1' := List.mem_of_mem_take m1
          refine ⟨(s.1, 0, s.2, n00, ()), List.mem_append.2 (.inr (List.mem_map.2 ⟨s, m1', rfl⟩)), by rw [h1, e]; exact m2, by rw [h3, e]; rfl, by rw [h4, e]; rfl, fun he => ?_⟩
          obtain ⟨x, hx⟩ := h5 he
          rcases hx with ⟨i, hi, q1, _⟩ | ⟨_, ⟨_, q⟩ | ⟨y, q1, _⟩⟩
          · exact absurd q1 (b1 i hi)
          · cases q
          · obtain ⟨r1, r2⟩ := knFind_mem q1
            exact absurd (r2.trans m2.symm) (H.apart r1 m1')
        · obtain ⟨r1, r2⟩ := knFind_mem hy
          exact ⟨y, List.mem_append.2 (.inl r1), by rw [h1, e]; exact r2, by rw [h3, e]; rfl, by rw [h4, e]; rfl, fun _ => H.word y r1⟩
/-- a change's cell is one of the cells -/
theorem GI.mem {l : List KnV} {S : List Sp} {C : List Ch} (G : GI l S C) : ∀ (k : Nat) (hk : k < C.length), ∃ y ∈ cellsL l S, y.1 = C[k].2.cell := fun k => by
  induction k using Nat.strongRecOn with
  | ind k ih =>
    intro hk
    rcases G k hk with ⟨j, hj, a1, a2, _⟩ | ⟨_, _, y, b1, b2, _⟩
    · obtain ⟨y, h1, h2⟩ := ih j a1 hj
      exact ⟨y, h1, h2.trans a2⟩
    · exact ⟨y, b1, b2⟩
def NC (l : List KnV) (S : List Sp) (C : List Ch) (k : Nat) : List KnV := (cellsL l S).map (stY C k)
/-- each change may be made -/
theorem GI.fits {l : List KnV} {S : List Sp} {C : List Ch} (H : Cells l S) (G : GI l S C) (k : Nat) (hk : k < C.length) : ∃ p, ∃ hp : p < (NC l S C k).length, (NC l S C k)[p].1 = C[k].2.cell ∧ (∀ j (hj : j < (NC l S C k).length), j < p → (NC l S C k)[j].1 ≠ C[k].2.cell) ∧ FitB (NC l S C k)[p] C[k].2 k ∧ NC l S C (k + 1) = (NC l S C k).set p (upd k C[k].2) := by
  obtain ⟨y, hy, hyc⟩ := G.mem k hk
  obtain ⟨p, hp, rfl⟩ := List.getElem_of_mem hy
  have hlen : (NC l S C k).length = (cellsL l S).length := by simp [NC]
  have hat : ∀ j (hj : j < (cellsL l S).length), (NC l S C k)[j]'(by omega) = stY C k (cellsL l S)[j] := fun j hj => by simp [NC]
  refine ⟨p, by omega, by rw [hat p hp, stY_cell]; exact hyc, fun j hj hjp => ?_, ?_, ?_⟩
  · rw [hat j (by omega), stY_cell, ← hyc]
    exact fun e => by have := H.uniq (by omega) hp e; omega
  · rw [hat p hp]
    rcases G k hk with ⟨j, hj, a1, a2, a3, a4, a5, a6⟩ | ⟨a1, a2, y, b1, b2, b3, b4, b5⟩
    · rw [stY_last hj (a2.trans hyc.symm) k a1 (by omega) (fun i hi q1 q2 => by rw [hyc]; exact a3 i hi q1 q2)]
      refine ⟨by rw [a6]; rfl, .inr ⟨j, a1, a5, ?_⟩⟩
      simp [upd, a4]
    · rw [stY_none k (by omega) (fun j hj q => by rw [hyc]; exact a1 j hj q)]
      obtain ⟨i, hi, rfl⟩ := List.getElem_of_mem b1
      have : i = p := H.uniq hi hp (b2.trans hyc.symm)
      subst this
      exact ⟨b4, .inl ⟨a2, b3, fun he => by rw [← b3]; exact b5 he⟩⟩
  · refine List.ext_getElem (by simp [NC]) (fun i h1 h2 => ?_)
    have hil : i < (cellsL l S).length := by simpa [NC] using h1
    rw [List.getElem_set]
    have e1 : (NC l S C (k + 1))[i] = stY C (k + 1) (cellsL l S)[i] := by simp [NC]
    rw [e1]
    unfold stY
    rw [getD_at hk]
    by_cases e : p = i
    · subst e
      rw [if_pos hyc.symm, if_pos rfl]
    · rw [if_neg (fun q => e (H.uniq hp hil (by rw [hyc]; exact q))), if_neg e, hat i hil]
/-- what an edit tells of a cell is what it has behind all changes -/
theorem GI.tells {l : List KnV} {S : List Sp} {C : List Ch} (H : Cells l S) (i : Nat) (hi : i < (NC l S C C.length).length) {x : NodeV} {bit : Bool} (hA : AtIs C l (NC l S C C.length)[i].1 x bit) :
    (i < l.length → bit = decide ((NC l S C C.length)[i].2.1 ≠ 0)) ∧ (bit = true → (NC l S C C.length)[i].2.1 ≠ 0 → x = (NC l S C C.length)[i].2.2.2.1) := by
  have hil : i < (cellsL l S).length := by simpa [NC] using hi
  have hat : (NC l S C C.length)[i] = stY C C.length (cellsL l S)[i] := by simp [NC]
  rw [hat] at hA ⊢
  rw [stY_cell] at hA
  rcases hA with ⟨j, hj, a1, a2, a3, a4⟩ | ⟨a1, a2⟩
  · rw [stY_last hj a1 C.length hj (Nat.le_refl _) (fun i hi q1 q2 => a2 i hi q1)]
    subst a3
    cases hem : C[j].2.empty
    · refine ⟨fun _ => ?_, fun _ _ => ?_⟩
      · simp [upd, hem]; omega
      · rw [a4 (by simp [hem])]; simp [upd, hem]
    · refine ⟨fun _ => ?_, fun h => by simp at h⟩
      simp [upd, hem]
  · rw [stY_none C.length (Nat.le_refl _) (fun j hj _ => a1 j hj)]
    by_cases hl : i < l.length
    · have h1 : (cellsL l S)[i] = l[i] := by simp [cellsL, List.getElem_append, hl]
      rw [h1] at a2 ⊢
      have hf : knFind l l[i].1 = some l[i] := find_first _ l i hl (by simp) (fun j hj hjk => by
        have h2 : (cellsL l S)[j]'(by rw [cellsL_len]; omega) = l[j] := by simp [cellsL, List.getElem_append, hj]
        have hne : l[j].1 ≠ l[i].1 := fun e => by
          have := H.uniq (i := j) (j := i) (by rw [cellsL_len]; omega) hil (by rw [h1, h2]; exact e)
          omega
        simpa using hne)
      rcases a2 with ⟨q, _⟩ | ⟨y, q1, q2, q3⟩
      · rw [hf] at q; cases q
      · rw [hf] at q1
        cases q1
        exact ⟨fun _ => by rw [q2]; exact (decide_eq_true (H.word _ (List.getElem_mem hl))).symm, fun _ _ => q3⟩
    · have h1 : (cellsL l S)[i].2.1 = 0 := by simp [cellsL, List.getElem_append, hl]
      exact ⟨fun h => absurd h hl, fun _ h => absurd h1 h⟩
end Go.Proofs.Ytbemgfpnoeogdaa.EdP

/-
  edit.Apply where all changes may be made: the contract.
-/
namespace Go.Proofs.Ytbemgfpnoeogdaa.EdP
open Go.RowKit RefP FoP Dp
open Go.Sort (grow)
set_option linter.unusedVariables false
set_option linter.unusedSimpArgs false
theorem mk_knowns (n : Nat) (hn : n ≤ 60000) (w : World) : (Instr.makeSlice 48 (.int .i64 (n : Int)) (.int .i64 (n : Int))).run Try.prog w = .ok (.slice (some ⟨w.heap.size, 0, none⟩) n n) (w.alloc (.cells (madeCells kz (n * 11)) 53)) := by
  obtain ⟨i0, hi, hz0, hz1, hz2⟩ := info_parts' infoKnown
  have hb' : (i0.bytes : Int) * (n : Int) ≤ 281474976710656 := by rw [hz2]; omega
  have hr := run_make (P := Try.prog) w 48 53 i0 _ Try.underlying48 hi hz0 .i64 .i64 n n (by omega) (by omega) hb' (by omega)
  simp only [Int.toNat_natCast, hz1] at hr
  rw [hr]
  simp [Value.cells]
theorem raw11_one (p : KP) : ∀ v ∈ (knA p.1 p.2).toList, v.oneCell' = true := fun v hv => by
  simp at hv
  rcases hv with e | e | e | e | e | e | e | e | e | e | e <;> subst e <;> rfl
theorem rb_known {w : World} {g : Nat} {T : TypeId} {ps : List KP} (R : RB 11 w g T (kpL ps)) (k : Nat) (hk : k < ps.length) : w.rangeAt g (k * 11) (knA ps[k].1 ps[k].2).toList := by
  have := R.range k (by simpa using hk)
  simpa using this
theorem rb_setKnown {w : World} {g : Nat} {T : TypeId} {ps : List KP} (R : RB 11 w g T (kpL ps)) (k : Nat) (hk : k < ps.length) (p : KP) : RB 11 (w.setCells g (k * 11) (knA p.1 p.2).toList) g T (kpL (ps.set k p)) := by
  have := R.set k 0 (knA p.1 p.2).toList (knA p.1 p.2).toList (by simpa using hk) (by simp) rfl (raw11_one p) (fun j hj => by rw [Nat.zero_add]) (fun j hj => by
    have e : (kpL ps)[k]'(by simpa using hk) = (knA ps[k].1 ps[k].2).toList := by simp
    rw [e, List.getElem?_eq_none (by simp at hj ⊢; omega), List.getElem?_eq_none (by simp at hj ⊢; omega)])
  rw [show kpL (ps.set k p) = (kpL ps).set k (knA p.1 p.2).toList by simp [kpL, List.map_set]]
  exact this
theorem ch_at {w : World} {S : List Nat} {h : Hd} {C : List Ch} (H : HRow (rawC 14) w S h (chL C)) (i : Nat) (hi : i < C.length) : ∃ b off, h.a = some ⟨b, off, none⟩ ∧ b < w.heap.size ∧ w.rangeAt b (off + i * 14) (chA C[i]).toList := by
  obtain ⟨b, off, e, hb, hr⟩ := raw_at H i (by simpa using hi)
  exact ⟨b, off, e, hb, by simpa using hr⟩
/-- cells as they are behind some changes -/
structure AL (w wr : World) (T : List Nat) (g : Nat) (cur : List KP) (ys : List KnV) : Prop where
  b : Below w.heap.size w wr
  row : RB 11 wr g 53 (kpL cur)
  eq : cur.map (·.2) = ys
  ok : ∀ p ∈ cur, NodeOk wr (g :: T) p.1 p.2.2.2.2.1
  ge : w.heap.size ≤ g
theorem AL.under {w wr w' : World} {T : List Nat} {g : Nat} {cur : List KP} {ys : List KnV} (P : AL w wr T g cur ys) (hb : Below wr.heap.size wr w') : AL w w' T g cur ys :=
  ⟨below_push2 P.b hb (Nat.le_refl _), P.row.below hb, P.eq, fun p hp => (P.ok p hp).keep (Keeps.of_below hb), P.ge⟩
theorem AL.put {w wr : World} {T : List Nat} {g : Nat} {cur : List KP} {ys : List KnV} (P : AL w wr T g cur ys) (k : Nat) (hk : k < cur.length) (p : KP) (hn : NodeOk wr (g :: T) p.1 p.2.2.2.2.1) : AL w (wr.setCells g (k * 11) (knA p.1 p.2).toList) T g (cur.set k p) (ys.set k p.2) := by
  have F := fr_setsE (S := [g]) (b := g) (by simp) (knA p.1 p.2).toList (k * 11) wr
  refine ⟨below_setsE P.ge _ _ _ P.b, rb_setKnown P.row k hk p, by rw [List.map_set, P.eq], fun x hx => ?_, P.ge⟩
  have K : Keeps (g :: T) wr (wr.setCells g (k * 11) (knA p.1 p.2).toList) := F.keeps.more (by simp)
  rcases List.mem_or_eq_of_mem_set hx with h | h
  · exact (P.ok x h).keep K
  · subst h; exact hn.keep K
theorem blk_range' {w : World} {b : Nat} {cs : Array Value} {T : TypeId} (B : Blk w b cs T) : w.rangeAt b 0 cs.toList := fun j v hv => by
  rw [Nat.zero_add]
  exact B.at j (by simpa using hv)
abbrev kbA (c : ChangeV) : Array Value := #[.int .i64 c.cell, .int .u64 0, .int .u64 (IntKind.u64.wrap (c.ver + 1)), .int .i64 0, .string ⟨#[]⟩, .string ⟨#[]⟩, .bool false, .int .i64 0, .slice none 0 0, .slice none 0 0, .slice none 0 0]
theorem sets_kn (q : NodeH) (y : KnV) (q' : NodeH) (x : NodeV) : setsE (knA q y) 3 (nodeA q' x).toList = knA q' (y.1, y.2.1, y.2.2.1, x, ()) := by
  simp [setsE]
set_option maxRecDepth 100000 in
set_option maxHeartbeats 1600000 in
theorem apply_any {w : World} {T : List Nat} {h hc : Hd} {ps : List KP} {C : List Ch} (H : HRow (rawC 11) w T h (kpL ps)) (hn : ∀ p ∈ ps, NodeOk w T p.1 p.2.2.2.2.1) (hT : ∀ b ∈ T, b < w.heap.size) (HC : HRow (rawC 14) w [] hc (chL C)) (hok : ∀ p ∈ C, ChOk w [] p) (hl : ps.length ≤ 100) (hcl : C.length ≤ 46)
    (N : Nat → List KnV) (h0 : N 0 = ps.map (·.2)) (hs : ∀ k (hk : k < C.length), ∃ p, ∃ hp : p < (N k).length, (N k)[p].1 = C[k].2.cell ∧ (∀ j (hj : j < (N k).length), j < p → (N k)[j].1 ≠ C[k].2.cell) ∧ FitB (N k)[p] C[k].2 k ∧ N (k + 1) = (N k).set p (upd k C[k].2)) :
    Calls Try.prog 20 #[.slice h.a ps.length h.c, .slice hc.a C.length hc.c, .int .u64 1048576] w fun r w' => ∃ g cur, r = .returned (.tuple #[.slice (some ⟨g, 0, none⟩) ps.length ps.length, .bool true]) ∧ cur.length = ps.length ∧ AL w w' T g cur (N C.length) := by
  have hmk := mk_knowns ps.length (by omega)
  go_enter Try.func20, Try.ntmps20
  go_upto_region 2 with (fail)
  have hbA : Below w.heap.size w (w.alloc (.cells (madeCells kz (ps.length * 11)) 53)) := by (repeat (first | exact Below.refl _ _ | assumption | refine below_alloc2 ?_ (by first | exact Nat.le_refl _ | omega) _ | refine Below.drew ?_ | refine below_drewN ?_ _ | refine below_push2 ?_ ‹_› (by first | exact Nat.le_refl _ | omega) | refine Below.setCell ?_ (by first | (simp; done) | (simp; omega) | omega) _))
  have BP := Blk.new w (madeCells kz (ps.length * 11)) 53
  have HR := (H.more (S' := w.heap.size :: T) (fun b hb => by
    rcases List.mem_cons.1 hb with e | e
    · exact .inr (by omega)
    · exact .inl e)).keep (Keeps.of_below hbA)
  have hn1 : ∀ p ∈ ps, NodeOk (w.alloc (.cells (madeCells kz (ps.length * 11)) 53)) (w.heap.size :: T) p.1 p.2.2.2.2.1 := fun p hp => (node_more (hn p hp) (fun b hb => by
    rcases List.mem_cons.1 hb with e | e
    · exact .inr (by omega)
    · exact .inl e)).keep (Keeps.of_below hbA)
  obtain ⟨g, hg⟩ : ∃ b, b = w.heap.size := ⟨_, rfl⟩
  rw [← hg] at BP HR hn1 ⊢
  replace hg := Lib.hid hg
  generalize w.alloc (.cells (madeCells kz (ps.length * 11)) 53) = w1 at hbA BP HR hn1 ⊢
  have hll : (kpL ps).length = ps.length := List.length_map _
  obtain ⟨w3, hrc, CK⟩ := run_copy_hrow (P := Try.prog) (dCap := ps.length) 48 48 53 (by decide) Try.underlying48 (show _ = some 11 by kernel_rfl) HR ps.length (by omega) BP (made_size _ _)
  rw [List.take_of_length_le (by omega)] at CK
  rw [hll] at hrc
  have hge : w.heap.size ≤ g := by rw [hg.out]; exact Nat.le_refl _
  have hb3 : Below w.heap.size w w3 := CK.fr.below hbA (Nat.le_refl _) (by simpa using hge)
  have P0 : AL w w3 T g ps (N 0) := ⟨hb3, RB.of_copy CK, h0.symm, fun p hp => (hn1 p hp).keep (CK.fr.keeps.more (by simp)), hge⟩
  have hTg : ∀ b ∈ g :: T, b ≤ g := fun b hb => by
    rcases List.mem_cons.1 hb with e | e
    · omega
    · have := hT b e; omega
  replace hrc := Lib.hid hrc
  clear hbA BP HR hn1 CK hb3 hmk hg
  go_upto_region 3 with (refine wpList_copy_eq (o := ⟨some 18, _, _, _, _, _⟩) hrc.out rfl (by rfl) (by rfl) (by rfl) ?_)
  clear hrc
  go_wp2_with fail
  go_loopg [21] C.length (fun gg i wr => ∃ (k : Nat) (cur : List KP), k ≤ C.length ∧ C.length ≤ k + gg ∧ i = .int .i64 k ∧ AL w wr T g cur (N k))
  case atStart => exact ⟨0, ps, Nat.zero_le _, by omega, rfl, P0⟩
  case round =>
    clear P0
    obtain ⟨k, cur, hk, hkg, rfl, P⟩ := hrel
    have hlen : cur.length = ps.length := by
      have h1 := congrArg List.length P.eq
      have hlN : ∀ k, k ≤ C.length → (N k).length = ps.length := fun k => by
        induction k with
        | zero => intro _; rw [h0]; simp
        | succ k ih =>
          intro hk
          obtain ⟨p, hp, _, _, _, e⟩ := hs k (by omega)
          rw [e, List.length_set]
          exact ih (by omega)
      rw [hlN k hk] at h1
      simpa using h1
    by_cases hlt : k < C.length
    · have hlt' : (k : Int) < (C.length : Int) := by omega
      obtain ⟨p, hp, he, hf, hfit, hnext⟩ := hs k hlt
      have hpc : p < cur.length := by rw [← P.eq] at hp; simpa using hp
      have heq : ∀ j (hj : j < cur.length), ∃ hj' : j < (N k).length, (N k)[j] = cur[j].2 := fun j hj => by
        have hj' : j < (N k).length := by rw [← P.eq]; simpa using hj
        refine ⟨hj', ?_⟩
        have : (N k)[j]? = some cur[j].2 := by rw [← P.eq, List.getElem?_map, List.getElem?_eq_getElem hj]; rfl
        rw [List.getElem?_eq_getElem hj'] at this
        exact Option.some.inj this
      obtain ⟨_, hep⟩ := heq p hpc
      rw [hep] at he hfit
      have hf' : ∀ j (hj : j < cur.length), j < p → cur[j].2.1 ≠ C[k].2.cell := fun j hj hjp => by
        obtain ⟨hj', e⟩ := heq j hj
        rw [← e]
        exact hf j hj' hjp
      obtain ⟨b, off, ha, hbl, hcs0⟩ := ch_at HC k hlt
      have hcs := raw_keep hcs0 P.b hbl
      obtain ⟨ha', hc'⟩ := hc
      simp only at ha
      subst ha
      have hokk := hok _ (List.getElem_mem hlt)
      have hbx : Below wr.heap.size wr (wr.alloc (.cells (chA C[k]) 97)) := by (repeat (first | exact Below.refl _ _ | assumption | refine below_alloc2 ?_ (by first | exact Nat.le_refl _ | omega) _ | refine Below.drew ?_ | refine below_drewN ?_ _ | refine below_push2 ?_ ‹_› (by first | exact Nat.le_refl _ | omega) | refine Below.setCell ?_ (by first | (simp; done) | (simp; omega) | omega) _))
      have BX := Blk.new wr (chA C[k]) 97
      have P1 := P.under hbx
      go_upto_region 6 with (first
        | (refine wpList_load_mid rfl 97 _ rfl b (off + k * 14) rfl (chA C[k]).toList _ hcs Try.underlying97 rfl (by kernel_rfl) ?_)
        | (refine wpList_store_row rfl 97 _ _ rfl _ _ rfl rfl 97 _ (Blk.new wr _ _).h (by kernel_rfl) (by rfl) (by kernel_rfl) ?_; rw [World.setRow_alloc_new]))
      obtain ⟨X, hX⟩ : ∃ x, x = wr.heap.size := ⟨_, rfl⟩
      have hgw := P.row.lt
      rw [← hX] at BX ⊢
      replace hX := Lib.hid hX
      generalize wr.alloc (.cells (chA C[k]) 97) = w2 at hbx BX P1 ⊢
      have x0 : w2.cell? ⟨X, 0, none⟩ = some (.int .i64 C[k].2.cell) := BX.at 0 rfl
      have HR2 := P1.row.hrow ps.length (by simp; omega) (by simp [maxLen]; omega) [] (by simp)
      replace hlen := Lib.hid hlen
      replace hnext := Lib.hid hnext
      replace he := Lib.hid he
      go_wp2_with fail
      have HP := place_yes (h := ⟨some ⟨g, 0, none⟩, ps.length⟩) HR2 C[k].2.cell p hpc he.out hf' (by have := hlen.out; omega)
      rw [hlen.out] at HP
      refine HP.mono ?_
      rintro r w4 ⟨rfl, hb4⟩
      clear HP HR2 x0
      have P4 := P1.under hb4
      have BX4 := BX.below hb4
      have hpp : (p : Int) < (ps.length : Int) := by have := hlen.out; omega
      have hpp' : p < ps.length := by have := hlen.out; omega
      have hpm : ((p : Int) == -1) = false := by first | (simp; done) | (simp; omega)
      go_upto_region 7 with (fail)
      have rK := QuietRow.range_regrown (rb_known P4.row p hpc)
      have rX := QuietRow.range_regrown (blk_range' BX4)
      have kF := fun d os => Calls.regrown_of (fits_yes (Go.Sort.grow (redrawn w4 d) os) cur[p].1 cur[p].2 C[k] k (by omega) hfit)
      clear hcs hcs0 hokk hf hf' heq hep hbl hb4 BX P1
      try simp only [Act.put]
      refine wp_region_quiet_below (by kernel_rfl) (by kernel_rfl) ?_
      iterate 13 (first
        | go_big_quiet_skip
        | (go_big_quiet_want; first
          | ((first
              | (refine QuietRow.quiet_load_arr 53 _ rfl g (p * 11) rfl (knA cur[p].1 cur[p].2) _ rK Try.underlying53 rfl (by kernel_rfl) ?_)
              | (refine QuietRow.quiet_load_arr 97 _ rfl X 0 rfl (chA C[k]) _ rX Try.underlying97 rfl (by kernel_rfl) ?_)); simp only [Act.put, List.setIfInBounds_toArray, List.set_cons_succ, List.set_cons_zero]; go_big_quiet_on)
          | (go_big_quiet_op; first | go_big_quiet_on | go_big_quiet_call (with_reducible exact kF _ _))))
      refine wpQuiet_nil ?_
      intro w5 hw'
      have hb5 := RefP.below_of_regrown hw'
      clear hw' rK rX kF
      have P5 := P4.under hb5
      have BX5 := BX4.below hb5
      clear BX4 P4 hb5
      have x0 : w5.cell? ⟨X, 0, none⟩ = some (.int .i64 C[k].2.cell) := BX5.at 0 rfl
      have x3 : w5.cell? ⟨X, 3, none⟩ = some (.int .u64 C[k].2.ver) := BX5.at 3 rfl
      have hbz : Below w5.heap.size w5 (w5.alloc (.cells (kbA C[k].2) 53)) := by (repeat (first | exact Below.refl _ _ | assumption | refine below_alloc2 ?_ (by first | exact Nat.le_refl _ | omega) _ | refine Below.drew ?_ | refine below_drewN ?_ _ | refine below_push2 ?_ ‹_› (by first | exact Nat.le_refl _ | omega) | refine Below.setCell ?_ (by first | (simp; done) | (simp; omega) | omega) _))
      have BZ := Blk.new w5 (kbA C[k].2) 53
      have P6 := P5.under hbz
      have BX6 := BX5.below hbz
      go_upto_region 10 with (refine wpList_store_row rfl 53 _ _ rfl _ _ rfl rfl 53 _ (Blk.new w5 _ _).h (by kernel_rfl) (by rfl) (by kernel_rfl) ?_; rw [World.setRow_alloc_new])
      have hgz := P5.row.lt
      have hXz := BX5.lt
      have hw5 := P5.b.size
      clear x0 x3
      obtain ⟨Z, hZ⟩ : ∃ x, x = w5.heap.size := ⟨_, rfl⟩
      rw [← hZ] at BZ ⊢
      generalize w5.alloc (.cells (kbA C[k].2) 53) = w6 at hbz BZ P6 BX6 ⊢
      have x4 : w6.cell? ⟨X, 4, none⟩ = some (.bool C[k].2.empty) := BX6.at 4 rfl
      cases hem : C[k].2.empty
      · rw [hem] at x4
        have hupd : upd k C[k].2 = (C[k].2.cell, 1048576 + (k : Int), IntKind.u64.wrap (C[k].2.ver + 1), C[k].2.node, ()) := by simp [upd, hem]
        replace hem := Lib.hid hem
        have hwk := wrap_small (n := k) (by omega)
        have hwk2 := wrap_small (n := 1048576 + k) (by omega)
        have hokk := hok _ (List.getElem_mem hlt)
        have hZ' := Lib.hid hZ
        clear hZ
        go_wp2_with (refine wpList_load_mid rfl 26 _ rfl X 6 rfl (nodeA C[k].1 C[k].2.node).toList _ (ch_node BX6) Try.underlying26 rfl (by kernel_rfl) ?_)
        refine (nclone_any [] C[k].1 C[k].2.node w6 (hokk.node.keep (Keeps.of_below P6.b)) hokk.small.1 hokk.small.2.1 hokk.small.2.2).mono ?_
        rintro r w7 ⟨⟨q', rfl, hq⟩, hb7⟩
        have hb57 := below_push2 hbz hb7 (Nat.le_refl _)
        have BZ7 := BZ.below hb7
        have z1 := BZ7.at 1 rfl
        have fz1 := BZ7.free 1
        have BZ8 : Blk (w7.setCell ⟨Z, 1, none⟩ (.int .u64 (1048576 + (k : Int)))) Z (knA q00 (C[k].2.cell, 1048576 + (k : Int), IntKind.u64.wrap (C[k].2.ver + 1), n00, ())) 53 := by
          have := BZ7.set 1 (.int .u64 (1048576 + (k : Int)))
          simp at this
          exact this
        have hb58 : Below w5.heap.size w5 (w7.setCell ⟨Z, 1, none⟩ (.int .u64 (1048576 + (k : Int)))) := hb57.setCell (p := ⟨Z, 1, none⟩) (by simpa using Nat.le_of_eq hZ'.out.symm) _
        have F78 : Fr [Z] w7 (w7.setCell ⟨Z, 1, none⟩ (.int .u64 (1048576 + (k : Int)))) := (Fr.refl _ _).set _ _ (.inl (by simp))
        have hth8 : (w7.setCell ⟨Z, 1, none⟩ (.int .u64 (1048576 + (k : Int)))).there Z 3 (nodeA q' C[k].2.node).size := there_blkE BZ8 (by simp)
        have F89 := fr_setsE (S := [Z]) (b := Z) (by simp) (nodeA q' C[k].2.node).toList 3 (w7.setCell ⟨Z, 1, none⟩ (.int .u64 (1048576 + (k : Int))))
        have BZ9 := blk_setsE (nodeA q' C[k].2.node).toList 3 _ _ BZ8
        rw [sets_kn, ← hupd] at BZ9
        have hb59 := below_setsE (Nat.le_of_eq hZ'.out.symm) (nodeA q' C[k].2.node).toList 3 _ hb58
        have hge7 := hb57.size
        have hlz := BZ.lt
        go_upto_region 12 with ((with_reducible (show wpList _ _ _ _ _ _)); refine wpList_store_mid rfl 26 _ _ rfl Z 3 (nodeA q' C[k].2.node) rfl rfl hth8 (by kernel_rfl) (by kernel_rfl) ?_; generalize (w7.setCell ⟨Z, 1, none⟩ (.int .u64 (1048576 + (k : Int)))).setCells Z 3 (nodeA q' C[k].2.node).toList = w9 at BZ9 F89 hb59 ⊢)
        have P9 := P5.under hb59
        have hq9 : NodeOk w9 (g :: T) q' (upd k C[k].2).2.2.2.1 := by
          rw [hupd]
          have h1 := node_more hq (S' := Z :: g :: T) (fun b hb => .inl (by
            rw [List.mem_range]
            rcases List.mem_cons.1 hb with e | e
            · omega
            · have := hTg b e
              have := hbz.size
              omega))
          exact node_more (h1.keep ((F78.trans F89).keeps.more (by simp))) (fun b hb => .inl (List.mem_cons_of_mem _ hb))
        have hth : w9.there g (p * 11) (knA q' (upd k C[k].2)).size := P9.row.there p 0 11 (by simpa using hpc) (by decide)
        have hP10 := P9.put p hpc (q', upd k C[k].2) hq9
        rw [← hnext.out] at hP10
        replace hupd := Lib.hid hupd
        clear F78 F89 hth8 BZ8 hb58 hb57 hq9 P9 hwk hwk2 hge7
        have P8 := hP10
        replace P8 := Lib.hid P8
        go_wp2_with (first
          | (refine wpList_load_row rfl 53 _ rfl Z rfl 53 _ (0, 0) _ (BZ9).h Try.underlying53 rfl (by kernel_rfl) ?_)
          | ((with_reducible (show wpList _ _ _ _ _ _)); refine wpList_store_mid rfl 53 _ _ rfl g (p * 11) (knA (q') (upd k C[k].2)) rfl rfl (hth) (by kernel_rfl) (by kernel_rfl) ?_; generalize (w9).setCells g (p * 11) (knA (q') (upd k C[k].2)).toList = w8 at P8 ⊢))
        go_roundg (C.length - (k + 1))
        case measure => omega
        case rel => exact ⟨k + 1, _, by omega, by omega, by go_num, P8.out⟩
      · rw [hem] at x4
        have hupd : upd k C[k].2 = (C[k].2.cell, 0, IntKind.u64.wrap (C[k].2.ver + 1), n00, ()) := by simp [upd, hem]
        have hth : w6.there g (p * 11) (knA q00 (upd k C[k].2)).size := P6.row.there p 0 11 (by simpa using hpc) (by decide)
        replace BZ : Blk w6 Z (knA q00 (upd k C[k].2)) 53 := by rw [hupd]; exact BZ
        have hP7 := P6.put p hpc (q00, upd k C[k].2) (by rw [hupd]; exact n00_ok _ _)
        rw [← hnext.out] at hP7
        replace hupd := Lib.hid hupd
        replace hem := Lib.hid hem
        replace hZ := Lib.hid hZ
        have P8 := hP7
        replace P8 := Lib.hid P8
        go_wp2_with (first
          | (refine wpList_load_row rfl 53 _ rfl Z rfl 53 _ (0, 0) _ (BZ).h Try.underlying53 rfl (by kernel_rfl) ?_)
          | ((with_reducible (show wpList _ _ _ _ _ _)); refine wpList_store_mid rfl 53 _ _ rfl g (p * 11) (knA (q00) (upd k C[k].2)) rfl rfl (hth) (by kernel_rfl) (by kernel_rfl) ?_; generalize (w6).setCells g (p * 11) (knA (q00) (upd k C[k].2)).toList = w8 at P8 ⊢))
        go_roundg (C.length - (k + 1))
        case measure => omega
        case rel => exact ⟨k + 1, _, by omega, by omega, by go_num, P8.out⟩
    · obtain rfl : k = C.length := by omega
      go_wp2_with fail
      refine bodyPost_ret (results_tmp2 rfl _ _ _) rfl ?_
      exact ⟨g, cur, rfl, hlen, P⟩
end Go.Proofs.Ytbemgfpnoeogdaa.EdP
