/-
  edit: Set: the contract.
-/
import Derived.Test.YtbemgfpnoeogdaaEdC
import Derived.BigRegion
import Derived.Deep.RegionLaw
namespace Go.Proofs.Ytbemgfpnoeogdaa.EdP
open Go.RowKit RefP FoP Dp
set_option linter.unusedVariables false
set_option linter.unusedSimpArgs false
/-- cells of a block behind a store of some -/
def setsE (cs : Array Value) : Nat → List Value → Array Value
  | _, [] => cs
  | o, v :: r => setsE (cs.setIfInBounds o v) (o + 1) r
theorem blk_setsE {b : Nat} {T : TypeId} : ∀ (vs : List Value) (o : Nat) (w : World) (cs : Array Value), Blk w b cs T → Blk (w.setCells b o vs) b (setsE cs o vs) T
  | [], _, _, _, h => h
  | v :: r, o, w, cs, h => blk_setsE r (o + 1) _ _ (h.set o v)
theorem fr_setsE {S : List Nat} {b : Nat} (hb : b ∈ S) : ∀ (vs : List Value) (o : Nat) (w : World), Fr S w (w.setCells b o vs)
  | [], _, _ => Fr.refl _ _
  | v :: r, o, w => ((Fr.refl _ _).set _ _ (.inl hb)).trans (fr_setsE hb r (o + 1) _)
theorem below_setsE {B b : Nat} {w0 : World} (hb : B ≤ b) : ∀ (vs : List Value) (o : Nat) (w : World), Below B w0 w → Below B w0 (w.setCells b o vs)
  | [], _, _, h => h
  | v :: r, o, w, h => below_setsE hb r (o + 1) _ (h.setCell (p := ⟨b, o, none⟩) hb v)
theorem there_blkE {w : World} {b o n : Nat} {cs : Array Value} {T : TypeId} (h : Blk w b cs T) (hn : o + n ≤ cs.size) : w.there b o n := fun j hj => by
  refine ⟨?_, h.free _⟩
  rw [h.at (o + j) (Array.getElem?_eq_getElem (show o + j < cs.size by omega))]; rfl
def cNode (cv : ChangeV) (x : NodeV) (lin : Bool) : ChangeV := ⟨cv.cell, cv.from_, cv.word, cv.ver, cv.empty, lin, x⟩
theorem sets_ch (q q' : NodeH) (cv : ChangeV) (x : NodeV) : setsE (changeA q cv) 6 (nodeA q' x).toList = changeA q' (cNode cv x cv.lin) := by
  simp [setsE, cNode]
/-- a change more, or none -/
def StepIs (C : List Ch) (l : List KnV) (T : List Sp) (cell : Int) (f : ChangeV → ChangeV) (C' : List Ch) (bit : Bool) : Prop :=
  (bit = false ∧ C' = C ∧ ∀ cv, ¬ BgIs C l T cell cv) ∨ (bit = true ∧ ∃ cv q, BgIs C l T cell cv ∧ cv.node = n00 ∧ C' = C ++ [(q, f cv)])
/-- what Set and Clear answer -/
def StAt (w0 : World) (e o : Nat) (L : List Kn) (S : List Sp) (C : List Ch) (t : Nat) (l : List KnV) (cell : Int) (f : ChangeV → ChangeV) (r : Ending) (w' : World) : Prop :=
  ∃ C' bit, r = .returned (.bool bit) ∧ EdIs w0 w' e o L S C' t ∧ StepIs C l (S.take t) cell f C' bit
theorem raw14_mk {w : World} {S : List Nat} (p : Ch) : (rawC 14).rep w S (chA p).toList (chA p).toList := ⟨rfl, rfl, fun v hv => by
  simp at hv
  rcases hv with e | e | e | e | e | e | e | e | e | e | e | e | e | e <;> subst e <;> rfl⟩
set_option maxRecDepth 100000 in
set_option maxHeartbeats 3200000 in
theorem set_any {w0 w : World} {e o : Nat} {L : List Kn} {S : List Sp} {C : List Ch} {t : Nat} {l : List KnV} (E : EdIs w0 w e o L S C t) (K : KnIs w0 L l) (cell : Int) (hc : I64 cell) (q : NodeH) (x : NodeV) (hx : NodeOk w0 [] q x) (hs : SmallN x) (lin : Bool) :
    Calls Try.prog 12 #[.pointer (some ⟨e, 0, none⟩), .int .i64 cell, .agg (nodeA q x), .bool lin] w (StAt w0 e o L S C t l cell (fun cv => cNode cv x lin)) := by
  obtain ⟨m, a, c, k0, n0, ca, cc, ta, tc, H⟩ := E.ex
  have hb : Below w.heap.size w (w.alloc (.cells (nodeA q x) 26)) := by (repeat (first | exact Below.refl _ _ | assumption | refine below_alloc2 ?_ (by first | exact Nat.le_refl _ | omega) _ | refine Below.drew ?_ | refine below_drewN ?_ _ | refine below_push2 ?_ ‹_› (by first | exact Nat.le_refl _ | omega) | refine Below.setCell ?_ (by first | (simp; done) | (simp; omega) | omega) _))
  have BN := Blk.new w (nodeA q x) 26
  have H1 := H.under hb
  have hol := H.V.lts.1
  have hz := BN.lt
  go_enter Try.func12, Try.ntmps12
  go_upto_region 1 with (fail)
  obtain ⟨N0, hN0⟩ : ∃ r, r = w.heap.size := ⟨_, rfl⟩
  rw [← hN0] at BN hz ⊢
  replace hN0 := Lib.hid hN0
  generalize w.alloc (.cells (nodeA q x) 26) = w1 at hb BN H1 hz ⊢
  go_wp2_with fail
  refine (begin_any H1 K cell hc).mono ?_
  rintro r w2 ⟨cv, bit, k, n, rfl, F2, H2, hcn, hbg, hnb⟩
  have BN2 := F2.blk BN (by have := hN0.out; simp; omega)
  have hbx : Below w2.heap.size w2 (w2.alloc (.cells (changeA q00 cv) 97)) := by (repeat (first | exact Below.refl _ _ | assumption | refine below_alloc2 ?_ (by first | exact Nat.le_refl _ | omega) _ | refine Below.drew ?_ | refine below_drewN ?_ _ | refine below_push2 ?_ ‹_› (by first | exact Nat.le_refl _ | omega) | refine Below.setCell ?_ (by first | (simp; done) | (simp; omega) | omega) _))
  have BX := Blk.new w2 (changeA q00 cv) 97
  have BN3 := BN2.below hbx
  have hlts := H2.lts
  obtain ⟨X, hX⟩ : ∃ r, r = w2.heap.size := ⟨_, rfl⟩
  go_upto_region 2 with (refine wpList_store_row rfl 97 _ _ rfl _ _ rfl rfl 97 _ (Blk.new w2 _ _).h (by kernel_rfl) (by rfl) (by kernel_rfl) ?_; rw [World.setRow_alloc_new])
  have hlx := BX.lt
  rw [← hX] at BX hbx hlx ⊢
  replace hX := Lib.hid hX
  generalize w2.alloc (.cells (changeA q00 cv) 97) = w3 at hbx BX BN3 hlx ⊢
  cases bit
  · go_wp2_with fail
    go_ret
    exact ⟨C, false, rfl, ⟨m, a, c, _, _, ca, cc, ta, tc, H2.under (hX.out ▸ hbx)⟩, .inl ⟨rfl, rfl, hnb (by simp)⟩⟩
  · have hbg' := hbg rfl
    clear hbg
    have hx3 := hx.keep (Keeps.of_below (S := []) (below_push2 H2.b (hX.out ▸ hbx) (Nat.le_refl _)))
    go_wp2_with (refine wpList_load_row rfl 26 _ rfl N0 rfl 26 _ (0, 0) _ BN3.h Try.underlying26 rfl (by kernel_rfl) ?_)
    refine (nclone_any [] q x w3 hx3 hs.1 hs.2.1 hs.2.2).mono ?_
    rintro r w4 ⟨⟨q', rfl, hn⟩, hb4⟩
    have BX4 := BX.below hb4
    have hth : w4.there X 6 (nodeA q' x).size := there_blkE BX4 (by simp)
    have BX5 := blk_setsE (nodeA q' x).toList 6 _ _ BX4
    rw [sets_ch] at BX5
    have F45 := fr_setsE (S := [X]) (b := X) (by simp) (nodeA q' x).toList 6 w4
    go_upto_region 4 with ((with_reducible (show wpList _ _ _ _ _ _)); refine wpList_store_mid rfl 26 _ _ rfl X 6 (nodeA q' x) rfl rfl hth (by kernel_rfl) (by kernel_rfl) ?_; generalize w4.setCells X 6 (nodeA q' x).toList = w5 at BX5 F45 ⊢; have x5 := BX5.at 5 rfl; have f5 := BX5.free 5)
    have F56 : Fr [X] w5 (w5.setCell ⟨X, 5, none⟩ (.bool lin)) := (Fr.refl _ _).set _ _ (.inl (by simp))
    have BX6 : Blk (w5.setCell ⟨X, 5, none⟩ (.bool lin)) X (chA (q', cNode cv x lin)) 97 := by simpa [cNode] using BX5.set 5 (.bool lin)
    generalize w5.setCell ⟨X, 5, none⟩ (.bool lin) = w6 at BX6 F56 ⊢
    have F46 := F45.trans F56
    have hb24 : Below w2.heap.size w2 w4 := below_push2 (hX.out ▸ hbx) hb4 (by have := hbx.size; omega)
    have H6 := H2.under (F46.below hb24 (Nat.le_refl _) (by simp; have := hX.out; omega))
    obtain ⟨p, hpe⟩ : ∃ p : Ch, p = (q', cNode cv x lin) := ⟨_, rfl⟩
    have hp : ChOk w6 (mutE e o ca ta) p := by
      subst hpe
      refine ⟨node_more ((node_more hn (S' := X :: mutE e o ca ta) (fun b hb => .inl ?_)).keep (F46.keeps.more (by simp))) (fun b hb => .inl (List.mem_cons_of_mem _ hb)), hs⟩
      rcases List.mem_cons.1 hb with h | h
      · simp; omega
      · have := hlts b h
        have := hX.out
        simp; omega
    rw [← hpe] at BX6
    replace hpe := Lib.hid hpe
    clear hx3 hth F45 F56 F46 hb24 BX4 hn BX5 hb4 BX BN3 hx H1 BN2 BN hlts hb hz hlx
    have hb7 : Below w6.heap.size w6 (w6.alloc (.cells (chA p) 97)).drew := ((Below.refl _ _).alloc (Nat.le_refl _) _).drew
    have H7 := H6.under hb7
    have hp7 := hp.keep (Keeps.of_below hb7)
    have hbase : w0.heap.size ≤ (w6.alloc (.cells (chA p) 97)).drew.heap.size := H7.b.size
    have hcl46 := hbg'.1
    have hel := H6.blk.lt
    obtain ⟨g, cap, w8, A⟩ := OwnV.addLit tinChange (by decide) H7.ch (Blk.new w6 (chA p) 97).drew (raw14_mk p) (by simp; omega) (by decide) hbase
    rw [show (chL C).length = C.length from List.length_map _] at A
    have hr := Lib.hid A.run
    have H9 := H7.added A hp7 hbg'.1
    have E8 := A.fr.blk H7.blk H7.ge.2.2.2.2.1
    have e1 := H6.blk.at 1 rfl
    have x0 := BX6.at 0 rfl
    have x1 := BX6.at 1 rfl
    have x2 := BX6.at 2 rfl
    have x3 := BX6.at 3 rfl
    have x4 := BX6.at 4 rfl
    have x5 := BX6.at 5 rfl
    have x6 := BX6.at 6 rfl
    have x7 := BX6.at 7 rfl
    have x8 := BX6.at 8 rfl
    have x9 := BX6.at 9 rfl
    have x10 := BX6.at 10 rfl
    have x11 := BX6.at 11 rfl
    have x12 := BX6.at 12 rfl
    have x13 := BX6.at 13 rfl
    have s1 := E8.at 1 rfl
    have g1 := E8.free 1
    replace H9 := Lib.hid H9
    clear A E8 H7 hp7 hbase hb7
    go_region_law (refine step_append_run hr.out rfl (by rfl) (by rfl) (by rfl) ?_)
    all_goals
      go_wp2_with fail
      go_ret
      exact ⟨_, true, rfl, ⟨m, a, c, _, _, _, _, ta, tc, H9.out⟩, .inr ⟨rfl, cv, q', hbg', hcn, by rw [hpe.out]⟩⟩
end Go.Proofs.Ytbemgfpnoeogdaa.EdP
