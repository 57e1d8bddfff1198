/-
  edit: Clear: the contract.
-/
import Derived.Test.YtbemgfpnoeogdaaEdD
namespace Go.Proofs.Ytbemgfpnoeogdaa.EdP
open Go.RowKit RefP FoP Dp
set_option linter.unusedVariables false
set_option linter.unusedSimpArgs false
def cEmp (cv : ChangeV) : ChangeV := ⟨cv.cell, cv.from_, cv.word, cv.ver, true, cv.lin, cv.node⟩
set_option maxRecDepth 100000 in
set_option maxHeartbeats 3200000 in
theorem clear_any {w0 w : World} {e o : Nat} {L : List Kn} {S : List Sp} {C : List Ch} {t : Nat} {l : List KnV} (E : EdIs w0 w e o L S C t) (K : KnIs w0 L l) (cell : Int) (hc : I64 cell) :
    Calls Try.prog 13 #[.pointer (some ⟨e, 0, none⟩), .int .i64 cell] w (StAt w0 e o L S C t l cell cEmp) := by
  obtain ⟨m, a, c, k0, n0, ca, cc, ta, tc, H⟩ := E.ex
  have hol := H.V.lts.1
  go_enter Try.func13, Try.ntmps13
  go_wp2_with fail
  refine (begin_any H K cell hc).mono ?_
  rintro r w2 ⟨cv, bit, k, n, rfl, F2, H2, hcn, hbg, hnb⟩
  have hbx : Below w2.heap.size w2 (w2.alloc (.cells (changeA q00 cv) 97)) := by (repeat (first | exact Below.refl _ _ | assumption | refine below_alloc2 ?_ (by first | exact Nat.le_refl _ | omega) _ | refine Below.drew ?_ | refine below_drewN ?_ _ | refine below_push2 ?_ ‹_› (by first | exact Nat.le_refl _ | omega) | refine Below.setCell ?_ (by first | (simp; done) | (simp; omega) | omega) _))
  have BX := Blk.new w2 (changeA q00 cv) 97
  have hlts := H2.lts
  obtain ⟨X, hX⟩ : ∃ r, r = w2.heap.size := ⟨_, rfl⟩
  go_upto_region 2 with (refine wpList_store_row rfl 97 _ _ rfl _ _ rfl rfl 97 _ (Blk.new w2 _ _).h (by kernel_rfl) (by rfl) (by kernel_rfl) ?_; rw [World.setRow_alloc_new])
  have hlx := BX.lt
  rw [← hX] at BX hbx hlx ⊢
  replace hX := Lib.hid hX
  generalize w2.alloc (.cells (changeA q00 cv) 97) = w3 at hbx BX hlx ⊢
  cases bit
  · go_wp2_with fail
    go_ret
    exact ⟨C, false, rfl, ⟨m, a, c, _, _, ca, cc, ta, tc, H2.under (hX.out ▸ hbx)⟩, .inl ⟨rfl, rfl, hnb (by simp)⟩⟩
  · have hbg' := hbg rfl
    clear hbg
    have x4 := BX.at 4 rfl
    have f4 := BX.free 4
    go_upto_region 4 with (fail)
    have F36 : Fr [X] w3 (w3.setCell ⟨X, 4, none⟩ (.bool true)) := (Fr.refl _ _).set _ _ (.inl (by simp))
    have BX6 : Blk (w3.setCell ⟨X, 4, none⟩ (.bool true)) X (chA (q00, cEmp cv)) 97 := by simpa [cEmp] using BX.set 4 (.bool true)
    generalize w3.setCell ⟨X, 4, none⟩ (.bool true) = w6 at BX6 F36 ⊢
    have H6 := H2.under (F36.below (hX.out ▸ hbx) (Nat.le_refl _) (by simp; have := hX.out; omega))
    obtain ⟨p, hpe⟩ : ∃ p : Ch, p = (q00, cEmp cv) := ⟨_, rfl⟩
    have hp : ChOk w6 (mutE e o ca ta) p := by
      subst hpe
      refine ⟨?_, ?_⟩
      · simp only [cEmp, hcn]; exact n00_ok _ _
      · simp only [cEmp, hcn]; exact ⟨by simp, by simp, by simp⟩
    rw [← hpe] at BX6
    replace hpe := Lib.hid hpe
    clear F36 BX hlts hlx x4 f4
    have hb7 : Below w6.heap.size w6 (w6.alloc (.cells (chA p) 97)).drew := ((Below.refl _ _).alloc (Nat.le_refl _) _).drew
    have H7 := H6.under hb7
    have hp7 := hp.keep (Keeps.of_below hb7)
    have hbase : w0.heap.size ≤ (w6.alloc (.cells (chA p) 97)).drew.heap.size := H7.b.size
    have hcl46 := hbg'.1
    have hel := H6.blk.lt
    obtain ⟨g, cap, w8, A⟩ := OwnV.addLit tinChange (by decide) H7.ch (Blk.new w6 (chA p) 97).drew (raw14_mk p) (by simp; omega) (by decide) hbase
    rw [show (chL C).length = C.length from List.length_map _] at A
    have hr := Lib.hid A.run
    have H9 := H7.added A hp7 hbg'.1
    have E8 := A.fr.blk H7.blk H7.ge.2.2.2.2.1
    have e1 := H6.blk.at 1 rfl
    have x0 := BX6.at 0 rfl
    have x1 := BX6.at 1 rfl
    have x2 := BX6.at 2 rfl
    have x3 := BX6.at 3 rfl
    have x4 := BX6.at 4 rfl
    have x5 := BX6.at 5 rfl
    have x6 := BX6.at 6 rfl
    have x7 := BX6.at 7 rfl
    have x8 := BX6.at 8 rfl
    have x9 := BX6.at 9 rfl
    have x10 := BX6.at 10 rfl
    have x11 := BX6.at 11 rfl
    have x12 := BX6.at 12 rfl
    have x13 := BX6.at 13 rfl
    have s1 := E8.at 1 rfl
    have g1 := E8.free 1
    replace H9 := Lib.hid H9
    clear A E8 H7 hp7 hbase hb7
    go_region_law (refine step_append_run hr.out rfl (by rfl) (by rfl) (by rfl) ?_)
    all_goals
      go_wp2_with fail
      go_ret
      exact ⟨_, true, rfl, ⟨m, a, c, _, _, _, _, ta, tc, H9.out⟩, .inr ⟨rfl, cv, q00, hbg', hcn, by rw [hpe.out]⟩⟩
end Go.Proofs.Ytbemgfpnoeogdaa.EdP
