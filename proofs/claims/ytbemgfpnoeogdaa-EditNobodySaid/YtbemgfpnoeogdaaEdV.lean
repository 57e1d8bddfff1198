/-
  The laws' View of known nodes: the contract.
-/
import Derived.Test.YtbemgfpnoeogdaaEdG
namespace Go.Proofs.Ytbemgfpnoeogdaa.EdP
open Go.RowKit RefP FoP Dp
set_option linter.unusedVariables false
set_option linter.unusedSimpArgs false
abbrev KP := NodeH × KnV
abbrev knK (p : KP) : Kn := (p.2.1, knA p.1 p.2)
abbrev kpL (ps : List KP) : List (List Value) := ps.map (fun p => (knA p.1 p.2).toList)
theorem kpL_knL (ps : List KP) : knL (ps.map knK) = kpL ps := by simp [knL, kpL]
theorem kp_at {w : World} {S : List Nat} {h : Hd} {ps : List KP} (H : HRow (rawC 11) w S h (kpL ps)) (i : Nat) (hi : i < ps.length) : ∃ b off, h.a = some ⟨b, off, none⟩ ∧ b < w.heap.size ∧ w.rangeAt b (off + i * 11) (knA ps[i].1 ps[i].2).toList := by
  obtain ⟨b, off, e, hb, hr⟩ := raw_at H i (by simpa using hi)
  exact ⟨b, off, e, hb, by simpa using hr⟩
theorem knDel_new {ps : List KP} (hd : (ps.map (·.2.1)).Nodup) (k : Nat) (hk : k < ps.length) : knDel ((ps.take k).map knK) ps[k].2.1 ++ [knK ps[k]] = (ps.take (k + 1)).map knK := by
  have e : knDel ((ps.take k).map knK) ps[k].2.1 = (ps.take k).map knK := by
    unfold knDel
    rw [List.filter_eq_self]
    intro p hp
    obtain ⟨x, hx, rfl⟩ := List.mem_map.1 hp
    obtain ⟨j, hj, rfl⟩ := List.getElem_of_mem hx
    have hjk : j < k := by rw [List.length_take] at hj; omega
    rw [List.getElem_take]
    have hne : ps[j].2.1 ≠ ps[k].2.1 := fun he => by
      have := (List.pairwise_iff_getElem.1 hd) j k (by simp; omega) (by simpa using hk) hjk
      exact this (by simpa using he)
    simpa using hne
  rw [e, List.take_succ_eq_append_getElem hk, List.map_append]
  rfl
set_option maxRecDepth 100000 in
set_option maxHeartbeats 3200000 in
theorem view19_any {w : World} {h : Hd} {ps : List KP} (H : HRow (rawC 11) w [] h (kpL ps)) (hc : ∀ p ∈ ps, cellB p.2.1 = true) (hd : (ps.map (·.2.1)).Nodup) (hl : ps.length ≤ 100) :
    Calls Try.prog 41 #[.slice h.a ps.length h.c] w fun r w' => ∃ o m, r = .returned (.pointer (some ⟨o, 0, none⟩)) ∧ VwAt w' w.heap.size o m (ps.map knK) none 0 [] 0 0 ∧ Below w.heap.size w w' := by
  go_enter Try.func41, Try.ntmps41
  go_wp2_with fail
  refine (fNew_any _).mono ?_
  rintro r w1 ⟨o, m, rfl, V1, hb1⟩
  go_wp2_with fail
  go_loopg [9] ps.length (fun gg i wr => ∃ k : Nat, k ≤ ps.length ∧ ps.length ≤ k + gg ∧ i = .int .i64 k ∧ VwAt wr w.heap.size o m ((ps.take k).map knK) none 0 [] 0 0 ∧ Below w.heap.size w wr)
  case atStart => exact ⟨0, Nat.zero_le _, by omega, rfl, V1, hb1⟩
  case round =>
    clear V1 hb1
    obtain ⟨k, hk, hkg, rfl, V, hb⟩ := hrel
    by_cases hlt : k < ps.length
    · have hlt' : (k : Int) < (ps.length : Int) := by omega
      obtain ⟨b, off, ha, hbl, hcs0⟩ := kp_at H k hlt
      have hcs := raw_keep hcs0 hb hbl
      obtain ⟨ha', hc'⟩ := h
      simp only at ha
      subst ha
      have hck := hc _ (List.getElem_mem hlt)
      have hnew := knDel_new hd k hlt
      have hbx : Below wr.heap.size wr (wr.alloc (.cells (knA ps[k].1 ps[k].2) 53)) := by (repeat (first | exact Below.refl _ _ | assumption | refine below_alloc2 ?_ (by first | exact Nat.le_refl _ | omega) _ | refine Below.drew ?_ | refine below_drewN ?_ _ | refine below_push2 ?_ ‹_› (by first | exact Nat.le_refl _ | omega) | refine Below.setCell ?_ (by first | (simp; done) | (simp; omega) | omega) _))
      have BX := Blk.new wr (knA ps[k].1 ps[k].2) 53
      have V2 := V.under hbx
      have hlk : ((ps.take k).map knK).length < 100000 := by rw [List.length_map, List.length_take]; omega
      replace hnew := Lib.hid hnew
      go_upto_region 5 with (first
        | (refine wpList_load_mid rfl 53 _ rfl b (off + k * 11) rfl (knA ps[k].1 ps[k].2).toList _ hcs Try.underlying53 rfl (by kernel_rfl) ?_)
        | (refine wpList_store_row rfl 53 _ _ rfl _ _ rfl rfl 53 _ (Blk.new wr _ _).h (by kernel_rfl) (by rfl) (by kernel_rfl) ?_; rw [World.setRow_alloc_new]))
      have hlx := BX.lt
      obtain ⟨X, hX⟩ : ∃ x, x = wr.heap.size := ⟨_, rfl⟩
      have hB2 := below_push2 hb hbx (Nat.le_refl _)
      rw [← hX] at BX ⊢
      replace hX := Lib.hid hX
      generalize wr.alloc (.cells (knA ps[k].1 ps[k].2) 53) = w2 at hbx BX V2 hB2 hlx ⊢
      go_wp2_with (refine wpList_load_row rfl 53 _ rfl X rfl 53 _ (0, 0) _ BX.h Try.underlying53 rfl (by kernel_rfl) ?_)
      refine (learn_any V2 ps[k].2.1 (knA ps[k].1 ps[k].2) rfl (knA_one _ _) hck hlk).mono ?_
      rintro r w3 ⟨rfl, V3, F3⟩
      have hB3 := F3.below hB2 (Nat.le_refl _) (by simpa using V.lo.2.1)
      rw [hnew.out] at V3
      go_wp2_with fail
      go_roundg (ps.length - (k + 1))
      case measure => omega
      case rel => exact ⟨k + 1, by omega, by omega, by go_num, V3, hB3⟩
    · obtain rfl : k = ps.length := by omega
      rw [List.take_length] at V
      go_wp2_with fail
      go_ret
      exact ⟨o, m, rfl, V, hb⟩
end Go.Proofs.Ytbemgfpnoeogdaa.EdP
