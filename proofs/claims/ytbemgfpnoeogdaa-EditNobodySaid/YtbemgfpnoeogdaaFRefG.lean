/-
  The document's views: Cells: contract.
-/
import Derived.Test.YtbemgfpnoeogdaaFRefF
namespace Go.Proofs.Ytbemgfpnoeogdaa.FoP
open Go.RowKit RefP Go.Maps Dp
set_option linter.unusedVariables false
set_option linter.unusedSimpArgs false
theorem nodup_len : ∀ (l m : List Int), l.Nodup → l ⊆ m → l.length ≤ m.length
  | [], _, _, _ => Nat.zero_le _
  | x :: t, m, hn, hs => by
    have h1 := List.nodup_cons.1 hn
    have hx : x ∈ m := hs (List.mem_cons_self ..)
    have := nodup_len t (m.erase x) h1.2 (fun y hy => (List.mem_erase_of_ne (fun e => h1.1 (by rw [← e]; exact hy))).2 (hs (List.mem_cons_of_mem _ hy)))
    rw [List.length_erase_of_mem hx] at this
    have := List.length_pos_of_mem hx
    rw [List.length_cons]; omega
theorem infoInt : (Try.prog.info? 3).map (fun i => (i.zero, i.size, i.bytes)) = some (some (.int .i64 0), 1, 8) := by kernel_rfl
theorem tinInt : TIn Try.prog 24 3 i64C.k 8 := tin_mk Try.underlying24 infoInt (by simp [Value.cells]; rfl)
abbrev OwnI (w : World) (base : Nat) (a : Option Addr) (c : Nat) (l : List Int) : Prop := OwnV i64C w [] w base 3 a c l
theorem OwnI.below {w w' : World} {base : Nat} {a : Option Addr} {c : Nat} {l : List Int} (h : OwnI w base a c l) (hb : Below w.heap.size w w') : OwnI w' base a c l := (OwnV.below h hb).rep (fun _ _ h => h)
def cellsTo (L : List Kn) (k : Nat) : List Int := ((List.range k).filter (fun n : Nat => (knAt L (n : Int)).isSome)).map (fun n : Nat => (n : Int))
def cellsL (L : List Kn) : List Int := cellsTo L 8192
theorem cellsTo_no {L : List Kn} {k : Nat} (h : knAt L (k : Int) = none) : cellsTo L (k + 1) = cellsTo L k := by
  unfold cellsTo
  rw [List.range_succ, List.filter_append]
  simp [h]
theorem cellsTo_yes {L : List Kn} {k : Nat} {c : Array Value} (h : knAt L (k : Int) = some c) : cellsTo L (k + 1) = cellsTo L k ++ [(k : Int)] := by
  unfold cellsTo
  rw [List.range_succ, List.filter_append]
  simp [h]
theorem cellsTo_le (L : List Kn) (k : Nat) : (cellsTo L k).length ≤ L.length := by
  unfold cellsTo
  have h1 : ((List.range k).filter (fun n : Nat => (knAt L (n : Int)).isSome)).map (fun n : Nat => (n : Int)) ⊆ L.map (·.1) := by
    intro x hx
    obtain ⟨n, hn, rfl⟩ := List.mem_map.1 hx
    have hs := (List.mem_filter.1 hn).2
    unfold knAt at hs
    rw [Option.isSome_map] at hs
    obtain ⟨p, hp⟩ := Option.isSome_iff_exists.1 hs
    have := List.find?_some hp
    exact List.mem_map.2 ⟨p, List.mem_of_find?_eq_some hp, by simpa using this⟩
  have h2 : (((List.range k).filter (fun n : Nat => (knAt L (n : Int)).isSome)).map (fun n : Nat => (n : Int))).Nodup := by
    refine List.Pairwise.map _ ?_ (List.Pairwise.filter _ List.nodup_range)
    intro a b h e
    exact h (Int.ofNat.inj e)
  have := nodup_len _ _ h2 h1
  simpa using this
theorem cellsTo_mono {L : List Kn} {j k : Nat} (h : j ≤ k) (hl : (cellsTo L j).length = L.length) : cellsTo L k = cellsTo L j := by
  induction k with
  | zero =>
    obtain rfl : j = 0 := by omega
    rfl
  | succ k ih =>
    by_cases e : j = k + 1
    · rw [e]
    · have ih := ih (by omega)
      cases q : knAt L (k : Int) with
      | none => rw [cellsTo_no q, ih]
      | some c =>
        have h1 := cellsTo_yes q
        have h2 := cellsTo_le L (k + 1)
        rw [h1, ih, List.length_append, hl] at h2
        simp at h2
        omega
set_option maxRecDepth 100000 in
set_option maxHeartbeats 3200000 in
theorem rcells_any {w : World} {kh sh : Hd} {L : List Kn} {S : List Sp} (H : RV w kh sh L S) (k0 n0 : Int) : Calls Try.prog 57 #[.agg (rvA kh sh L.length S.length k0 n0)] w fun e w' => ∃ a c, e = .returned (.slice a (cellsL L).length c) ∧ Below w.heap.size w w' ∧ OwnI w' w.heap.size a c (cellsL L) := by
  have hb : Below w.heap.size w (w.alloc (.cells (rvA kh sh L.length S.length k0 n0) 58)) := by (repeat (first | exact Below.refl _ _ | assumption | refine below_alloc2 ?_ (by first | exact Nat.le_refl _ | omega) _ | refine Below.drew ?_ | refine below_drewN ?_ _ | refine below_push2 ?_ ‹_› (by first | exact Nat.le_refl _ | omega) | refine Below.setCell ?_ (by first | (simp; done) | (simp; omega) | omega) _))
  have BV := Blk.new w (rvA kh sh L.length S.length k0 n0) 58
  have hll := H.ll
  go_enter Try.func57, Try.ntmps57
  go_upto_region 1 with (fail)
  generalize w.alloc (.cells (rvA kh sh L.length S.length k0 n0) 58) = w1 at hb BV ⊢
  have H1 := H.below hb
  go_wp2_with fail
  go_loopg [3, 4] 8192 (fun gg v3 i wr => ∃ (k : Nat) (a : Option Addr) (c : Nat), k ≤ 8192 ∧ 8192 ≤ k + gg ∧ i = .int .i64 k ∧ v3 = .slice a (cellsTo L k).length c ∧ Below w1.heap.size w1 wr ∧ OwnI wr w1.heap.size a c (cellsTo L k))
  case atStart => exact ⟨0, none, 0, Nat.zero_le _, by omega, rfl, rfl, Below.refl _ _, OwnV.nil _ _ _ _ _⟩
  case round =>
    obtain ⟨k, a, c, hk, hkg, rfl, rfl, hb2, O⟩ := hrel
    have BW := BV.below hb2
    have hbb := below_push2 hb hb2 (Nat.le_refl _)
    have x0 := BW.at 0 rfl
    have hle := cellsTo_le L k
    by_cases hlt : k < 8192
    · have hlt' : (k : Int) < 8192 := by omega
      by_cases hf : (cellsTo L k).length < L.length
      · have hf' : ((cellsTo L k).length : Int) < (L.length : Int) := by omega
        have hN : Hid (knAt L (k : Int) = none → cellsTo L (k + 1) = cellsTo L k) := Lib.hid cellsTo_no
        have hY : Hid (∀ c, knAt L (k : Int) = some c → cellsTo L (k + 1) = cellsTo L k ++ [(k : Int)]) := Lib.hid (fun c => cellsTo_yes)
        generalize cellsTo L k = l at O hN hY hf hf' hle
        go_wp2_with (refine wpList_load_row rfl 58 _ rfl w.heap.size rfl 58 _ (0, 0) _ BW.h Try.underlying58 rfl (by kernel_rfl) ?_)
        refine (rfind_any (H1.below hb2) k0 n0 k).mono ?_
        rintro e w2 ⟨r, rfl, hr, hb3⟩
        have O3 := OwnI.below O hb3
        have hb4 := below_push2 hb2 hb3 (Nat.le_refl _)
        clear x0 BW O
        rcases hr with ⟨rfl, h⟩ | ⟨i, hi, rfl, _, h⟩
        · replace h := Lib.hid h
          go_wp2_with fail
          go_roundg (8192 - (k + 1))
          case measure => omega
          case rel => exact ⟨k + 1, a, c, by omega, by omega, by go_num, by rw [hN.out h.out], hb4, by rw [hN.out h.out]; exact O3⟩
        · replace h := Lib.hid h
          have hbx : Below w2.heap.size w2 (w2.alloc (.cells #[.int .i64 k] 3)) := (Below.refl _ _).alloc (Nat.le_refl _) _
          obtain ⟨g, d, w5, A⟩ := OwnV.addLit tinInt (by decide) (OwnI.below O3 hbx) (Blk.new w2 #[.int .i64 k] 3) (x := (k : Int)) ⟨rfl, wf_i64 ⟨by omega, by omega⟩⟩ (by omega) (by decide) (by have := hbx.size; have := hb4.size; omega)
          have hr := Lib.hid A.run
          have hbW : Below w1.heap.size w1 w5 := A.fr.below (below_push2 hb4 hbx (Nat.le_refl _)) (Nat.le_refl _) (fun b hb => (OwnV.lt O3 b hb).1)
          have O5 : OwnI w5 w1.heap.size (some ⟨g, 0, none⟩) d (l ++ [(k : Int)]) := A.own.rep (wr' := w5) (S' := []) (fun _ _ h => h)
          clear A O3
          go_wp2_with (at_builtin; refine wpList_append_run hr.out rfl (by rfl) (by rfl) (by rfl) ?_)
          all_goals
            go_roundg (8192 - (k + 1))
            case measure => omega
            case rel => exact ⟨k + 1, _, _, by omega, by omega, by go_num, by rw [hY.out _ h.out, List.length_append]; rfl, hbW, by rw [hY.out _ h.out]; exact O5⟩
      · have hf' : ¬ ((cellsTo L k).length : Int) < (L.length : Int) := by omega
        have hE : Hid (cellsL L = cellsTo L k) := Lib.hid (cellsTo_mono (by omega) (by omega))
        generalize cellsTo L k = l at O hE hf hf' hle
        go_wp2_with fail
        go_ret
        exact ⟨a, c, by rw [hE.out]; rfl, hbb, by rw [hE.out]; exact OwnV.lower O hb.size⟩
    · obtain rfl : k = 8192 := by omega
      have hE : Hid (cellsL L = cellsTo L 8192) := Lib.hid rfl
      generalize cellsTo L 8192 = l at O hE hle
      go_wp2_with fail
      go_ret
      exact ⟨a, c, by rw [hE.out]; rfl, hbb, by rw [hE.out]; exact OwnV.lower O hb.size⟩
end Go.Proofs.Ytbemgfpnoeogdaa.FoP
