/-
  edit: Changes: the contract.
-/
import Derived.Test.YtbemgfpnoeogdaaEdF
import Derived.Test.YtbemgfpnoeogdaaEdR
namespace Go.Proofs.Ytbemgfpnoeogdaa.EdP
open Go.RowKit RefP FoP Dp
set_option linter.unusedVariables false
set_option linter.unusedSimpArgs false
theorem mk_changes (n : Nat) (hn : n ≤ 60000) (w : World) : (Instr.makeSlice 33 (.int .i64 (n : Int)) (.int .i64 (n : Int))).run Try.prog w = .ok (.slice (some ⟨w.heap.size, 0, none⟩) n n) (w.alloc (.cells (madeCells chz (n * 14)) 97)) := by
  obtain ⟨i0, hi, hz0, hz1, hz2⟩ := info_parts' infoChange
  have hb' : (i0.bytes : Int) * (n : Int) ≤ 281474976710656 := by rw [hz2]; omega
  have hr := run_make (P := Try.prog) w 33 97 i0 _ Try.underlying33 hi hz0 .i64 .i64 n n (by omega) (by omega) hb' (by omega)
  simp only [Int.toNat_natCast, hz1] at hr
  rw [hr]
  simp [Value.cells]
theorem lt14 {r : Nat} (h : r < 14) : r = 0 ∨ r = 1 ∨ r = 2 ∨ r = 3 ∨ r = 4 ∨ r = 5 ∨ r = 6 ∨ r = 7 ∨ r = 8 ∨ r = 9 ∨ r = 10 ∨ r = 11 ∨ r = 12 ∨ r = 13 := by omega
/-- the node's cells of an element of a row of changes -/
theorem rb_node {w : World} {g : Nat} {T : TypeId} {C : List Ch} (R : RB 14 w g T (chL C)) (k : Nat) (hk : k < C.length) : w.rangeAt g (k * 14 + 6) (nodeA C[k].1 C[k].2.node).toList := fun j v hv => by
  have hj : j < 8 := (List.getElem?_eq_some_iff.1 hv).1
  have h := R.range k (by simpa using hk)
  have e : (chL C)[k]'(by simpa using hk) = (chA C[k]).toList := by simp
  rw [e] at h
  have := h (6 + j) v (by
    have e' : j = 0 ∨ j = 1 ∨ j = 2 ∨ j = 3 ∨ j = 4 ∨ j = 5 ∨ j = 6 ∨ j = 7 := by omega
    rcases e' with e | e | e | e | e | e | e | e <;> subst e <;> exact hv)
  rw [← Nat.add_assoc] at this
  exact this
/-- .. written -/
theorem rb_setNode {w : World} {g : Nat} {T : TypeId} {C : List Ch} (R : RB 14 w g T (chL C)) (k : Nat) (hk : k < C.length) (q : NodeH) : RB 14 (w.setCells g (k * 14 + 6) (nodeA q C[k].2.node).toList) g T (chL (C.set k (q, C[k].2))) := by
  have := R.set k 6 (nodeA q C[k].2.node).toList (chA (q, C[k].2)).toList (by simpa using hk) (by simp) rfl (raw14_mk (w := w) (S := []) (q, C[k].2)).2.2 (fun j hj => by
    have e' : j = 0 ∨ j = 1 ∨ j = 2 ∨ j = 3 ∨ j = 4 ∨ j = 5 ∨ j = 6 ∨ j = 7 := by simp at hj; omega
    rcases e' with e | e | e | e | e | e | e | e <;> subst e <;> rfl) (fun j hj => by
    have e : (chL C)[k]'(by simpa using hk) = (chA C[k]).toList := by simp
    rw [e]
    by_cases h14 : j < 14
    · have hj' : j < 6 := by simp at hj; omega
      have e' : j = 0 ∨ j = 1 ∨ j = 2 ∨ j = 3 ∨ j = 4 ∨ j = 5 := by omega
      rcases e' with e | e | e | e | e | e <;> subst e <;> rfl
    · rw [List.getElem?_eq_none (by simp; omega), List.getElem?_eq_none (by simp; omega)])
  rw [show chL (C.set k (q, C[k].2)) = (chL C).set k (chA (q, C[k].2)).toList by simp [chL, List.map_set]]
  exact this
/-- in the loop over a copy of the changes -/
structure CL (w wr : World) (g : Nat) (C Ck : List Ch) : Prop where
  b : Below w.heap.size w wr
  row : RB 14 wr g 97 (chL Ck)
  eq : Ck.map (·.2) = C.map (·.2)
  ok : ∀ p ∈ Ck, ChOk wr [g] p
  ge : w.heap.size ≤ g
set_option maxRecDepth 100000 in
set_option maxHeartbeats 3200000 in
theorem changes_any {w0 w : World} {e o : Nat} {L : List Kn} {S : List Sp} {C : List Ch} {t : Nat} (E : EdIs w0 w e o L S C t) :
    Calls Try.prog 14 #[.pointer (some ⟨e, 0, none⟩)] w fun r w' => ∃ g C', r = .returned (.slice (some ⟨g, 0, none⟩) C.length C.length) ∧ CL w w' g C C' := by
  obtain ⟨m, a, c, k0, n0, ca, cc, ta, tc, H⟩ := E.ex
  have hcl := H.cl
  have hmk := mk_changes C.length (by omega)
  have e1 := H.blk.at 1 rfl
  go_enter Try.func14, Try.ntmps14
  go_wp2_with fail
  refine (nobody_some H.blk).mono ?_
  rintro r w2 ⟨rfl, rfl⟩
  go_upto_region 4 with (fail)
  have hbA : Below w2.heap.size w2 (w2.alloc (.cells (madeCells chz (C.length * 14)) 97)) := by (repeat (first | exact Below.refl _ _ | assumption | refine below_alloc2 ?_ (by first | exact Nat.le_refl _ | omega) _ | refine Below.drew ?_ | refine below_drewN ?_ _ | refine below_push2 ?_ ‹_› (by first | exact Nat.le_refl _ | omega) | refine Below.setCell ?_ (by first | (simp; done) | (simp; omega) | omega) _))
  have BP := Blk.new w2 (madeCells chz (C.length * 14)) 97
  have H1 := H.under hbA
  have hlts := H.lts
  have HR := (H.row.more (S' := [w2.heap.size]) (by simp)).keep (Keeps.of_below hbA)
  obtain ⟨g, hg⟩ : ∃ b, b = w2.heap.size := ⟨_, rfl⟩
  rw [← hg] at BP HR ⊢
  replace hg := Lib.hid hg
  generalize w2.alloc (.cells (madeCells chz (C.length * 14)) 97) = w1 at hbA BP H1 HR ⊢
  have hll : (chL C).length = C.length := List.length_map _
  obtain ⟨w3, hrc, CK⟩ := run_copy_hrow (P := Try.prog) (dCap := C.length) 33 33 97 (by decide) Try.underlying33 (show _ = some 14 by kernel_rfl) HR C.length (by omega) BP (made_size _ _)
  rw [List.take_of_length_le (by omega)] at CK
  rw [hll] at hrc
  have hb3 : Below w2.heap.size w2 w3 := CK.fr.below hbA (Nat.le_refl _) (by simp; exact Nat.le_of_eq hg.out.symm)
  have R3 := RB.of_copy CK
  have hok3 : ∀ p ∈ C, ChOk w3 [g] p := fun p hp => by
    have := (H.node p hp).more (M' := g :: mutE e o ca ta) (fun b hb => by
      rcases List.mem_cons.1 hb with h | h
      · exact .inr (by rw [h, hg.out]; exact Nat.le_refl _)
      · exact .inl h)
    exact (this.keep (Keeps.of_below hb3)).more (fun b hb => .inl (by simp at hb; subst hb; simp))
  have CL0 : CL w2 w3 g C C := ⟨hb3, R3, rfl, hok3, by rw [hg.out]; exact Nat.le_refl _⟩
  have e1' := H1.blk.at 1 rfl
  replace hrc := Lib.hid hrc
  clear hbA BP HR CK hb3 R3 hok3 hmk hlts
  go_upto_region 5 with (refine wpList_copy_eq (o := ⟨some 18, _, _, _, _, _⟩) hrc.out rfl (by rfl) (by rfl) (by rfl) ?_)
  clear hrc e1' e1 H1
  go_wp2_with fail
  go_loopg [21] C.length (fun gg i wr => ∃ (k : Nat) (Ck : List Ch), k ≤ C.length ∧ C.length ≤ k + gg ∧ i = .int .i64 k ∧ CL w2 wr g C Ck)
  case atStart => exact ⟨0, C, Nat.zero_le _, by omega, rfl, CL0⟩
  case round =>
    clear CL0
    obtain ⟨k, Ck, hk, hkg, rfl, P⟩ := hrel
    have hlen : Ck.length = C.length := by simpa using congrArg List.length P.eq
    by_cases hlt : k < C.length
    · have hlt' : (k : Int) < (C.length : Int) := by omega
      have hlk : k < Ck.length := by omega
      have hrn := rb_node P.row k hlk
      have hok := P.ok _ (List.getElem_mem hlk)
      replace hlen := Lib.hid hlen
      go_wp2_with (refine wpList_load_mid rfl 26 _ rfl g (k * 14 + 6) rfl (nodeA Ck[k].1 Ck[k].2.node).toList _ hrn Try.underlying26 rfl (by kernel_rfl) ?_)
      refine (nclone_any _ Ck[k].1 Ck[k].2.node wr hok.node hok.small.1 hok.small.2.1 hok.small.2.2).mono ?_
      rintro r w5 ⟨⟨q, rfl, hn⟩, hb5⟩
      have R5 := P.row.below hb5
      have hgl := P.row.lt
      have hth : w5.there g (k * 14 + 6) (nodeA q Ck[k].2.node).size := R5.there k 6 8 (by simpa using hlk) (by decide)
      have F6 := fr_setsE (S := [g]) (b := g) (by simp) (nodeA q Ck[k].2.node).toList (k * 14 + 6) w5
      have P6 : CL w2 (w5.setCells g (k * 14 + 6) (nodeA q Ck[k].2.node).toList) g C (Ck.set k (q, Ck[k].2)) := by
        refine ⟨below_setsE P.ge _ _ _ (below_push2 P.b hb5 (Nat.le_refl _)), rb_setNode R5 k hlk q, ?_, fun p hp => ?_, P.ge⟩
        · rw [List.map_set, ← P.eq]
          rw [show (q, Ck[k].2).2 = (Ck.map (·.2))[k]'(by simpa using hlk) by simp]
          exact List.set_getElem_self _
        · rcases List.mem_or_eq_of_mem_set hp with h | h
          · exact ((P.ok p h).keep (Keeps.of_below hb5)).keep F6.keeps
          · subst h
            exact ⟨(node_more hn (fun b hb => .inl (by simp at hb ⊢; omega))).keep F6.keeps, hok.small⟩
      replace P6 := Lib.hid P6
      go_wp2_with ((with_reducible (show wpList _ _ _ _ _ _)); refine wpList_store_mid rfl 26 _ _ rfl g (k * 14 + 6) (nodeA q Ck[k].2.node) rfl rfl hth (by kernel_rfl) (by kernel_rfl) ?_; generalize w5.setCells g (k * 14 + 6) (nodeA q Ck[k].2.node).toList = w6 at P6 ⊢)
      go_roundg (C.length - (k + 1))
      case measure => omega
      case rel => exact ⟨k + 1, _, by omega, by omega, by go_num, P6.out⟩
    · obtain rfl : k = C.length := by omega
      go_wp2_with fail
      go_ret
      exact ⟨g, Ck, rfl, P⟩
end Go.Proofs.Ytbemgfpnoeogdaa.EdP
