/-
  A view: Spare: the contract.
-/
import Derived.Test.YtbemgfpnoeogdaaFSpare
namespace Go.Proofs.Ytbemgfpnoeogdaa.FoP
open Go.RowKit RefP Go.Maps Dp
set_option linter.unusedVariables false
set_option linter.unusedSimpArgs false
/-- a spare more: the row, the view behind the store -/
theorem spare_add {w : World} {base o m : Nat} {L : List Kn} {a : Option Addr} {c : Nat} {S : List Sp} {k0 n0 : Int} (V : VwAt w base o m L a c S k0 n0) {bx : Nat} {n v : Int} (hbx : o < bx ∧ m < bx ∧ bx < w.heap.size) (B : Blk w bx #[.int .i64 n, .int .u64 v] 60) (hl : S.length ≤ 100) :
    ∃ g d w', (∀ ty, (Builtin.append_ #[34, 34] ty #[.slice a S.length c, .slice (some ⟨bx, 0, none⟩) 1 1]).run Try.prog w = .ok (.slice (some ⟨g, 0, none⟩) (S.length + 1) d) w') ∧
      Blk w' o (vwA (some m) a S.length c k0 n0) 88 ∧
      VwAt (w'.setCell ⟨o, 1, none⟩ (.slice (some ⟨g, 0, none⟩) (S.length + 1) d)) base o m L (some ⟨g, 0, none⟩) d (S ++ [(n, v)]) k0 n0 ∧ Fr (o :: ob a) w (w'.setCell ⟨o, 1, none⟩ (.slice (some ⟨g, 0, none⟩) (S.length + 1) d)) ∧ (g ∈ ob a ∨ g = w.heap.size) := by
  obtain ⟨i, z, hi, hz, hsize, hby, hzs⟩ := tinSpare.inf
  have hR : RecS 2 spF (0, 0) w (some ⟨bx, 0, none⟩) [(n, v)] := rec_lit B (n, v) (fun j hj => by
    match j, hj with
    | 0, _ => rfl
    | 1, _ => rfl)
  obtain ⟨g, d, w', A⟩ := addRecs (P := Try.prog) (c' := 1) base 34 60 i z 16 Try.underlying34 hi hz hsize hby hzs (by decide) (fun x j _ => by by_cases h : j = 0 <;> simp [spF, h] <;> rfl) V.spares hR (by simp) (by simp [maxLen]; omega) (by simp; omega) (by have := V.lo.1; omega)
  have hoa : ∀ q, (Value.slice a S.length c).ownBlock = some q → q ∈ ob a := fun q hq => ob_own hq
  have F : Fr (ob a) w w' := Fr.of_grown A.grown hoa
  have ho : o ∉ ob a := fun h => V.lo.2.2.2.1 (own_ob h)
  have hm : m ∉ ob a := fun h => V.lo.2.2.2.2 (own_ob h)
  have hgo : g ≠ o := by
    rcases A.at' with h | h
    · exact fun e => V.lo.2.2.2.1 (by rw [h, e])
    · omega
  have hgm : g ≠ m := by
    rcases A.at' with h | h
    · exact fun e => V.lo.2.2.2.2 (by rw [h, e])
    · omega
  have Bo := F.blk V.head ho
  have F2 : Fr [o] w' (w'.setCell ⟨o, 1, none⟩ (.slice (some ⟨g, 0, none⟩) (S.length + 1) d)) := (Fr.refl _ _).set _ _ (.inl (by simp))
  obtain ⟨D, ⟨es, clock, hb, r⟩, hL⟩ := V.map
  refine ⟨g, d, w', A.run, Bo, ⟨?_, ⟨D, ⟨es, clock, (F2.block m (by have := F.size; have := lt_of_block hb; omega) (by simp; exact fun e => V.lo.2.2.1 e.symm)).trans ((F.block m (lt_of_block hb) hm).trans hb), r⟩, hL⟩, OwnR.heap A.own (fun q hq => F2.block q (OwnR.lt A.own q hq).2 (fun e => ?_)), V.lo.1, V.lo.2.1, V.lo.2.2.1, ?_, ?_⟩, ?_, ?_⟩
  · have := Bo.set 1 (.slice (some ⟨g, 0, none⟩) (S.length + 1) d)
    simpa using this
  · simp [Value.ownBlock] at hq
    simp at e
    omega
  · simp [Value.ownBlock]; exact hgo
  · simp [Value.ownBlock]; exact hgm
  · have F1 : Fr (o :: ob a) w w' := ⟨F.os, F.tape, F.output, F.size, fun b hb hn => F.block b hb (fun h => hn (List.mem_cons_of_mem _ h))⟩
    exact F1.set _ _ (.inl (by simp))
  · rcases A.at' with h | h
    · exact .inl (hoa g h)
    · exact .inr h
def VSpareAt (w : World) (base o m : Nat) (L : List Kn) (a : Option Addr) (c : Nat) (S : List Sp) (k0 n0 n v : Int) (e : Ending) (w' : World) : Prop :=
  if cellB n && !spHas S n then ∃ a' c', e = .returned (.bool true) ∧ VwAt w' base o m L a' c' (S ++ [(n, v)]) k0 n0 ∧ Fr (o :: ob a) w w' ∧ (∀ g ∈ ob a', g ∈ ob a ∨ w.heap.size ≤ g)
  else e = .returned (.bool false) ∧ Below w.heap.size w w'
set_option maxRecDepth 20000 in
set_option maxHeartbeats 1600000 in
theorem spare_any {w : World} {base o m : Nat} {L : List Kn} {a : Option Addr} {c : Nat} {S : List Sp} {k0 n0 : Int} (V : VwAt w base o m L a c S k0 n0) (n v : Int) (hl : S.length ≤ 100) :
    Calls Try.prog 26 #[.pointer (some ⟨o, 0, none⟩), .agg #[.int .i64 n, .int .u64 v]] w fun e w' => VSpareAt w base o m L a c S k0 n0 n v e w' := by
  have hb := (Below.refl w.heap.size w).alloc (Nat.le_refl _) (.cells #[.int .i64 n, .int .u64 v] 60)
  have V1 := V.under hb
  have BK := Blk.new w #[.int .i64 n, .int .u64 v] 60
  have hlo := V.lts
  have hmf : ∀ (fn : Fn) (first cap : Array Value) (w : World), (Instr.makeFunc fn first cap).run Try.prog w = .ok (.func fn first cap) w := fun _ _ _ _ => rfl
  have hno : Hid (∀ e w', (cellB n && !spHas S n) = false → (e = .returned (.bool false) ∧ Below w.heap.size w w') → VSpareAt w base o m L a c S k0 n0 n v e w') := Lib.hid (fun e w' h k => by unfold VSpareAt; rw [h]; exact k)
  have hyes : Hid (∀ a' c' e w', (cellB n && !spHas S n) = true → (e = .returned (.bool true) ∧ VwAt w' base o m L a' c' (S ++ [(n, v)]) k0 n0 ∧ Fr (o :: ob a) w w' ∧ (∀ g ∈ ob a', g ∈ ob a ∨ w.heap.size ≤ g)) → VSpareAt w base o m L a c S k0 n0 n v e w') := Lib.hid (fun a' c' e w' h k => by unfold VSpareAt; rw [h]; exact ⟨a', c', k⟩)
  have hz := BK.lt
  generalize hW : w.alloc (.cells #[.int .i64 n, .int .u64 v] 60) = w1 at hb V1 BK hz
  replace hW := Lib.hid hW
  have c0 := BK.at 0 rfl
  have c1 := V1.head.at 1 rfl
  go_enter Try.func26, Try.ntmps26
  go_upto_region 1 with (fail)
  rw [hW.out]
  go_wp2_with fail
  refine (none_some V1.head).mono ?_
  rintro e w2 ⟨rfl, rfl⟩
  go_wp2_with fail
  refine (cell_any _ n).mono ?_
  rintro e w2 ⟨rfl, rfl⟩
  cases hc : cellB n
  · go_wp2_with fail
    go_ret
    exact hno.out _ _ (by rw [hc]; rfl) ⟨rfl, hb⟩
  · replace hc := Lib.hid hc
    go_wp2_with fail
    refine (has_any V1.spares hl w.heap.size n hz c0).mono ?_
    rintro e w3 ⟨rfl, hb3⟩
    have hbb := below_push2 hb hb3 (by omega)
    have V3 := V1.under hb3
    have BK3 := BK.below hb3
    cases hh : spHas S n
    · replace hh := Lib.hid hh
      have hbx : Below w3.heap.size w3 (w3.alloc (.cells #[.int .i64 n, .int .u64 v] 60)).drew := ((Below.refl _ _).alloc (Nat.le_refl _) _).drew
      have hz3 := BK3.lt
      have hzx : w3.heap.size < (w3.alloc (.cells #[.int .i64 n, .int .u64 v] 60)).drew.heap.size := (Blk.new w3 #[.int .i64 n, .int .u64 v] 60).drew.lt
      obtain ⟨g, d, w5, hr, B5, V5, F5, hat⟩ := spare_add (V3.under hbx) (bx := w3.heap.size) (n := n) (v := v) ⟨by omega, by omega, hzx⟩ (Blk.new w3 _ _).drew hl
      replace hr := Lib.hid hr
      have x1 := V3.head.at 1 rfl
      have q0 := BK3.at 0 rfl
      have q1 := BK3.at 1 rfl
      have s1 := B5.at 1 rfl
      have g1 := B5.free 1
      have hol : o < w3.heap.size := V3.head.lt
      have hF : Fr (o :: ob a) w (w5.setCell ⟨o, 1, none⟩ (.slice (some ⟨g, 0, none⟩) (S.length + 1) d)) := (Fr.of_below (below_push2 hbb hbx (by have := hbb.size; omega))).trans F5
      have hg : ∀ q ∈ ob (some ⟨g, 0, none⟩), q ∈ ob a ∨ w.heap.size ≤ q := fun q hq => by
        simp [ob] at hq
        subst hq
        rcases hat with h | h
        · exact .inl h
        · right; omega
      clear hb3 c0 c1 hbx F5 hat V3 BK3 B5 hz hlo
      go_upto_region 3 with (fail)
      go_region_law (refine step_append_run hr.out rfl (by rfl) (by rfl) (by rfl) ?_)
      all_goals
        go_wp2_with fail
        go_ret
        exact hyes.out _ _ _ _ (by rw [hc.out, hh.out]; rfl) ⟨rfl, V5, hF, hg⟩
    · go_wp2_with fail
      go_ret
      exact hno.out _ _ (by rw [hh]; simp) ⟨rfl, hbb⟩
end Go.Proofs.Ytbemgfpnoeogdaa.FoP
