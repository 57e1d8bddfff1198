/-
  A view: Learn, Forget, New; the chapter's example.
-/
import Derived.Test.YtbemgfpnoeogdaaFMap
import Derived.WideMake
namespace Go.Proofs.Ytbemgfpnoeogdaa.FoP
open Go.RowKit RefP Go.Maps
set_option linter.unusedVariables false
set_option linter.unusedSimpArgs false
theorem mapTurned_fr {w w' : World} {m : Nat} (h : w.mapTurned w' m) : Fr [m] w w' := Fr.of_grown h.grown (fun g hg => by cases hg; simp)
theorem VwAt.turned {w w' : World} {base o m : Nat} {L L' : List Kn} {a : Option Addr} {c : Nat} {S : List Sp} {k n : Int} (V : VwAt w base o m L a c S k n) (h : w.mapTurned w' m) {N : Nat} {D : DataW Value} (hD : w'.ownsMap Try.prog 3 Rk m N D) (hM : MapOk D L') : VwAt w' base o m L' a c S k n := by
  have F := mapTurned_fr h
  refine ⟨F.blk V.head (by simp; exact V.lo.2.2.1), ⟨D, ?_, hM⟩, OwnR.heap V.spares (fun g hg => F.block g (OwnR.lt V.spares g hg).2 (fun e => ?_)), V.lo⟩
  · rw [← hM.size]; exact ownsMap_tight hD
  · simp at e; subst e; exact V.lo.2.2.2.2 hg
section
variable {P : Program}
theorem wpStill_load_row {ops : Array Oper} {rest : List Oper} {o : Oper} {a : Act} {w : World} {Q : Act → Prop} (hgd : o.guard = none) (ty : TypeId) (x : Operand) (ho : o.op = .load ty x)
    (g : Nat) (hx : a.eval x = .pointer (some ⟨g, 0, none⟩)) (t : TypeId) (cs : Array Value) (fr : Nat × Nat) (d : TypeDesc) (hg : w.heap[g]? = some (.cells cs t fr))
    (hu : P.underlying ty = some d) (hd : (match d with | .struct _ | .array _ _ => true | _ => false) = true) (hi : (P.info? ty).map (·.size) = some cs.size)
    (h : wpStill P ops w Q rest (a.put o.dst (.agg cs))) : wpStill P ops w Q (o :: rest) a := by
  refine wpStill_step fun K hK => ?_
  have hw : Region.wanted o (yielded ops a.tmps) = true := by simp [Region.wanted, hgd]
  rw [if_pos hw]
  have hl := run_loadVar_row (P := P) w g t ty cs fr d hg hu hd hi
  unfold Oper.still
  simp only [execOp, ho, hx, Instr.loadAt, Instr.sureAddr, Sem.run_bind, Sem.run_pure, Result.andThen_ok, hl, Oper.stillUpon]
  exact ⟨trivial, hK _ h⟩
end
theorem learn_out {w : World} {base o m : Nat} {L : List Kn} {a : Option Addr} {c : Nat} {S : List Sp} {k0 n0 : Int} (V : VwAt w base o m L a c S k0 n0) (n : Int) (cs : Array Value) (h0 : cs[0]? = some (.int .i64 n)) (hc : cellB n = false) :
    Calls Try.prog 24 #[.pointer (some ⟨o, 0, none⟩), .agg cs] w fun e w' => e = .returned (.bool false) ∧ Below w.heap.size w w' := by
  have hb := (Below.refl w.heap.size w).alloc (Nat.le_refl _) (.cells cs 53)
  have V1 := V.under hb
  have BK := Blk.new w cs 53
  have c0 := BK.at 0 h0
  go_enter Try.func24, Try.ntmps24
  go_wp2_with fail
  refine (none_some V1.head).mono ?_
  rintro e w2 ⟨rfl, rfl⟩
  go_wp2_with fail
  refine (cell_any _ n).mono ?_
  rintro e w3 ⟨rfl, rfl⟩
  rw [hc]
  go_wp2_with fail
  go_ret
  exact ⟨rfl, hb⟩
set_option maxRecDepth 20000 in
set_option maxHeartbeats 1600000 in
theorem learn_any {w : World} {base o m : Nat} {L : List Kn} {a : Option Addr} {c : Nat} {S : List Sp} {k0 n0 : Int} (V : VwAt w base o m L a c S k0 n0) (n : Int) (cs : Array Value) (h0 : cs[0]? = some (.int .i64 n)) (hcs : cs.size = 11 ∧ cs.all (·.oneCell') = true) (hc : cellB n = true) (hL : L.length < 100000) :
    Calls Try.prog 24 #[.pointer (some ⟨o, 0, none⟩), .agg cs] w fun e w' => e = .returned (.bool true) ∧ VwAt w' base o m (knDel L n ++ [(n, cs)]) a c S k0 n0 ∧ Fr [m] w w' := by
  have hb := (Below.refl w.heap.size w).alloc (Nat.le_refl _) (.cells cs 53)
  have V1 := V.under hb
  have BK := Blk.new w cs 53
  generalize hW : w.alloc (.cells cs 53) = w1 at hb V1 BK
  replace hW := Lib.hid hW
  have k0' := BK.at 0 h0
  have hr : -9223372036854775808 ≤ n ∧ n ≤ 9223372036854775807 := by simp [cellB] at hc; omega
  obtain ⟨D, hD, hM⟩ := V1.map
  have hkey := keyOfI hr
  have hsz : (Try.prog.info? 53).map (·.size) = some cs.size := by rw [hcs.1]; kernel_rfl
  have c0 := V1.head.at 0 rfl
  have hmax : L.length < maxLen := by simp only [maxLen]; omega
  have hP := hM.put (hD.tidy lawI) n cs hcs
  go_enter Try.func24, Try.ntmps24
  go_wp2_with fail
  rw [hW.out]
  refine (none_some V1.head).mono ?_
  rintro e w2 ⟨rfl, rfl⟩
  go_wp2_with fail
  refine (cell_any _ n).mono ?_
  rintro e w3 ⟨rfl, rfl⟩
  rw [hc]
  go_upto_region 3 with (fail)
  refine wp_region_still_tail 7 (by kernel_rfl) (by kernel_rfl) ?_
  simp only [List.take_succ_cons, List.take_zero, List.drop_succ_cons, List.drop_zero]
  still_step
  still_step
  still_step
  still_step
  still_step
  still_step
  refine wpStill_load_row rfl 53 _ rfl w.heap.size rfl 53 _ (0, 0) _ BK.h Try.underlying53 rfl hsz ?_
  refine wpStill_nil ?_
  have hD := hD.drew
  refine wpList_mapUpdate_in _ rfl _ _ _ 86 rfl 3 53 lawI Try.underlying86 Rk m L.length D rfl hD hmax _ _ (.int .i64 n) rfl rfl hkey (.held (.agg cs)) [] rfl ?_
  intro w4 hD4 hT4
  go_wp2_with fail
  go_ret
  have hT5 : w3.drew.mapTurned w4 m := hT4
  exact ⟨rfl, (V1.under (Below.refl _ _).drew).turned hT5 hD4 hP, (Fr.of_below hb.drew).trans (mapTurned_fr hT5)⟩
theorem rk_any {D : DataW Value} {L : List Kn} {n : Int} {v : Value} {ps : List MemPlace} (h : MapOk D L) (hv : Rk v = some (D.atKey (.int .i64 n) (.held (.agg kz)), ps)) : ∃ cx : Array Value, v = .agg cx ∧ cx.size = 11 ∧ cx.all (·.oneCell') = true := by
  cases e : knAt L n with
  | none => exact ⟨kz, rk_miss h e hv, rfl, by kernel_rfl⟩
  | some cx => exact ⟨cx, rk_hit h e hv, h.cells _ (knAt_some e)⟩
set_option maxRecDepth 20000 in
set_option maxHeartbeats 1600000 in
theorem forget_any {w : World} {base o m : Nat} {L : List Kn} {a : Option Addr} {c : Nat} {S : List Sp} {k0 n0 : Int} (V : VwAt w base o m L a c S k0 n0) (n : Int) (hr : -9223372036854775808 ≤ n ∧ n ≤ 9223372036854775807) :
    Calls Try.prog 28 #[.pointer (some ⟨o, 0, none⟩), .int .i64 n] w fun e w' => e = .returned (.bool (knAt L n).isSome) ∧ VwAt w' base o m (knDel L n) a c S k0 n0 ∧ Fr [m] w w' := by
  obtain ⟨D, hD, hM⟩ := V.map
  have hkey := keyOfI hr
  have hhas := hM.has n
  have c0 := V.head.at 0 rfl
  have hP := hM.del (hD.tidy lawI) n
  have hDa := fun ob : Obj => hD.alloc ob
  have hlt := V.head.lt
  go_enter Try.func28, Try.ntmps28
  go_wp2_with fail
  refine (none_some V.head).mono ?_
  rintro e w2 ⟨rfl, rfl⟩
  go_wp2_with (first
    | (at_lookup; refine wpList_lookup_own_ok _ rfl _ _ 86 rfl 3 53 lawI Try.underlying86 Rk (zeroK _) (.held (.agg kz)) [] rfl m L.length D rfl hD _ (.int .i64 n) rfl hkey ?_; intro v ps hv; rw [hhas]; obtain ⟨cx, rfl, hcx⟩ := rk_any hM hv; have hsz : (Try.prog.info? 53).map (·.size) = some cx.size := by rw [hcx.1]; kernel_rfl)
    | (refine wpList_store_row rfl 53 _ _ rfl _ _ rfl rfl 53 _ (Blk.new w2 kz 53).h hsz (by rw [hcx.1]; rfl) hcx.2 ?_; rw [World.setRow_alloc_new])
    | (at_delete; refine wpList_delete_own _ rfl _ _ 86 3 rfl 53 lawI Try.underlying86 Rk m L.length D rfl (hDa _) _ (.int .i64 n) rfl hkey ?_; intro w4 hD4 hT4))
  go_ret
  exact ⟨rfl, (V.under ((Below.refl _ _).alloc (Nat.le_refl _) _)).turned hT4 hD4 hP, (Fr.of_below ((Below.refl _ _).alloc (Nat.le_refl _) _)).trans (mapTurned_fr hT4)⟩
theorem fNew_any (w : World) : Calls Try.prog 23 #[] w fun e w' => ∃ o m, e = .returned (.pointer (some ⟨o, 0, none⟩)) ∧ VwAt w' w.heap.size o m [] none 0 [] 0 0 ∧ Below w.heap.size w w' := by
  have hm := run_makeMap (P := Try.prog) 86 w
  go_enter Try.func23, Try.ntmps23
  go_wp2_with fail
  go_ret
  have hb : Below w.heap.size w ((w.alloc (.map #[] 0)).alloc (.cells (vwA (some w.heap.size) none 0 0 0 0) 88)) := by (repeat (first | exact Below.refl _ _ | assumption | refine below_alloc2 ?_ (by first | exact Nat.le_refl _ | omega) _ | refine Below.drew ?_ | refine below_drewN ?_ _ | refine below_push2 ?_ ‹_› (by first | exact Nat.le_refl _ | omega) | refine Below.setCell ?_ (by first | (simp; done) | (simp; omega) | omega) _))
  have B := Blk.new (w.alloc (.map #[] 0)) (vwA (some w.heap.size) none 0 0 0 0) 88
  have hz := World.size_alloc w (.map #[] 0)
  refine ⟨w.heap.size + 1, w.heap.size, rfl, ⟨by rw [← hz]; exact B, ⟨_, (World.ownsMap_made w Try.prog 3 Rk).alloc _, MapOk.nil⟩, OwnR.nil _ _ _ _ _ _, by omega, Nat.le_refl _, by omega, by simp [Value.ownBlock], by simp [Value.ownBlock]⟩, hb⟩
abbrev k39 : Array Value := #[.int .i64 3, .int .u64 9, .int .u64 0, .int .i64 0, .string ⟨#[]⟩, .string ⟨#[]⟩, .bool false, .int .i64 0, .slice none 0 0, .slice none 0 0, .slice none 0 0]
set_option maxRecDepth 20000 in
set_option maxHeartbeats 1600000 in
theorem fLives_any (w : World) : Calls Try.prog 22 #[] w fun e w' => e = .returned (.bool true) ∧ Below w.heap.size w w' := by
  go_enter Try.func22, Try.ntmps22
  go_wp2_with fail
  refine (fNew_any w).mono ?_
  rintro e w1 ⟨o, m, rfl, V1, hb1⟩
  go_wp2_with fail
  refine (at_miss V1 3 (by omega) rfl).mono ?_
  rintro e w2 ⟨rfl, V2, F2⟩
  go_wp2_with fail
  have hb2 := F2.below hb1 (Nat.le_refl _) (by simp; exact V1.lo.1)
  have hb3 := below_alloc2 hb2 (Nat.le_refl _) (.cells kz 53)
  have V3 := V2.under ((Below.refl _ w2).alloc (Nat.le_refl _) (.cells kz 53))
  generalize w2.alloc (.cells kz 53) = w3 at V3 hb3 ⊢
  clear V1 V2 F2 hb1 hb2
  refine (at_miss V3 4 (by omega) rfl).mono ?_
  rintro e w4 ⟨rfl, V4, F4⟩
  have hb4 := F4.below hb3 (Nat.le_refl _) (by simp; exact V3.lo.1)
  have hb5 := below_alloc2 hb4 (Nat.le_refl _) (.cells kz 53)
  have V5 := V4.under ((Below.refl _ w4).alloc (Nat.le_refl _) (.cells kz 53))
  clear V3 V4 F4 hb3 hb4
  go_wp2_with fail
  generalize w4.alloc (.cells kz 53) = w5 at V5 hb5 ⊢
  refine (need_any V5).mono ?_
  rintro e w6 ⟨rfl, hb6⟩
  have V6 := V5.under hb6
  have hb7 := below_push2 hb5 hb6 (Nat.le_refl _)
  clear V5 hb5 hb6
  have hN : nz (missK (missK 0 3) 4) (missN (missK 0 3) (missN 0 0 3) 4) = nz 1 3 := rfl
  rw [hN]
  go_wp2_with fail
  refine (learn_any V6 3 k39 rfl ⟨rfl, by kernel_rfl⟩ rfl (by decide)).mono ?_
  rintro e w8 ⟨rfl, V8, F8⟩
  have hb8 := F8.below hb7 (Nat.le_refl _) (by simp; exact V6.lo.2.1)
  go_wp2_with fail
  refine (forget_any V8 3 (by omega)).mono ?_
  rintro e w9 ⟨rfl, V9, F9⟩
  have hb9 := F9.below hb8 (Nat.le_refl _) (by simp; exact V6.lo.2.1)
  rw [show (knAt (knDel ([] : List Kn) 3 ++ [(3, k39)]) 3).isSome = true from rfl]
  go_wp2_with fail
  refine (forget_any V9 3 (by omega)).mono ?_
  rintro e w10 ⟨rfl, V10, F10⟩
  have hb10 := F10.below hb9 (Nat.le_refl _) (by simp; exact V6.lo.2.1)
  rw [show (knAt (knDel (knDel ([] : List Kn) 3 ++ [(3, k39)]) 3) 3).isSome = false from rfl]
  go_wp2_with fail
  go_ret
  exact ⟨rfl, hb10⟩
end Go.Proofs.Ytbemgfpnoeogdaa.FoP
