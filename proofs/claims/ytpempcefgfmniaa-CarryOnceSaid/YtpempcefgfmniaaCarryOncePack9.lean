/-
  CarryOnce: the walk.
-/
import Derived.IntWalk
import Derived.Deep.RegionHeld
import Derived.Deep.DeepCutAuto
import Derived.Lib.QuietBelow
import Derived.BigQuiet
import Derived.Test.YtpempcefgfmniaaCarryOncePack8

namespace Go.Proofs.Ytpempcefgfmniaa.carryOnce
open Go.ChangeShapes Go.WideShapes Go.ChangeAt Go.RowKit RefP CellP MemP Dp
set_option linter.unusedVariables false
set_option linter.unusedSimpArgs false
/-- the tasks made so far -/
structure Tasks (base : Nat) (w : World) (m : MemId) (a : Option Addr) (c : Nat) (ts : List Nat) : Prop where
  own : OwnR 1 taskG 0 w base 80 a c ts
  blk : ∀ h, h < ts.length → Blk w (ts.getD h 0) (carX m.o (parO h) k0O Hd.nil) 100
  ge : ∀ h, h < ts.length → base ≤ ts.getD h 0
  inj : ∀ h h', h < ts.length → h' < ts.length → ts.getD h 0 = ts.getD h' 0 → h = h'
  ne : ∀ g, (Value.slice a ts.length c).ownBlock = some g → ∀ h, h < ts.length → ts.getD h 0 ≠ g
theorem Tasks.nil (base : Nat) (w : World) (m : MemId) : Tasks base w m none 0 [] :=
  ⟨OwnR.nil _ _ _ _ _ _, fun h hh => absurd hh (Nat.not_lt_zero _), fun h hh => absurd hh (Nat.not_lt_zero _), fun h _ hh => absurd hh (Nat.not_lt_zero _), fun _ _ h hh => absurd hh (Nat.not_lt_zero _)⟩
theorem getD_app {ts : List Nat} {t h : Nat} (hh : h < ts.length) : (ts ++ [t]).getD h 0 = ts.getD h 0 := by
  simp [List.getD_eq_getElem?_getD, List.getElem?_append_left hh]
theorem getD_last {ts : List Nat} {t : Nat} : (ts ++ [t]).getD ts.length 0 = t := by
  simp [List.getD_eq_getElem?_getD]
theorem Tasks.add {base t : Nat} {w w9 : World} {m : MemId} {a : Option Addr} {c : Nat} {ts : List Nat} (H : Tasks base w m a c ts) (hn : ts.length < 4) (hb : Below w.heap.size w w9) (ht : w.heap.size ≤ t) (B : Blk w9 t (carX m.o (parO ts.length) k0O Hd.nil) 100) (htl : t < w9.heap.size) (hbase : base ≤ w.heap.size) :
    ∃ g cap w', (∀ ty, (Builtin.append_ #[97, 97] ty #[.slice a ts.length c, .slice (some ⟨w9.heap.size, 0, none⟩) 1 1]).run Try.prog (w9.alloc (.cells #[.pointer (some ⟨t, 0, none⟩)] 80)) = .ok (.slice (some ⟨g, 0, none⟩) (ts.length + 1) cap) w') ∧ Tasks base w' m (some ⟨g, 0, none⟩) cap (ts ++ [t]) ∧ ∀ W0, base ≤ W0.heap.size → Below base W0 w → Below base W0 w' := by
  have hbx : Below w9.heap.size w9 (w9.alloc (.cells #[.pointer (some ⟨t, 0, none⟩)] 80)) := (Below.refl _ w9).alloc (Nat.le_refl _) _
  have hsz := hb.size
  have hb2 := below_push2 hb hbx (Nat.le_refl _)
  obtain ⟨g, cap, w', A⟩ := addTask (w := w9.alloc (.cells #[.pointer (some ⟨t, 0, none⟩)] 80)) base (H.own.below hb2) t (Blk.new w9 _ _) (by omega) (by simp; omega)
  have hO := fun q e => ((H.own.below hb2).lt q e).1
  have hne1 : ∀ h, h < ts.length → ts.getD h 0 ≠ g := fun h hh => by
    rcases A.at' with e | e
    · exact H.ne g e h hh
    · have := (H.blk h hh).lt
      have h5 : w9.heap.size < g := by rw [e, World.size_alloc]; omega
      intro e2
      have e3 : ts.getD h 0 = g := e2
      omega
  have hne2 : t ≠ g := by
    rcases A.at' with e | e
    · have := (H.own.lt g e).2; omega
    · rw [e]; simp; omega
  have hx : ∀ h, h < ts.length + 1 → (h < ts.length ∧ (ts ++ [t]).getD h 0 = ts.getD h 0) ∨ (h = ts.length ∧ (ts ++ [t]).getD h 0 = t) := fun h hh => by
    by_cases hl : h < ts.length
    · exact .inl ⟨hl, getD_app hl⟩
    · obtain rfl : h = ts.length := by omega
      exact .inr ⟨rfl, getD_last⟩
  have hl : (ts ++ [t]).length = ts.length + 1 := by simp
  refine ⟨g, cap, w', A.run, ⟨A.own, fun h hh => ?_, fun h hh => ?_, fun h h' hh hh' e => ?_, fun g' e h hh => ?_⟩, fun W0 h0 hW => A.keeps hO W0 base (Nat.le_refl _) (below_push2 hW hb2 h0) (by simp; omega)⟩
  · rw [hl] at hh
    rcases hx h hh with ⟨q, e⟩ | ⟨rfl, e⟩
    · rw [e]
      exact ((H.blk h q).below hb2).grown A.grown (fun e => H.ne _ e.symm h q rfl)
    · rw [e]
      exact (B.below hbx).grown A.grown (fun e => by have := (H.own.lt _ e.symm).2; omega)
  · rw [hl] at hh
    rcases hx h hh with ⟨q, e⟩ | ⟨rfl, e⟩
    · rw [e]; exact H.ge h q
    · rw [e]; omega
  · rw [hl] at hh hh'
    rcases hx h hh with ⟨q, e1⟩ | ⟨q, e1⟩ <;> rcases hx h' hh' with ⟨q', e2⟩ | ⟨q', e2⟩ <;> rw [e1, e2] at e
    · exact H.inj h h' q q' e
    · have := (H.blk h q).lt; omega
    · have := (H.blk h' q').lt; omega
    · omega
  · rw [hl] at hh
    have e' : some g = some g' := e
    injection e' with e'
    subst e'
    rcases hx h hh with ⟨q, e⟩ | ⟨rfl, e⟩
    · rw [e]; exact hne1 h q
    · rw [e]; exact hne2
theorem Tasks.co {s many : Nat} {w W wr : World} {m : MemId} {a : Option Addr} {c : Nat} {ts : List Nat} (H : Tasks W.heap.size wr m a c ts) (hn : ts.length = many) (hm1 : 1 ≤ many) (hm4 : many ≤ 4) (hb0 : Below w.heap.size w W) (hbL : Below W.heap.size W wr) (hR : MemIs W m.own m (M3O s)) (hlo : ∀ b ∈ m.own, w.heap.size ≤ b) (hs1 : 1 ≤ s) (hs4 : s ≤ 4) :
    ∃ tb, a = some ⟨tb, 0, none⟩ ∧ CO w wr m (M3O s) tb (fun h => ts.getD h 0) many s (fun _ => k0O) 0 false false := by
  have hlt := hR.lt
  have hsz := hb0.size
  rcases H.own.own.2 with q | ⟨g, cap, cur, e', hg, hh, hn', hm, hs, r⟩
  · have := q.1
    injection this with e1 e2 e3
    omega
  injection e' with e1 e2 e3
  subst e1
  have hgl := H.own.lt g rfl
  have hS : ∀ b ∈ blksO m g (fun h => ts.getD h 0) many, b ∈ m.own ∨ W.heap.size ≤ b := by
    intro b hb
    simp only [blksO, List.mem_cons, List.mem_append, List.mem_map, List.mem_range] at hb
    rcases hb with rfl | ⟨h, hh, rfl⟩ | hb
    · exact .inr hgl.1
    · exact .inr (H.ge h (by omega))
    · exact .inl hb
  refine ⟨g, rfl, below_push2 hb0 hbL (Nat.le_refl _), (hR.more hS blks_own).below hbL, hgl.2, fun h hh => ?_, fun h hh => ⟨Hd.nil, H.blk h (by omega), HRow.nil _ _ _⟩, fun b hb => ?_, fun h h' hh hh' e => H.inj h h' (by omega) (by omega) e, ⟨fun e => ?_, fun h hh => ⟨fun e => ?_, H.ne g rfl h (by omega)⟩⟩, hm4, begin_oi s hs1 hs4, fun _ _ => ti0 s 0 false false, fun _ _ => by show U64 0; unfold U64; omega⟩
  · obtain ⟨b, off, e, hb, hc⟩ := task_cell H.own.read h (by omega)
    simp only [Option.some.injEq, Addr.mk.injEq, and_true] at e
    obtain ⟨rfl, rfl⟩ := e
    rw [Nat.zero_add] at hc
    exact hc
  · rcases hS b hb with h | h
    · exact hlo b h
    · omega
  · have := hlt _ e; omega
  · have := hlt _ e
    have := H.ge h (by omega)
    omega
theorem u8_cell {w : World} {a : Option Addr} {xs : List Int} (H : RowRep (intC .u8) w [] a xs) (k : Nat) (hk : k < xs.length) : ∃ (b off n : Nat), a = some ⟨b, off, none⟩ ∧ b < w.heap.size ∧ w.cell? ⟨b, off + k, none⟩ = some (.int .u8 n) ∧ n ≤ 255 := by
  obtain ⟨b, off, ha, hb, _, hc⟩ := H (by omega)
  obtain ⟨cs, ⟨rfl, hw⟩, hv⟩ := hc k xs[k] (List.getElem?_eq_getElem hk)
  have h1 : 0 ≤ xs[k] ∧ xs[k] ≤ 255 := by
    simp [Lit.wf, IntKind.min, IntKind.max, IntKind.bits, IntKind.signed] at hw
    omega
  have h2 := hv 0 _ rfl
  refine ⟨b, off, xs[k].toNat, ha, hb, ?_, by omega⟩
  rw [show ((xs[k].toNat : Nat) : Int) = xs[k] by omega]
  rw [← h2]
  show _ = w.cell? ⟨b, off + k * 1 + 0, none⟩
  rw [Nat.mul_one]; rfl
theorem gwO_ok : U64 gwO := by unfold U64; decide
theorem put_ok {w : World} {S : List Nat} {a1 : Option Addr} {c1 s : Nat} (h : HRow Dp.stepT w S ⟨a1, c1⟩ (stepsO s)) : AccOk w S ⟨⟨Hd.nil, Hd.nil, Hd.nil⟩, ⟨Hd.nil, ⟨a1, c1⟩, Hd.nil⟩, Hd.nil⟩ ⟨5, 0, 0, wordO, blockO s, opZ⟩ := by
  have B := blockZ_ok w S
  exact ⟨by unfold I64; simp only; omega, by unfold I64; simp only; omega, by unfold U64; simp only; omega, by show U64 16390; unfold U64; omega, ⟨by show I64 2; unfold I64; omega, B.node, ⟨by show I64 1; unfold I64; omega, ⟨by show I64 1; unfold I64; omega, Nat.zero_le _, by show U64 0; unfold U64; omega, HRow.nil _ _ _⟩, h, HRow.nil _ _ _⟩, HRow.nil _ _ _⟩, opZ_ok⟩
theorem put_few {s : Nat} (h : s ≤ 4) : Few (blockO s) := ⟨by show 0 ≤ 1000; omega, by show 0 ≤ 1000; omega, by show 0 ≤ 1000; omega, by show (stepsO s).length ≤ 1000; rw [stepsO_length]; omega, by show 0 ≤ 1000; omega, by show 0 ≤ 1000; omega, by show 0 ≤ 1000; omega⟩
set_option maxRecDepth 100000 in
set_option maxHeartbeats 6400000 in
theorem walk (n0 n1 : Nat) (a : Option Addr) (c : Nat) (xs : List Int) (w : World) (H : RowRep (intC .u8) w [] a xs) (hm : xs.length ≤ 9223372036854775807) (h0 : n0 ≤ 255) (h1 : n1 ≤ 255) :
    Calls Try.prog 8 #[.int .u8 n0, .int .u8 n1, .slice a xs.length c] w fun e w' => e = .returned (.bool true) ∧ Below w.heap.size w w' := by
  have hb0 : Below w.heap.size w w := Below.refl _ _
  go_enter Try.func8, Try.ntmps8
  by_cases h6 : 600 < xs.length
  · have q60 : decide (600 < (xs.length : Int)) = true := by simp; omega
    have q61 : (600 : Int) < (xs.length : Int) := by omega
    go_wp2_with fail
    refine (carLives_any _).mono ?_
    rintro e w3 ⟨rfl, hb3⟩
    go_wp2_with fail
    go_ret
    exact ⟨rfl, below_push2 hb0 hb3 (Nat.le_refl _)⟩
  have q60 : decide (600 < (xs.length : Int)) = false := by simp; omega
  have q61 : (xs.length : Int) ≤ 600 := by omega
  go_upto_region 5 with (fail)
  obtain ⟨s, hs⟩ : ∃ s : Nat, s = n0 % 4 + 1 := ⟨_, rfl⟩
  obtain ⟨many, hmany⟩ : ∃ s : Nat, s = n1 % 4 + 1 := ⟨_, rfl⟩
  have es : ((n0 : Nat) : Int) % 4 + 1 = (s : Int) := by omega
  have em : ((n1 : Nat) : Int) % 4 + 1 = (many : Int) := by omega
  have hs1 : 1 ≤ s := by omega
  have hs4 : s ≤ 4 := by omega
  have hm1 : 1 ≤ many := by omega
  have hm4 : many ≤ 4 := by omega
  rw [es, em]
  clear es em hs hmany
  go_wp2_with fail
  refine (mnew_yes 12 4 0 _ (by omega) (by omega) (by omega) (by omega) (by omega) (by omega)).mono ?_
  rintro e w1 ⟨o, oc, g, gb, gr, rfl, hM, hb3, ho, hoc, hg, hgb, hgr⟩
  have hR0 : MemIs w1 (MemId.own ⟨o, oc, g, gb, gr⟩) ⟨o, oc, g, gb, gr⟩ M0O := new_is hM
  have hlo : ∀ b ∈ MemId.own ⟨o, oc, g, gb, gr⟩, w.heap.size ≤ b := by simp only [MemId.own, List.mem_cons, List.not_mem_nil, or_false, forall_eq_or_imp, forall_eq]; omega
  obtain ⟨m, hm'⟩ : ∃ m : MemId, m = ⟨o, oc, g, gb, gr⟩ := ⟨_, rfl⟩
  have ho' : o = m.o := by rw [hm']
  rw [← hm'] at hR0 hlo
  clear hm'
  subst ho'
  replace hb0 := below_push2 hb0 hb3 (Nat.le_refl _)
  clear hM hb3 ho hoc hg hgb hgr
  have hbx : Below w1.heap.size w1 (w1.alloc (.cells #[.int .i64 1, .int .i64 1, .string ⟨#[]⟩, .int .u64 0, .slice none 0 0, .slice none 0 0, .slice none 0 0] 33)) := (Below.refl _ w1).alloc (Nat.le_refl _) _
  have BP := Blk.new w1 #[.int .i64 1, .int .i64 1, .string ⟨#[]⟩, .int .u64 0, .slice none 0 0, .slice none 0 0, .slice none 0 0] 33
  have hlY0 := hR0.lt
  generalize hW : w1.alloc (.cells #[.int .i64 1, .int .i64 1, .string ⟨#[]⟩, .int .u64 0, .slice none 0 0, .slice none 0 0, .slice none 0 0] 33) = w2 at hbx BP
  replace hW := Lib.hid hW
  go_upto_region 9 with (refine wpList_store_row rfl 33 _ _ rfl _ _ rfl rfl 33 _ (Blk.new w1 _ _).h (by kernel_rfl) (by rfl) (by kernel_rfl) ?_; rw [World.setRow_alloc_new, hW.out])
  try simp only [Act.put]
  clear hW
  have hY0 : w1.heap.size ≤ w1.heap.size ∧ w1.heap.size ≤ w1.heap.size := ⟨Nat.le_refl _, Nat.le_refl _⟩
  obtain ⟨Y, hY, hY1⟩ : ∃ Y, w1.heap.size ≤ Y ∧ Y ≤ w1.heap.size ∧ w1.heap.size = Y := ⟨_, Nat.le_refl _, Nat.le_refl _, rfl⟩
  obtain ⟨hY1, hYe⟩ := hY1
  rw [hYe] at BP hlY0 ⊢
  replace hYe := Lib.hid hYe
  clear hY0
  go_wp2_with fail
  go_loopw [52] (fun i wr => ∃ (k : Nat) (a : Option Addr) (c : Nat), k ≤ s ∧ i = .int .i64 k ∧ Below w1.heap.size w1 wr ∧ OwnR 5 MemP.stepG MemP.stepZ wr (Y + 1) 94 a c (stepsO k) ∧ Blk wr Y #[.int .i64 1, .int .i64 1, .string ⟨#[]⟩, .int .u64 0, .slice none 0 0, .slice a k c, .slice none 0 0] 33) (fun i _ => s - (intOf i).toNat)
  case atStart => exact ⟨0, none, 0, Nat.zero_le _, rfl, hbx, OwnR.nil _ _ _ _ _ _, BP⟩
  case round =>
    clear hbx BP
    obtain ⟨k, a1, c1, hk, rfl, hbL, O, BP⟩ := hrel
    by_cases hlt : k < s
    · have hlt' : (k : Int) < (s : Int) := by omega
      have hYl := BP.lt
      have hbx : Below wr.heap.size wr (wr.alloc (.cells (stepL (okStep k)).toArray 94)) := (Below.refl _ wr).alloc (Nat.le_refl _) _
      obtain ⟨g, cap, w', A⟩ := addStep (w := wr.alloc (.cells (stepL (okStep k)).toArray 94)) (Y + 1) (O.below hbx) (okStep k) (Blk.new wr _ _) (by rw [stepsO_length]; omega) (by simp; omega)
      have hrun := A.run
      have eb0 : decide (k = 0) = ((k : Int) == 0) := by rw [Bool.eq_iff_iff]; simp
      simp only [stepsO_length, World.size_alloc] at hrun
      rw [show (stepL (okStep k)).toArray = #[.int .i64 ((k : Int) + 1), .int .u64 0, .int .u64 0, .int .u64 (100 + (k : Int)), .bool ((k : Int) == 0)] from by rw [← eb0]; rfl] at hrun
      have hrun := Lib.hid hrun
      have hO1 := fun q e => ((O.below hbx).lt q e).1
      have hown := A.own
      rw [← stepsO_succ] at hown
      have hge := A.ge
      have hbA := A.keeps hO1 w1 w1.heap.size (by omega) (below_push2 hbL hbx (Nat.le_refl _)) (by simp; omega)
      have BP1 := (BP.below hbx).grown A.grown (fun e => by have := hO1 _ e.symm; omega)
      have c5 := BP.at 5 rfl
      have d5 := BP1.at 5 rfl
      have e5 := BP1.free 5
      have hbS := hbA.setCell (p := ⟨Y, 5, none⟩) hY (.slice (some ⟨g, 0, none⟩) (k + 1) cap)
      have BPS := BP1.set 5 (.slice (some ⟨g, 0, none⟩) (k + 1) cap)
      have OS := hown.far ⟨Y, 5, none⟩ (.slice (some ⟨g, 0, none⟩) (k + 1) cap) (fun e => by
        have := (hown.lt _ e).1
        simp only at this
        omega)
      clear A eb0 hbL O BP BP1 hown hbA hO1 hbx
      go_wp2_with (at_builtin; refine wpList_append_run hrun.out rfl (by rfl) (by rfl) (by rfl) ?_)
      go_roundw
      case rel => exact ⟨k + 1, _, _, by omega, by go_num, hbS, OS, BPS⟩
      case measure => simp [intOf]; omega
    obtain rfl : s = k := by omega
    clear hlt
    have hq : HRow Dp.stepT wr m.own ⟨a1, c1⟩ (stepsO s) := own_hrow O (stepsO_ok hs4) (fun b hb => by have := hlY0 b hb; omega)
    replace hR0 := hR0.below hbL
    replace hb0 := below_push2 hb0 hbL (Nat.le_refl _)
    clear hbL O
    obtain ⟨bs, hM⟩ := hR0.at_
    have hM' : MemAt wr m.o m.oc m.g m.gb m.gr 12 4 M0O.L bs (M0O.R.map opL) := hM
    have hS3 : ∀ b ∈ [m.g, m.gb, m.gr], b ∈ m.own := by simp [MemId.own]
    go_wp2_with fail
    refine (muse_any 5 _ hM' (by omega) (by omega)).mono ?_
    rintro e w3 ⟨rfl, hb3⟩
    rw [at_use5]
    replace hR0 := hR0.below hb3
    replace hb0 := below_push2 hb0 hb3 (Nat.le_refl _)
    replace BP := BP.below hb3
    replace hq := hq.keep (Keeps.of_below hb3)
    clear hM hM' hb3
    go_wp2_with fail
    refine (show Calls _ _ _ _ _ from duse_any 1 1 _ (by omega) (by omega) (by omega) (by omega)).mono ?_
    rintro e w4 ⟨rfl, rfl⟩
    rw [use11]
    go_wp2_with fail
    refine (show Calls _ _ _ _ _ from do_any ⟨2, 17, 0, 5, blockZ, opZ⟩ nilH _ hR0 hR0.lt (S0 := []) ⟨by unfold I64; simp only; omega, by unfold I64; simp only; omega, by unfold U64; simp only; omega, by unfold U64; simp only; omega, blockZ_ok _ _, opZ_ok⟩ fewZ).mono ?_
    intro e w5 hD
    obtain ⟨⟨qr, rfl, _, _⟩, _, _⟩ := id hD
    have hR1 := hD.mem
    rw [do1] at hR1
    replace hb0 := hD.fr.below hb0 (by have := hb0.size; omega) (fun b hb => hlo b (hS3 b hb))
    replace BP := hD.fr.blk BP (fun e => by have := hlY0 _ (hS3 _ e); omega)
    replace hq := hq.keep (hD.fr.keeps.more hS3)
    clear hD hR0
    go_wp2_with fail
    refine (show Calls _ _ _ _ _ from dpack_any 5 1 _ (by omega) (by omega) (by omega) (by omega)).mono ?_
    rintro e w6 ⟨rfl, rfl⟩
    rw [pack51]
    have BP' : Blk w5 Y #[.int .i64 1, .int .i64 1, .string ⟨#[]⟩, .int .u64 0, .slice none 0 0, .slice a1 (stepsO s).length c1, .slice none 0 0] 33 := by
      rw [stepsO_length]; exact BP
    go_wp2_with (refine wpList_load_row rfl 33 _ rfl Y rfl 33 _ (0, 0) _ BP'.h Try.underlying33 rfl (by kernel_rfl) ?_)
    refine (show Calls _ _ _ _ _ from do_any ⟨5, 0, 0, wordO, blockO s, opZ⟩ ⟨⟨Hd.nil, Hd.nil, Hd.nil⟩, ⟨Hd.nil, ⟨a1, c1⟩, Hd.nil⟩, Hd.nil⟩ _ hR1 hR1.lt (put_ok hq) (put_few hs4)).mono ?_
    intro e w7 hD
    obtain ⟨⟨qr, rfl, _, _⟩, _, _⟩ := id hD
    have hR2 := hD.mem
    rw [do2] at hR2
    replace hb0 := hD.fr.below hb0 (by have := hb0.size; omega) (fun b hb => hlo b (hS3 b hb))
    clear hD hR1 BP BP' hq
    have BG := Blk.new w7 #[.int .i64 2, .int .i64 1, .int .u64 wordO] 82
    have hbx : Below w7.heap.size w7 (w7.alloc (.cells #[.int .i64 2, .int .i64 1, .int .u64 wordO] 82)) := (Below.refl _ w7).alloc (Nat.le_refl _) _
    have hGlo : ∀ b ∈ m.own, b < w7.heap.size := hR2.lt
    replace hb0 := below_push2 hb0 hbx (Nat.le_refl _)
    replace hR2 := hR2.below hbx
    generalize hW : w7.alloc (.cells #[.int .i64 2, .int .i64 1, .int .u64 wordO] 82) = w8 at hb0 hR2 BG
    replace hW := Lib.hid hW
    clear hbx
    go_upto_region 18 with (fail)
    rw [hW.out]
    clear hW
    generalize w7.heap.size = G at BG hGlo ⊢
    obtain ⟨bs2, hM2⟩ := hR2.at_
    have hMA : MemAt w8 m.o m.oc m.g m.gb m.gr 12 4 (M2O s).L bs2 ((M2O s).R.map opL) := hM2
    clear hM2
    go_cut [13] (fun v13 W => v13 = .pointer (some ⟨G, 0, none⟩) ∧ Below w.heap.size w W ∧ MemIs W m.own m (M3O s) ∧ Blk W G #[.int .i64 2, .int .i64 1, .int .u64 wordO] 82)
    case first =>
      refine wp_region_held_drew (S := fun w' => w'.cell? ⟨G, 0, none⟩ = some (.int .i64 2) ∧ w'.cell? ⟨G, 1, none⟩ = some (.int .i64 1) ∧ w'.cell? ⟨G, 2, none⟩ = some (.int .u64 wordO)) (by kernel_rfl) ?_ (fun hHeld => ?_)
      · exact ⟨BG.at 0 rfl, BG.at 1 rfl, BG.at 2 rfl⟩
      have hbD : Below w8.heap.size w8 w8.drew := (Below.refl _ w8).drew
      refine wpAnyH_take (i := 0) (oi := ⟨_, _, _, _, _, _⟩) (v := ?_) rfl (by kernel_rfl) (by kernel_rfl) (by kernel_rfl) (fun _ _ _ h => h) (Or.inl ⟨by rfl, ?_⟩) (by assumption) ?_
      rotate_left
      · intro wS hSw
        try dsimp only at hSw
        go_simp
        try with_reducible rfl
      try simp only [Act.put, List.setIfInBounds_toArray, List.set_cons_zero, List.set_cons_succ]
      refine wpAnyH_take (i := 1) (oi := ⟨_, _, _, _, _, _⟩) (v := ?_) rfl (by kernel_rfl) (by kernel_rfl) (by kernel_rfl) (fun _ _ _ h => h) (Or.inl ⟨by rfl, ?_⟩) (by assumption) ?_
      rotate_left
      · intro wS hSw
        try dsimp only at hSw
        go_simp
        try with_reducible rfl
      try simp only [Act.put, List.setIfInBounds_toArray, List.set_cons_zero, List.set_cons_succ]
      refine wpAnyH_take (i := 3) (oi := ⟨_, _, _, _, _, _⟩) (v := ?_) rfl (by kernel_rfl) (by kernel_rfl) (by kernel_rfl) (fun _ _ _ h => h) (Or.inl ⟨by rfl, ?_⟩) (by assumption) ?_
      rotate_left
      · intro wS hSw
        try dsimp only at hSw
        go_simp
        try with_reducible rfl
      try simp only [Act.put, List.setIfInBounds_toArray, List.set_cons_zero, List.set_cons_succ]
      refine wpAnyH_ready (rs := [2]) (by kernel_rfl) (by simp) ?_
      refine AllReadyH.cons rfl (fun K hK => ?_) AllReadyH.nil
      go_simp
      refine (gate_any _ (hMA.below hbD)).mono ?_
      rintro e W1 ⟨rfl, hb1⟩
      have hbW1 := below_push2 hbD hb1 (Nat.le_refl _)
      rw [at_gate44]
      refine hK.out _ _ ⟨(BG.below hbW1).at 0 rfl, (BG.below hbW1).at 1 rfl, (BG.below hbW1).at 2 rfl⟩ (fun hHeld => ?_)
      clear hK K hb1
      refine wpAnyH_ready (rs := [4]) (by kernel_rfl) (by simp) ?_
      refine AllReadyH.cons rfl (fun K hK => ?_) AllReadyH.nil
      go_simp
      refine (show Calls _ _ _ _ _ from shut_any 2 1 wordO _ (by omega) (by omega) (by omega) (by omega) (by unfold wordO; omega) (by unfold wordO; omega)).mono ?_
      rintro e W2 ⟨rfl, hb1⟩
      rw [show shutI 2 1 wordO = gwO from rfl]
      have hbW2 := below_push2 hbW1 hb1 (Nat.le_refl _)
      refine hK.out _ _ ⟨(BG.below hbW2).at 0 rfl, (BG.below hbW2).at 1 rfl, (BG.below hbW2).at 2 rfl⟩ (fun hHeld => ?_)
      clear hK K hb1
      refine wpAnyH_take (i := 5) (oi := ⟨_, _, _, _, _, _⟩) (v := ?_) rfl (by kernel_rfl) (by kernel_rfl) (by kernel_rfl) (fun _ _ _ h => h) (Or.inl ⟨by rfl, ?_⟩) (by assumption) ?_
      rotate_left
      · intro wS hSw
        try dsimp only at hSw
        go_simp
        try with_reducible rfl
      try simp only [Act.put, List.setIfInBounds_toArray, List.set_cons_zero, List.set_cons_succ]
      refine wpAnyH_ready (rs := [6]) (by kernel_rfl) (by simp) ?_
      refine AllReadyH.cons rfl (fun K hK => ?_) AllReadyH.nil
      go_simp
      refine (show Calls _ _ _ _ _ from do_any ⟨2, 44, 0, gwO, blockZ, opZ⟩ nilH _ (hR2.below hbW2) (hR2.below hbW2).lt (S0 := []) ⟨by unfold I64; simp only; omega, by unfold I64; simp only; omega, by unfold U64; simp only; omega, gwO_ok, blockZ_ok _ _, opZ_ok⟩ fewZ).mono ?_
      intro e W3 hD
      obtain ⟨⟨qr, rfl, _, _⟩, _, _⟩ := id hD
      have hR3 := hD.mem
      rw [do3] at hR3
      have hBG3 := hD.fr.blk (BG.below hbW2) (fun e => by have := hGlo _ (hS3 _ e); omega)
      refine hK.out _ _ ⟨hBG3.at 0 rfl, hBG3.at 1 rfl, hBG3.at 2 rfl⟩ (fun hHeld => ?_)
      clear hK K
      refine wpAnyH_done (by kernel_rfl) ?_ _
      have hbF := hD.fr.below (below_push2 hb0 hbW2 (Nat.le_refl _)) (by have := (below_push2 hb0 hbW2 (Nat.le_refl _)).size; omega) (fun b hb => hlo b (hS3 b hb))
      go_wp2_with fail
      go_meet
      exact ⟨rfl, hbF, hR3, hBG3⟩
    case rest =>
      obtain ⟨rfl, hb0', hR3, BG'⟩ := hcut
      replace hb0 := hb0'
      clear hR2 hMA BG hb0'
      have BG := BG'
      clear BG'
      have hgeW : w.heap.size ≤ wc.heap.size := hb0.size
      have hGW := BG.lt
      go_wp2_with fail
      go_loopw [14, 92] (fun v14 i wr => ∃ (k : Nat) (a : Option Addr) (c : Nat) (ts : List Nat), k ≤ many ∧ ts.length = k ∧ v14 = .slice a k c ∧ i = .int .i64 k ∧ Below wc.heap.size wc wr ∧ Tasks wc.heap.size wr m a c ts) (fun _ i _ => many - (intOf i).toNat)
      case atStart => exact ⟨0, none, 0, [], Nat.zero_le _, rfl, rfl, rfl, Below.refl _ _, Tasks.nil _ _ _⟩
      case round =>
        obtain ⟨k, a2, c2, ts, hk, hkl, rfl, rfl, hbL, HT⟩ := hrel
        by_cases hlt : k < many
        · have hlt' : (k : Int) < (many : Int) := by omega
          have BGr := BG.below hbL
          obtain ⟨bs3, hM3⟩ := (hR3.below hbL).at_
          have hMA : MemAt wr m.o m.oc m.g m.gb m.gr 12 4 (M3O s).L bs3 ((M3O s).R.map opL) := hM3
          clear hM3
          go_wp2_with (refine wpList_load_row rfl 82 _ rfl G rfl 82 _ (0, 0) _ BGr.h Try.underlying82 rfl (by kernel_rfl) ?_)
          refine (show Calls _ _ _ _ _ from k_new (parO k) wr hMA (par_ok (by omega))).mono ?_
          rintro e w9 ⟨rfl, BT, hb9⟩
          rw [kNew_o (by omega)] at BT
          have hsz := hb9.size
          have hszl := hbL.size
          have hBTl := BT.lt
          generalize hte : wr.heap.size + 1 = t at BT hBTl ⊢
          have ht0 : wr.heap.size ≤ t := by omega
          replace hte := Lib.hid hte
          obtain ⟨g, cap, w', hrun, hT', hbA⟩ := HT.add (by omega) hb9 ht0 (by rw [hkl]; exact BT) (by omega) hszl
          rw [hkl] at hrun
          have hrun := Lib.hid hrun
          go_wp2_with (at_builtin; refine wpList_append_run hrun.out rfl (by rfl) (by rfl) (by rfl) ?_)
          go_roundw
          case rel => exact ⟨k + 1, _, _, ts ++ [t], by omega, by simp [hkl], rfl, by go_num, hbA _ (Nat.le_refl _) hbL, hT'⟩
          case measure => simp [intOf]; omega
        obtain rfl : many = k := by omega
        clear hlt
        obtain ⟨tb, rfl, hCO⟩ := HT.co hkl hm1 hm4 hb0 hbL hR3 hlo hs1 hs4
        clear HT hbL hR3 hlo BG hk
        generalize (fun h => ts.getD h 0) = tk at hCO
        go_upto_region 27 with (fail)
        go_loopw [16, 17, 108] (fun v16 v17 i wr => ∃ (N : Nat) (M : MemV) (ks : Nat → KS) (cc : Nat) (dn gt : Bool), N ≤ xs.length + 100 * many ∧ i = .int .i64 N ∧ v16 = .int .i64 (tuI cc) ∧ v17 = .int .i64 (enI gt) ∧ CO w wr m M tb tk many s ks cc dn gt ∧ ∀ h, h < many → krem (ks h) + turnsO many h (max N xs.length) ≤ turnsO many h (xs.length + 100 * many)) (fun _ _ i _ => xs.length + 100 * many - (intOf i).toNat)
        case atStart => exact ⟨0, M3O s, fun _ => k0O, 0, false, false, Nat.zero_le _, rfl, rfl, rfl, hCO, fun h hh => by rw [Nat.max_eq_right (Nat.zero_le _), turns_all many h _ hm1 hm4 hh]; show 67 + _ ≤ _; omega⟩
        case round =>
          clear hCO
          obtain ⟨N, M, ks, cc, dn, gt, hN, rfl, rfl, rfl, hCO, hK⟩ := hrel
          by_cases hlt : N < xs.length + 100 * many
          · have hlt' : (N : Int) < (xs.length : Int) + 100 * (many : Int) := by omega
            go_upto_region 30 with (fail)
            go_cut [117] from 110 to 225 (fun v117 W => W = wr ∧ v117 = .bool (decide (N < xs.length)))
            case first =>
              go_wp2_with fail
              go_meet
              exact ⟨rfl, rfl⟩
            case rest =>
              obtain ⟨rfl, rfl⟩ := hcut
              apply_assumption
              go_cut [19] from 110 to 225 (fun v19 W => W = wc ∧ ∃ h : Nat, h < many ∧ v19 = .int .i64 h ∧ (xs.length ≤ N → h = N % many))
              case first =>
                by_cases hNL : N < xs.length
                · have q1 : decide (N < xs.length) = true := by simp; omega
                  obtain ⟨b, off, n, ha, hbl, hcell, hn⟩ := u8_cell (H.keep (Keeps.of_below hCO.b)) N hNL
                  obtain rfl := ha
                  have q2 : (N : Int) < (xs.length : Int) := by omega
                  go_wp2_with fail
                  go_meet
                  exact ⟨rfl, n % many, Nat.mod_lt _ (by omega), by rw [Int.natCast_emod], fun e => by omega⟩
                · have q1 : decide (N < xs.length) = false := by simp; omega
                  go_wp2_with fail
                  go_meet
                  exact ⟨rfl, N % many, Nat.mod_lt _ (by omega), by rw [Int.natCast_emod], fun e => rfl⟩
              case rest =>
                obtain ⟨rfl, h, hh, rfl, hhN⟩ := hcut
                have hhI : (h : Int) < (many : Int) := by omega
                have hN9 : (N : Int) + 1 ≤ 1001 := by omega
                have hrow := hCO.row h hh
                by_cases h8 : (ks h).at_ = 8
                · have hN8 := hCO.over hh h8
                  go_wp2_with fail
                  refine hN8.mono ?_
                  rintro e w6 ⟨rfl, hb6⟩
                  have hbx : Below w6.heap.size w6 (w6.alloc (.cells (accY 0 0 0 0) 39)) := (Below.refl _ w6).alloc (Nat.le_refl _) _
                  have hCO1 := (hCO.under hb6).under hbx
                  clear hN8 hCO hrow hb6
                  go_wp2_with (refine wpList_store_row rfl 39 _ _ rfl _ _ rfl rfl 39 _ (Blk.new w6 _ _).h (by kernel_rfl) (by rfl) (by kernel_rfl) ?_; rw [World.setRow_alloc_new])
                  go_roundw
                  case rel => exact ⟨N + 1, M, ks, cc, dn, gt, by omega, by go_num, rfl, rfl, hCO1, krem_over hm1 hm4 hh hhN hK h8 hlt⟩
                  case measure => simp [intOf]; omega
                · have hN8 := hCO.next hh h8
                  have hacc := fun W => hCO.acc hh W
                  have hfew : Few (kAcc 12 4 (parO h) (ks h)).block := k_few
                  go_wp2_with fail
                  refine hN8.mono ?_
                  rintro e w6 ⟨rfl, hb6⟩
                  have hbx : Below w6.heap.size w6 (w6.alloc (.cells (acc26 nilH (kAcc 12 4 (parO h) (ks h))).toArray 39)) := (Below.refl _ w6).alloc (Nat.le_refl _) _
                  have BX := Blk.new w6 (acc26 nilH (kAcc 12 4 (parO h) (ks h))).toArray 39
                  have hCO1 := (hCO.under hb6).under hbx
                  clear hN8 hCO hrow hb6
                  obtain ⟨q, BT, hq⟩ := hCO1.task h hh
                  have hrow := hCO1.row h hh
                  have h3 : ∀ b ∈ [m.g, m.gb, m.gr], b ∈ m.own := by simp [MemId.own]
                  obtain ⟨ac, hac⟩ : ∃ ac, ac = kAcc 12 4 (parO h) (ks h) := ⟨_, rfl⟩
                  rw [← hac] at hacc hfew hCO1 BX hbx BT hrow ⊢
                  replace hac := Lib.hid hac
                  go_wp2_with (refine wpList_store_row rfl 39 _ _ rfl _ _ rfl rfl 39 _ (Blk.new w6 _ _).h (by kernel_rfl) (by rfl) (by kernel_rfl) ?_; rw [World.setRow_alloc_new])
                  refine (cEnded_any (tk h) _ _ _ _ _ _ _ _ _ _ _ _ BT).mono ?_
                  rintro e w7 ⟨rfl, rfl⟩
                  go_upto_region 35 with (fail)
                  refine wp_region_held_drew (S := fun w' => w'.cell? ⟨tb, h, none⟩ = some (.pointer (some ⟨tk h, 0, none⟩))) (by kernel_rfl) hrow (fun hHeld => ?_)
                  have BX2 := BX.drew
                  have hCO2 := hCO1.under ((Below.refl _ _).drew)
                  have hrow2 := hCO2.row h hh
                  refine wpAnyH_take (i := 0) (oi := ⟨_, _, _, _, _, _⟩) (v := ?_) rfl (by kernel_rfl) (by kernel_rfl) (by kernel_rfl) (fun _ _ _ h => h) (Or.inl ⟨by rfl, ?_⟩) (by assumption) ?_
                  rotate_left
                  · intro wS hSw
                    try dsimp only at hSw
                    go_simp
                    try with_reducible rfl
                  try simp only [Act.put, List.setIfInBounds_toArray, List.set_cons_zero, List.set_cons_succ]
                  refine wpAnyH_take (i := 1) (oi := ⟨_, _, _, _, _, _⟩) (v := ?_) rfl (by kernel_rfl) (by kernel_rfl) (by kernel_rfl) (fun _ _ _ h => h) (Or.inl ⟨by rfl, ?_⟩) (by assumption) ?_
                  rotate_left
                  · intro wS hSw
                    try dsimp only at hSw
                    go_simp
                    try with_reducible rfl
                  try simp only [Act.put, List.setIfInBounds_toArray, List.set_cons_zero, List.set_cons_succ]
                  refine wpAnyH_take (i := 2) (oi := ⟨_, _, _, _, _, _⟩) (v := ?_) rfl (by kernel_rfl) (by kernel_rfl) (by kernel_rfl) (fun _ _ _ h => h) (Or.inl ⟨by rfl, ?_⟩) (by assumption) ?_
                  rotate_left
                  · intro wS hSw
                    try dsimp only at hSw
                    go_simp
                    try with_reducible rfl
                  try simp only [Act.put, List.setIfInBounds_toArray, List.set_cons_zero, List.set_cons_succ]
                  refine wpAnyH_take (i := 3) (oi := ⟨_, _, _, _, _, _⟩) (v := ?_) rfl (by kernel_rfl) (by kernel_rfl) (by kernel_rfl) (fun _ _ _ h => h) (Or.inl ⟨by rfl, ?_⟩) (by assumption) ?_
                  rotate_left
                  · intro wS hSw
                    try dsimp only at hSw
                    go_simp
                    try with_reducible rfl
                  try simp only [Act.put, List.setIfInBounds_toArray, List.set_cons_zero, List.set_cons_succ]
                  refine wpAnyH_take (i := 4) (oi := ⟨_, _, _, _, _, _⟩) (v := ?_) rfl (by kernel_rfl) (by kernel_rfl) (by kernel_rfl) (fun _ _ _ h => h) (Or.inl ⟨by rfl, ?_⟩) (by assumption) ?_
                  rotate_left
                  · intro wS hSw
                    try dsimp only at hSw
                    go_simp
                    try with_reducible rfl
                  try simp only [Act.put, List.setIfInBounds_toArray, List.set_cons_zero, List.set_cons_succ]
                  refine wpAnyH_ready (rs := [5]) (by kernel_rfl) (by simp) ?_
                  refine AllReadyH.cons rfl (fun K hK => ?_) AllReadyH.nil
                  refine wp_load_row 39 _ rfl w6.heap.size rfl 39 _ (0, 0) _ BX2.h Try.underlying39 rfl (by kernel_rfl) ?_
                  refine hK.out _ _ hrow2 (fun hHeld => ?_)
                  clear hK K
                  refine wpAnyH_ready (rs := [6]) (by kernel_rfl) (by simp) ?_
                  refine AllReadyH.cons rfl (fun K hK => ?_) AllReadyH.nil
                  go_simp
                  refine (show Calls _ _ _ _ _ from do_any ac nilH _ hCO2.mem hCO2.lt (hacc _) hfew).mono ?_
                  intro e W2 hD
                  obtain ⟨⟨qr, rfl, hrep, hz⟩, _, _⟩ := id hD
                  have hrow3 : W2.cell? ⟨tb, h, none⟩ = some (.pointer (some ⟨tk h, 0, none⟩)) := (hD.fr.keeps.cell (p := ⟨tb, h, none⟩) hCO2.tbl (fun e => hCO2.ne.1 (h3 _ e))).trans hrow2
                  refine hK.out _ _ hrow3 (fun hHeld => ?_)
                  clear hK K
                  refine wpAnyH_ready (rs := [7]) (by kernel_rfl) (by simp) ?_
                  refine AllReadyH.cons rfl (fun K hK => ?_) AllReadyH.nil
                  go_simp
                  have hac := hac.out
                  subst hac
                  have hrem := hCO2.rem hh h8
                  replace hrep := hrep.more (S' := blksO m tb tk many) (fun b hb => .inl (List.mem_range.2 (hCO2.lt b hb)))
                  refine (hCO2.tell hh h8 hD hrep).mono ?_
                  rintro e W3 ⟨rfl, M1, c1, d1, g1, hSt, hCO3⟩
                  refine hK.out _ _ (hCO3.row h hh) (fun hHeld => ?_)
                  clear hK K
                  refine wpAnyH_done (by kernel_rfl) ?_ _
                  generalize kTell (parO h) (ks h) (repV M (kAcc 12 4 (parO h) (ks h))) = k1 at hSt hCO3 hrem
                  have hK3 := krem_upd hm1 hm4 hh hhN hK hrem
                  have hen := hSt.en
                  have htu := tuI_step hSt.up hSt.tu
                  have hgu := hSt.gu
                  clear hSt hrem hK hD hrep hz hCO1 hCO2 BX BX2 hrow hrow2 hrow3 BT hbx hacc hfew hq
                  obtain ⟨q3, BT3, hq3⟩ := hCO3.task h hh
                  rw [show upd ks h k1 h = k1 from if_pos rfl] at BT3
                  have hrow4 := hCO3.row h hh
                  clear hq3
                  generalize upd ks h k1 = ks1 at hCO3 hK3
                  generalize hen0 : (ks h).en = en0 at hen ⊢
                  clear hen0
                  clear h8 hac
                  as_aux_lemma =>
                    go_upto_region 36 with (fail)
                    go_cut [152] from 110 to 225 (fun v152 W => W = W3 ∧ v152 = .bool k1.tu)
                    case first =>
                      go_wp2_with fail
                      refine (cTurned_any (tk h) _ _ _ _ _ _ _ _ _ _ _ _ BT3).mono ?_
                      rintro e w8 ⟨rfl, rfl⟩
                      go_wp2_with fail
                      go_meet
                      exact ⟨rfl, rfl⟩
                    case rest =>
                      obtain ⟨rfl, rfl⟩ := hcut
                      apply_assumption
                      go_cut [16] from 110 to 225 (fun v16 W => W = wc ∧ v16 = .int .i64 (tuI c1))
                      case first =>
                        by_cases ht : k1.tu = true
                        · rw [ht]
                          rw [if_pos ht] at htu
                          have hx1 : 0 ≤ tuI cc ∧ tuI cc ≤ 1 := by unfold tuI; split <;> omega
                          generalize tuI cc = x1 at htu hx1 ⊢
                          go_wp2_with fail
                          go_meet
                          exact ⟨rfl, by rw [htu]⟩
                        · have ht' : k1.tu = false := by simpa using ht
                          rw [ht']
                          rw [if_neg ht, Int.add_zero] at htu
                          go_wp2_with fail
                          go_meet
                          exact ⟨rfl, by rw [htu]⟩
                      case rest =>
                        obtain ⟨rfl, rfl⟩ := hcut
                        obtain ⟨bs5, hM5⟩ := hCO3.mem.at_
                        rw [hCO3.oi.A, hCO3.oi.T] at hM5
                        have hm4' := hCO3.oi.s4
                        clear htu
                        as_aux_lemma =>
                          go_wp2_with fail
                          go_loopw [23, 156] (fun v23 i wr => ∃ j d : Nat, j ≤ s ∧ i = .int .i64 j ∧ v23 = .int .i64 d ∧ (j ≤ c1 → d = j) ∧ (c1 ≤ j → d = c1) ∧ Below wc.heap.size wc wr) (fun _ i _ => s - (intOf i).toNat)
                          case atStart => exact ⟨0, 0, Nat.zero_le _, rfl, rfl, fun _ => rfl, fun e => by omega, Below.refl _ _⟩
                          case round =>
                            obtain ⟨j, d, hj, rfl, rfl, hd1, hd2, hbJ⟩ := hrel
                            by_cases hjs : j < s
                            · have hjs' : (j : Int) < (s : Int) := by omega
                              obtain ⟨hy, hn⟩ := hCO3.oi.cell j hjs
                              go_wp2_with fail
                              refine (node_any ((j : Int) + 1) _ (hM5.below hbJ) (by omega) (by omega)).mono ?_
                              rintro e w9 ⟨rfl, hb9⟩
                              rw [at_node1 (by omega)]
                              have hb9' := below_push2 hbJ hb9 (Nat.le_refl _)
                              go_wp2_with fail
                              refine (mload_any ((j : Int) + 1) _ (hM5.below hb9')).mono ?_
                              rintro e w10 ⟨rfl, hb10⟩
                              have hb10' := below_push2 hb9' hb10 (Nat.le_refl _)
                              by_cases hjc : j < c1
                              · rw [(hy hjc).1, (hy hjc).2]
                                obtain rfl : d = j := hd1 (by omega)
                                clear hy hn hd1 hd2
                                go_wp2_with fail
                                go_roundw
                                case rel => exact ⟨d + 1, d + 1, by omega, by go_num, by go_num, fun _ => rfl, fun e => by omega, hb10'⟩
                                case measure => simp [intOf]; omega
                              · rw [(hn hjc).1, (hn hjc).2]
                                obtain rfl : d = c1 := hd2 (by omega)
                                clear hy hn hd1 hd2
                                have hcj : (d : Int) ≤ (j : Int) := by omega
                                go_wp2_with fail
                                go_roundw
                                case rel => exact ⟨j + 1, d, by omega, by go_num, by go_num, fun e => by omega, fun _ => rfl, hb10'⟩
                                case measure => simp [intOf]; omega
                            obtain rfl : s = j := by omega
                            have hcs := hCO3.oi.cs
                            obtain rfl : d = c1 := hd2 hcs
                            clear hd1 hd2
                            have hCO4 := hCO3.under hbJ
                            have BT4 := BT3.below hbJ
                            have hrow5 := hCO4.row h hh
                            have hM6 := hM5.below hbJ
                            have hEnd := Lib.hid hCO3.oi.ended
                            clear hCO3 hM5 hbJ BT3 hrow4
                            by_cases hE : k1.en = true ∧ en0 = false
                            · obtain ⟨g0, g1'⟩ := hen.1 hE
                              obtain ⟨e1, e2, e3⟩ := hEnd.out g1'
                              clear hEnd
                              obtain ⟨hk1, rfl⟩ := hE
                              subst g0 g1' e1
                              rw [show enI false = 0 from rfl]
                              go_wp2_with fail
                              refine (cEnded_any (tk h) _ _ _ _ _ _ _ _ _ _ _ _ BT4).mono ?_
                              rintro e w8 ⟨rfl, rfl⟩
                              rw [hk1]
                              go_wp2_with fail
                              refine (done_any 1 _ hM6 (by omega) (by omega)).mono ?_
                              rintro e w9 ⟨rfl, hb9⟩
                              rw [at_done1]
                              go_wp2_with fail
                              refine (mload_any 29 _ (hM6.below hb9)).mono ?_
                              rintro e w10 ⟨rfl, hb10⟩
                              rw [e2, e3]
                              go_wp2_with fail
                              go_roundw
                              case rel => exact ⟨N + 1, M1, ks1, _, d1, true, by omega, by go_num, rfl, rfl, (hCO4.under hb9).under hb10, hK3⟩
                              case measure => simp [intOf]; omega
                            · have hsame : enI g1 = enI gt := enI_same hgu (fun e => hE (hen.2 e))
                              cases hk1 : k1.en with
                              | false =>
                                go_wp2_with fail
                                refine (cEnded_any (tk h) _ _ _ _ _ _ _ _ _ _ _ _ BT4).mono ?_
                                rintro e w8 ⟨rfl, rfl⟩
                                rw [hk1]
                                go_wp2_with fail
                                go_roundw
                                case rel => exact ⟨N + 1, M1, ks1, _, d1, g1, by omega, by go_num, rfl, by rw [hsame], hCO4, hK3⟩
                                case measure => simp [intOf]; omega
                              | true =>
                                obtain rfl : en0 = true := by
                                  cases en0
                                  · exact absurd ⟨hk1, rfl⟩ hE
                                  · rfl
                                go_wp2_with fail
                                refine (cEnded_any (tk h) _ _ _ _ _ _ _ _ _ _ _ _ BT4).mono ?_
                                rintro e w8 ⟨rfl, rfl⟩
                                rw [hk1]
                                go_wp2_with fail
                                go_roundw
                                case rel => exact ⟨N + 1, M1, ks1, _, d1, g1, by omega, by go_num, rfl, by rw [hsame], hCO4, hK3⟩
                                case measure => simp [intOf]; omega
          · obtain rfl : N = xs.length + 100 * many := by omega
            obtain ⟨e1, e2, e44⟩ := co_end hCO hm1 hK
            obtain ⟨bs4, hM4⟩ := hCO.mem.at_
            rw [hCO.oi.A, hCO.oi.T] at hM4
            obtain ⟨l1, l2⟩ := load_at (i := 44) hCO.oi.len (by omega)
            rw [e44] at l1 l2
            have l3 : loadW M.L 44 = 0 := l1
            have l4 : loadV M.L 44 = 2 := l2
            have hbE := hCO.b
            rw [e1, e2]
            clear e1 e2 l1 l2 hCO hK hlt
            as_aux_lemma =>
              go_wp2_with fail
              refine (gate_any _ hM4).mono ?_
              rintro e w6 ⟨rfl, hb6⟩
              rw [at_gate44]
              go_wp2_with fail
              refine (mload_any 44 _ (hM4.below hb6)).mono ?_
              rintro e w7 ⟨rfl, hb7⟩
              rw [l3, l4]
              go_wp2_with fail
              refine (carLives_any _).mono ?_
              rintro e w8 ⟨rfl, hb8⟩
              go_wp2_with fail
              go_ret
              exact ⟨rfl, below_push2 (below_push2 (below_push2 hbE hb6 (Nat.le_refl _)) hb7 (Nat.le_refl _)) hb8 (Nat.le_refl _)⟩
end Go.Proofs.Ytpempcefgfmniaa.carryOnce
