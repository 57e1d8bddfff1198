/-
  plan.Fill: contract.
-/
import Derived.Test.YtnecikholpiefaaPlanJ
import Derived.Deep.RegionHeld
namespace Go.Proofs.Ytnecikholpiefaa.Dp
open Go.RowKit RefP FoP
set_option linter.unusedVariables false
set_option linter.unusedSimpArgs false
theorem zip_app {α β : Type} (ws : List α) (out l : List β) (h : out.length ≤ ws.length) : ws.zip (out ++ l) = ws.zip out ++ (ws.drop out.length).zip l := by
  induction out generalizing ws with
  | nil => simp
  | cons y out ih =>
    cases ws with
    | nil => simp at h
    | cons x ws =>
      simp only [List.length_cons] at h
      simp only [List.cons_append, List.zip_cons_cons, List.length_cons, List.drop_succ_cons]
      rw [ih ws (by omega)]
theorem may_parts {x : AskV} (h : mayK x = true) : ∃ f : Nat, x.fan = (f : Int) ∧ 4 ≤ f ∧ f ≤ 64 ∧ x.words.length = 1 + chunkN f x.a.pairs.length + fullN x.c ∧ fromsB x.c = true := by
  unfold mayK fanB at h
  simp only [Bool.and_eq_true, decide_eq_true_eq] at h
  obtain ⟨⟨h1, h2⟩, h3, h4, h5⟩ := h
  refine ⟨x.fan.toNat, by omega, by omega, by omega, h3, h5⟩
theorem fill_zip {x : AskV} {f : Nat} (hf : x.fan = (f : Int)) (hn : x.words.length = 1 + chunkN f x.a.pairs.length + fullN x.c) :
    x.words.zip (fillV x) = (x.words.zip (fsAll x.words x.c).out ++ exL x.words (fullN x.c) f x.a.pairs (chunkN f x.a.pairs.length)) ++ [(x.words.getD (fullN x.c + chunkN f x.a.pairs.length) 0, ⟨2, fNodeZ, fPlan x, []⟩)] := by
  have ho : (fsAll x.words x.c).out.length = fullN x.c := by
    have := (fsAll_len x.words x.c x.c.length (Nat.le_refl _)).2
    rwa [List.take_length] at this
  have hl : (List.map fPairs (chunksV f x.a.pairs)).length = chunkN f x.a.pairs.length := by rw [List.length_map, chunksV_length]
  unfold fillV
  rw [hf, Int.toNat_natCast, zip_app _ _ _ (by omega), ho, zip_snoc _ _ _ 0 (by rw [hl]; simp; omega), hl, ← List.append_assoc]
  congr 2
  · unfold exL chunksV
    rw [List.map_map]; rfl
  · simp [List.getD_eq_getElem?_getD, List.getElem?_drop]
theorem words_ok {w : World} {S : List Nat} {h : Hd} {xs : List Int} (H : HRow u64C w S h xs) : ∀ x ∈ xs, U64 x := by
  intro x hx
  obtain ⟨i, hi, rfl⟩ := List.getElem_of_mem hx
  obtain ⟨_, _, _, _, _, hu⟩ := word_cell H i hi
  exact hu
def FillAt (w : World) (x : AskV) (e : Ending) (w' : World) : Prop :=
  ∃ a c, e = .returned (.tuple #[.slice a (x.words.zip (fillV x)).length c, .bool true]) ∧ HRow filledT w' [] ⟨a, c⟩ (x.words.zip (fillV x)) ∧ Below w.heap.size w w'
set_option maxRecDepth 100000 in
set_option maxHeartbeats 3200000 in
theorem pfill_no (S : List Nat) (q : AskH) (x : AskV) (w : World) (H : AskOk w S q x) (l1 : x.c.length ≤ 60) (l2 : x.a.pairs.length ≤ 300) (l3 : x.words.length ≤ 300) (hm : mayK x = false) :
    Calls Try.prog 7 #[.agg (draftA q x), .slice q.words.a x.words.length q.words.c, .int .i64 x.thread, .int .i64 x.fan] w fun e w' => e = .returned (.tuple #[.slice none 0 0, .bool false]) ∧ Below w.heap.size w w' := by
  have hb0 : Below w.heap.size w (w.alloc (.cells (draftA q x) 36)) := by (repeat (first | exact Below.refl _ _ | assumption | refine below_alloc2 ?_ (by first | exact Nat.le_refl _ | omega) _ | refine Below.drew ?_ | refine below_drewN ?_ _ | refine below_push2 ?_ ‹_› (by first | exact Nat.le_refl _ | omega) | refine Below.setCell ?_ (by first | (simp; done) | (simp; omega) | omega) _))
  have BA := Blk.new w (draftA q x) 36
  obtain ⟨AB, hAB⟩ : ∃ b, b = w.heap.size := ⟨_, rfl⟩
  go_enter Try.func7, Try.ntmps7
  go_upto_region 1 with (fail)
  rw [← hAB] at BA ⊢
  generalize w.alloc (.cells (draftA q x) 36) = w0 at hb0 BA ⊢
  have a0 := BA.at 0 rfl
  have a1 := BA.at 1 rfl
  have a2 := BA.at 2 rfl
  have a3 := BA.at 3 rfl
  have a4 := BA.at 4 rfl
  replace hAB := Lib.hid hAB
  go_wp2_with fail
  refine (show Calls _ _ _ _ _ from pmay_any S q x _ (H.keep (Keeps.of_below hb0)) l1 l2 l3).mono ?_
  rintro e w1 ⟨rfl, hb1⟩
  rw [hm]
  replace hb0 := below_push2 hb0 hb1 (Nat.le_refl _)
  replace BA := BA.below hb1
  clear a0 a1 a2 a3 a4 hb1
  go_wp2_with fail
  go_ret2
  exact ⟨rfl, hb0⟩
set_option maxRecDepth 100000 in
set_option maxHeartbeats 3200000 in
theorem pfill_yes (S : List Nat) (q : AskH) (x : AskV) (w : World) (H : AskOk w S q x) (l1 : x.c.length ≤ 60) (l2 : x.a.pairs.length ≤ 300) (l3 : x.words.length ≤ 300) (hm : mayK x = true) :
    Calls Try.prog 7 #[.agg (draftA q x), .slice q.words.a x.words.length q.words.c, .int .i64 x.thread, .int .i64 x.fan] w fun e w' => FillAt w x e w' := by
  have hmf : ∀ (fn : Fn) (first cap : Array Value) (w : World), (Instr.makeFunc fn first cap).run Try.prog w = .ok (.func fn first cap) w := fun _ _ _ _ => rfl
  have hb0 : Below w.heap.size w (w.alloc (.cells (draftA q x) 36)) := by (repeat (first | exact Below.refl _ _ | assumption | refine below_alloc2 ?_ (by first | exact Nat.le_refl _ | omega) _ | refine Below.drew ?_ | refine below_drewN ?_ _ | refine below_push2 ?_ ‹_› (by first | exact Nat.le_refl _ | omega) | refine Below.setCell ?_ (by first | (simp; done) | (simp; omega) | omega) _))
  have BA := Blk.new w (draftA q x) 36
  obtain ⟨AB, hAB⟩ : ∃ b, b = w.heap.size := ⟨_, rfl⟩
  go_enter Try.func7, Try.ntmps7
  go_upto_region 1 with (fail)
  rw [← hAB] at BA ⊢
  generalize w.alloc (.cells (draftA q x) 36) = w0 at hb0 BA ⊢
  have a0 := BA.at 0 rfl
  have a1 := BA.at 1 rfl
  have a2 := BA.at 2 rfl
  have a3 := BA.at 3 rfl
  have a4 := BA.at 4 rfl
  replace hAB := Lib.hid hAB
  go_wp2_with fail
  refine (show Calls _ _ _ _ _ from pmay_any S q x _ (H.keep (Keeps.of_below hb0)) l1 l2 l3).mono ?_
  rintro e w1 ⟨rfl, hb1⟩
  rw [hm]
  replace hb0 := below_push2 hb0 hb1 (Nat.le_refl _)
  replace BA := BA.below hb1
  clear a0 a1 a2 a3 a4 hb1
  obtain ⟨f, hf, f0, f1, hwl, hfr⟩ := may_parts hm
  rw [hf]
  have hlt1 : AB < w1.heap.size := BA.lt
  have hfz := fill_zip hf hwl
  have hm1 : 0 + fullN x.c ≤ x.words.length := by omega
  have hm2 : fullN x.c + chunkN f x.a.pairs.length < x.words.length := by omega
  replace hfz := Lib.hid hfz
  replace hwl := Lib.hid hwl
  replace hf := Lib.hid hf
  go_upto_region 4 with (fail)
  have hbH : Below w1.heap.size w1 (w1.alloc (.cells (handA q.words x.words) 68)) := (Below.refl _ w1).alloc (Nat.le_refl _) _
  have BH := Blk.new w1 (handA q.words x.words) 68
  have hz1 := hb0.size
  obtain ⟨HB, hHB⟩ : ∃ b, b = w1.heap.size := ⟨_, rfl⟩
  rw [← hHB] at BH ⊢
  have hb2 := below_push2 hb0 hbH (Nat.le_refl _)
  replace BA := BA.below hbH
  have hne : AB ≠ HB := by omega
  have hHw : w.heap.size ≤ HB := by omega
  have hk1 : Keeps S w w1 := Keeps.of_below hb0
  have hmS : ∀ b ∈ HB :: S, b ∈ S ∨ w1.heap.size ≤ b := fun b hb => by
    rcases List.mem_cons.1 hb with e | e
    · exact .inr (by omega)
    · exact .inl e
  have hk2 : Keeps (HB :: S) w1 (w1.alloc (.cells (handA q.words x.words) 68)) := Keeps.of_below hbH
  have HW := ((H.words.keep hk1).more hmS).keep hk2
  have HC := ((H.c.keep hk1).more hmS).keep hk2
  have HP := ((H.a.pairs.keep hk1).more hmS).keep hk2
  clear hk1 hk2 hmS
  generalize w1.alloc (.cells (handA q.words x.words) 68) = w2 at hb2 BA BH HW HC HP ⊢
  have hu := words_ok HW
  have HH : Hand w2 w2 (HB :: S) HB x.words 0 := ⟨Fr.refl _ _, BH.lt, by simp, q.words, by simpa using BH, by simpa using HW⟩
  have hHB2 : HB < w2.heap.size := BH.lt
  have hab2 : AB < w2.heap.size := BA.lt
  have a4 := BA.at 4 rfl
  clear hb0 hbH BH HW hz1 hlt1
  replace hHB := Lib.hid hHB
  go_wp2_with fail
  refine (show Calls _ _ _ _ _ from psteps_any (HB :: S) q.c x.c HB x.words w2 HC l1 hfr HH (by omega) hu).mono ?_
  rintro e w3 ⟨p1, d1, p2, d2, rfl, PS3⟩
  have hl1 : (x.words.zip (fsAll x.words x.c).out).length ≤ 300 := by rw [List.length_zip]; omega
  generalize x.words.zip (fsAll x.words x.c).out = L1 at PS3 hfz hl1 ⊢
  generalize hL2 : (fsAll x.words x.c).st = L2 at PS3 ⊢
  replace hL2 := Lib.hid hL2
  have BA3 := PS3.h.fr.blk BA (by simpa using hne)
  have hX1 := PS3.out.lt
  have HP3 := (HP.more (S' := HB :: S ++ ob p1) (fun b hb => by
    rcases List.mem_append.1 hb with e | e
    · exact .inl e
    · exact .inr (hX1 b e).1)).keep (PS3.h.keeps.more (fun b hb => List.mem_append_left _ hb))
  have a3 := BA3.at 3 rfl
  clear a4 HC HP HH
  go_wp2_with fail
  refine (show Calls _ _ _ _ _ from pextra_any (ob p1) (HB :: S ++ ob p1) q.pairs x.a.pairs f HB x.words (fullN x.c) w3 HP3 l2 f0 f1 (PS3.h.rebase2 _ (fun b hb => (hX1 b hb).1)) (by omega) hu (fun b hb => (PS3.out.lt b hb).2)).mono ?_
  rintro e w4 ⟨e1, g1, e2, g2, rfl, EX4⟩
  have hlx : (exL x.words (fullN x.c) f x.a.pairs (chunkN f x.a.pairs.length)).length ≤ 300 := by rw [exL_len _ _ _ _ _ (by omega)]; omega
  generalize exL x.words (fullN x.c) f x.a.pairs (chunkN f x.a.pairs.length) = Lx at EX4 hfz hlx ⊢
  have hWx : (x.words.drop (fullN x.c)).take (chunkN f x.a.pairs.length) = fExtra x := by unfold fExtra; rw [hf.out, Int.toNat_natCast]
  rw [hWx] at EX4 ⊢
  generalize hWE : fExtra x = Wx at EX4 ⊢
  replace hWE := Lib.hid hWE
  have BA4 := EX4.h.fr.blk BA3 (by simpa using hne)
  clear a3 HP3 hWx BA BA3
  have a0 := BA4.at 0 rfl
  have a1 := BA4.at 1 rfl
  have a2 := BA4.at 2 rfl
  have a3 := BA4.at 3 rfl
  have hbP : Below w4.heap.size w4 (w4.alloc (.cells #[.int .i64 x.thread, .int .i64 x.a.code, .string x.a.key, .int .u64 x.a.val, .slice q.pairs.a x.a.pairs.length q.pairs.c, .slice p2 L2.length d2, .slice e2 Wx.length g2] 46)) := (Below.refl _ w4).alloc (Nat.le_refl _) _
  have BP := Blk.new w4 #[.int .i64 x.thread, .int .i64 x.a.code, .string x.a.key, .int .u64 x.a.val, .slice q.pairs.a x.a.pairs.length q.pairs.c, .slice p2 L2.length d2, .slice e2 Wx.length g2] 46
  have hz4 := PS3.h.fr.size
  have hz5 := EX4.h.fr.size
  have hzp := World.size_alloc w4 (.cells #[.int .i64 x.thread, .int .i64 x.a.code, .string x.a.key, .int .u64 x.a.val, .slice q.pairs.a x.a.pairs.length q.pairs.c, .slice p2 L2.length d2, .slice e2 Wx.length g2] 46)
  obtain ⟨PB, hPB⟩ : ∃ b, b = w4.heap.size := ⟨_, rfl⟩
  rw [← hPB] at BP
  go_upto_region 8 with (refine wpList_store_row rfl 46 _ _ rfl _ _ rfl rfl 46 _ (Blk.new w4 _ _).h (by kernel_rfl) (by rfl) (by kernel_rfl) ?_; rw [World.setRow_alloc_new])
  clear a0 a1 a2 a3
  rw [← hPB]
  generalize w4.alloc (.cells #[.int .i64 x.thread, .int .i64 x.a.code, .string x.a.key, .int .u64 x.a.val, .slice q.pairs.a x.a.pairs.length q.pairs.c, .slice p2 L2.length d2, .slice e2 Wx.length g2] 46) = w5 at hbP BP hzp ⊢
  have b4 := BP.at 4 rfl
  have f4 := BP.free 4
  replace hzp := Lib.hid hzp
  replace hPB := Lib.hid hPB
  go_upto_region 9 with (fail)
  clear b4 f4
  have hzp := hzp.out
  have hPB := hPB.out
  have hbQ := hbP.setCell (p := ⟨PB, 4, none⟩) (show w4.heap.size ≤ PB by omega) (.slice none 0 0)
  have BP6 := BP.set 4 (.slice none 0 0)
  simp only [List.setIfInBounds_toArray, List.set_cons_succ, List.set_cons_zero] at BP6
  clear hbP BP
  generalize w5.setCell ⟨PB, 4, none⟩ (.slice none 0 0) = w6 at hbQ BP6 ⊢
  have EX6 := EX4.under hbQ
  have F36 : Fr [HB] w3 w6 := EX4.h.fr.trans (Fr.of_below hbQ)
  have F26 : Fr [HB] w2 w6 := PS3.h.fr.trans F36
  have nHB1 : HB ∉ ob p1 := fun e => by have := (hX1 _ e).1; omega
  have O1 : OwnV filledT w6 (HB :: ob p1) w6 w2.heap.size 50 p1 d1 L1 := by
    refine (((PS3.out.more (S' := HB :: S ++ ob p1) (fun b hb => ?_)).keep (F26.keeps.more (by simp))).fr F36 (fun g hg e => ?_)).more (fun b hb => .inl ?_)
    · rcases List.mem_append.1 hb with e | e
      · exact .inl e
      · exact .inr (hX1 b e).1
    · simp at e; subst e; exact nHB1 hg
    · rcases List.mem_cons.1 hb with e | e
      · simp [e]
      · simp [e]
  have hE1 := EX6.out.lt
  have hW1 := EX6.wo.lt
  have hS1 := PS3.st.lt
  have hz6 := EX6.h.fr.size
  have M : HRow filledT w6 (HB :: ob p1) ⟨e1, g1⟩ Lx := (EX6.out.more (S' := HB :: ob p1) (fun b hb => .inl (by
    rcases List.mem_cons.1 hb with e | e
    · simp [exS, e]
    · simp [exS, e]))).hrow (by decide) (fun g hg e => by
      have h1 := (hE1 g hg).1
      rcases List.mem_cons.1 e with e | e
      · omega
      · have := (hX1 g e).2; omega)
  obtain ⟨a', cap, w7, A⟩ := O1.addRow tinFilled (by decide) M (fun _ _ h => h) (by omega) (by decide) F26.size
  have hr1 := Lib.hid A.run
  have hLl : (L1 ++ Lx).length ≤ 600 := by rw [List.length_append]; omega
  have AO := A.own
  have AF := A.fr
  have AT := A.at'
  clear A O1 M
  generalize L1 ++ Lx = L at hr1 hfz hLl AO ⊢
  have O7 : OwnV filledT w7 (HB :: ob a') w7 w2.heap.size 50 a' cap L := by
    refine ((AO.more (S' := HB :: ob p1 ++ ob a') (fun b hb => ?_)).keep (AF.keeps.more (fun b hb => by simp [hb]))).more (fun b hb => .inl ?_)
    · rcases List.mem_append.1 hb with e | e
      · exact .inl e
      · rcases AT b e with k | k
        · exact .inl (by simp [k])
        · exact .inr (by omega)
    · rcases List.mem_cons.1 hb with e | e
      · simp [e]
      · simp [e]
  obtain ⟨qh, BH6, HW6⟩ := EX6.h.hand
  have BH7 := AF.blk BH6 nHB1
  have hk7 : Keeps (HB :: S ++ ob p1) w3 w7 := EX6.h.keeps.trans (AF.keeps.more (fun b hb => List.mem_append_right _ hb))
  have hun : U64 (x.words.getD (fullN x.c + chunkN f x.a.pairs.length) 0) := by
    rw [List.getD_eq_getElem?_getD, List.getElem?_eq_getElem hm2]; exact hu _ (List.getElem_mem _)
  have nPB1 : PB ∉ ob p1 := fun e => by have := (hX1 _ e).2; omega
  have BP7 := AF.blk BP6 nPB1
  have hPlt : PB < w6.heap.size := BP6.lt
  clear BH6 BP6
  replace hzp := Lib.hid hzp
  replace hPB := Lib.hid hPB
  go_upto_region 10 with (at_builtin; refine wpList_append_run hr1.out rfl (by rfl) (by rfl) (by rfl) ?_)
  refine wp_region_held_drew (S := fun w' => w'.cell? ⟨PB, 0, none⟩ = some (.int .i64 x.thread) ∧ w'.cell? ⟨PB, 1, none⟩ = some (.int .i64 x.a.code) ∧ w'.cell? ⟨PB, 2, none⟩ = some (.string x.a.key) ∧ w'.cell? ⟨PB, 3, none⟩ = some (.int .u64 x.a.val) ∧ w'.cell? ⟨PB, 4, none⟩ = some (.slice none 0 0) ∧ w'.cell? ⟨PB, 5, none⟩ = some (.slice p2 L2.length d2) ∧ w'.cell? ⟨PB, 6, none⟩ = some (.slice e2 Wx.length g2)) (by kernel_rfl) ⟨BP7.at 0 rfl, BP7.at 1 rfl, BP7.at 2 rfl, BP7.at 3 rfl, BP7.at 4 rfl, BP7.at 5 rfl, BP7.at 6 rfl⟩ (fun hHeld => ?_)
  have hbD : Below w7.heap.size w7 w7.drew := (Below.refl _ _).drew
  generalize w7.drew = wd at hbD ⊢
  have hcall := next_at (HB :: S ++ ob p1) HB qh _ w3 wd (BH7.below hbD) HW6 (hk7.trans (Keeps.of_below hbD)) (by simp; omega)
  rw [show (x.words.drop (fullN x.c + chunkN f x.a.pairs.length)).headD 0 = x.words.getD (fullN x.c + chunkN f x.a.pairs.length) 0 by rw [List.getD_eq_getElem?_getD, List.headD_eq_head?_getD, List.head?_drop]] at hcall
  generalize x.words.getD (fullN x.c + chunkN f x.a.pairs.length) 0 = nw at hcall hun hfz
  have BPd := BP7.below hbD
  have hSd : wd.cell? ⟨PB, 0, none⟩ = some (.int .i64 x.thread) ∧ wd.cell? ⟨PB, 1, none⟩ = some (.int .i64 x.a.code) ∧ wd.cell? ⟨PB, 2, none⟩ = some (.string x.a.key) ∧ wd.cell? ⟨PB, 3, none⟩ = some (.int .u64 x.a.val) ∧ wd.cell? ⟨PB, 4, none⟩ = some (.slice none 0 0) ∧ wd.cell? ⟨PB, 5, none⟩ = some (.slice p2 L2.length d2) ∧ wd.cell? ⟨PB, 6, none⟩ = some (.slice e2 Wx.length g2) := ⟨BPd.at 0 rfl, BPd.at 1 rfl, BPd.at 2 rfl, BPd.at 3 rfl, BPd.at 4 rfl, BPd.at 5 rfl, BPd.at 6 rfl⟩
  clear BH7 HW6 hk7 BP7
  refine wpAnyH_take (i := 0) (oi := ⟨_, _, _, _, _, _⟩) (v := ?_) rfl (by kernel_rfl) (by kernel_rfl) (by kernel_rfl) (fun _ _ _ h => h) (Or.inl ⟨by rfl, ?_⟩) (by assumption) ?_
  rotate_left
  · intro wS hSw
    try dsimp only at hSw
    go_simp
    try with_reducible rfl
  try simp only [Act.put, List.setIfInBounds_toArray, List.set_cons_zero, List.set_cons_succ]
  refine wpAnyH_take (i := 1) (oi := ⟨_, _, _, _, _, _⟩) (v := ?_) rfl (by kernel_rfl) (by kernel_rfl) (by kernel_rfl) (fun _ _ _ h => h) (Or.inl ⟨by rfl, ?_⟩) (by assumption) ?_
  rotate_left
  · intro wS hSw
    try dsimp only at hSw
    go_simp
    try with_reducible rfl
  try simp only [Act.put, List.setIfInBounds_toArray, List.set_cons_zero, List.set_cons_succ]
  refine wpAnyH_take (i := 3) (oi := ⟨_, _, _, _, _, _⟩) (v := ?_) rfl (by kernel_rfl) (by kernel_rfl) (by kernel_rfl) (fun _ _ _ h => h) (Or.inl ⟨by rfl, ?_⟩) (by assumption) ?_
  rotate_left
  · intro wS hSw
    try dsimp only at hSw
    go_simp
    try with_reducible rfl
  try simp only [Act.put, List.setIfInBounds_toArray, List.set_cons_zero, List.set_cons_succ]
  refine wpAnyH_take (i := 4) (oi := ⟨_, _, _, _, _, _⟩) (v := ?_) rfl (by kernel_rfl) (by kernel_rfl) (by kernel_rfl) (fun _ _ _ h => h) (Or.inl ⟨by rfl, ?_⟩) (by assumption) ?_
  rotate_left
  · intro wS hSw
    try dsimp only at hSw
    go_simp
    try with_reducible rfl
  try simp only [Act.put, List.setIfInBounds_toArray, List.set_cons_zero, List.set_cons_succ]
  refine wpAnyH_ready (rs := [2]) (by kernel_rfl) (by simp) ?_
  refine AllReadyH.cons rfl (fun K hK => ?_) AllReadyH.nil
  go_simp
  refine hcall.mono ?_
  rintro e w8 ⟨q8, rfl, hw8, _⟩
  have F8 : Fr [HB] wd w8 := by rw [hw8]; exact (Fr.refl _ _).set _ _ (.inl (by simp))
  have hPH : PB ∉ [HB] := by
    simp only [List.mem_singleton]
    have := hPB.out; omega
  have BP8 := F8.blk BPd hPH
  clear hcall hw8
  have hS8 : w8.cell? ⟨PB, 0, none⟩ = some (.int .i64 x.thread) ∧ w8.cell? ⟨PB, 1, none⟩ = some (.int .i64 x.a.code) ∧ w8.cell? ⟨PB, 2, none⟩ = some (.string x.a.key) ∧ w8.cell? ⟨PB, 3, none⟩ = some (.int .u64 x.a.val) ∧ w8.cell? ⟨PB, 4, none⟩ = some (.slice none 0 0) ∧ w8.cell? ⟨PB, 5, none⟩ = some (.slice p2 L2.length d2) ∧ w8.cell? ⟨PB, 6, none⟩ = some (.slice e2 Wx.length g2) := ⟨BP8.at 0 rfl, BP8.at 1 rfl, BP8.at 2 rfl, BP8.at 3 rfl, BP8.at 4 rfl, BP8.at 5 rfl, BP8.at 6 rfl⟩
  refine hK.out _ _ hS8 (fun hHeld => ?_)
  clear hK K
  refine wpAnyH_take (i := 5) (oi := ⟨_, _, _, _, _, _⟩) (v := ?_) rfl (by kernel_rfl) (by kernel_rfl) (by kernel_rfl) (fun _ _ _ h => h) (Or.inl ⟨by rfl, ?_⟩) (by assumption) ?_
  rotate_left
  · intro wS hSw
    try dsimp only at hSw
    go_simp
    try with_reducible rfl
  try simp only [Act.put, List.setIfInBounds_toArray, List.set_cons_zero, List.set_cons_succ]
  refine wpAnyH_ready (rs := [6]) (by kernel_rfl) (by simp) ?_
  refine AllReadyH.cons rfl (fun K hK => ?_) AllReadyH.nil
  go_simp
  have hb9 : Below w8.heap.size w8 (w8.alloc (.cells #[.int .u64 nw, .int .i64 2, .int .i64 0, .string ⟨#[]⟩, .string ⟨#[]⟩, .bool false, .int .i64 0, .slice none 0 0, .slice none 0 0, .slice none 0 0, .int .i64 x.thread, .int .i64 x.a.code, .string x.a.key, .int .u64 x.a.val, .slice none 0 0, .slice p2 L2.length d2, .slice e2 Wx.length g2, .slice none 0 0] 50)) := (Below.refl _ w8).alloc (Nat.le_refl _) _
  have BQ := Blk.new w8 #[.int .u64 nw, .int .i64 2, .int .i64 0, .string ⟨#[]⟩, .string ⟨#[]⟩, .bool false, .int .i64 0, .slice none 0 0, .slice none 0 0, .slice none 0 0, .int .i64 x.thread, .int .i64 x.a.code, .string x.a.key, .int .u64 x.a.val, .slice none 0 0, .slice p2 L2.length d2, .slice e2 Wx.length g2, .slice none 0 0] 50
  have BP9 := BP8.below hb9
  have hS9 : (w8.alloc (.cells #[.int .u64 nw, .int .i64 2, .int .i64 0, .string ⟨#[]⟩, .string ⟨#[]⟩, .bool false, .int .i64 0, .slice none 0 0, .slice none 0 0, .slice none 0 0, .int .i64 x.thread, .int .i64 x.a.code, .string x.a.key, .int .u64 x.a.val, .slice none 0 0, .slice p2 L2.length d2, .slice e2 Wx.length g2, .slice none 0 0] 50)).cell? ⟨PB, 0, none⟩ = some (.int .i64 x.thread) ∧ (w8.alloc (.cells #[.int .u64 nw, .int .i64 2, .int .i64 0, .string ⟨#[]⟩, .string ⟨#[]⟩, .bool false, .int .i64 0, .slice none 0 0, .slice none 0 0, .slice none 0 0, .int .i64 x.thread, .int .i64 x.a.code, .string x.a.key, .int .u64 x.a.val, .slice none 0 0, .slice p2 L2.length d2, .slice e2 Wx.length g2, .slice none 0 0] 50)).cell? ⟨PB, 1, none⟩ = some (.int .i64 x.a.code) ∧ (w8.alloc (.cells #[.int .u64 nw, .int .i64 2, .int .i64 0, .string ⟨#[]⟩, .string ⟨#[]⟩, .bool false, .int .i64 0, .slice none 0 0, .slice none 0 0, .slice none 0 0, .int .i64 x.thread, .int .i64 x.a.code, .string x.a.key, .int .u64 x.a.val, .slice none 0 0, .slice p2 L2.length d2, .slice e2 Wx.length g2, .slice none 0 0] 50)).cell? ⟨PB, 2, none⟩ = some (.string x.a.key) ∧ (w8.alloc (.cells #[.int .u64 nw, .int .i64 2, .int .i64 0, .string ⟨#[]⟩, .string ⟨#[]⟩, .bool false, .int .i64 0, .slice none 0 0, .slice none 0 0, .slice none 0 0, .int .i64 x.thread, .int .i64 x.a.code, .string x.a.key, .int .u64 x.a.val, .slice none 0 0, .slice p2 L2.length d2, .slice e2 Wx.length g2, .slice none 0 0] 50)).cell? ⟨PB, 3, none⟩ = some (.int .u64 x.a.val) ∧ (w8.alloc (.cells #[.int .u64 nw, .int .i64 2, .int .i64 0, .string ⟨#[]⟩, .string ⟨#[]⟩, .bool false, .int .i64 0, .slice none 0 0, .slice none 0 0, .slice none 0 0, .int .i64 x.thread, .int .i64 x.a.code, .string x.a.key, .int .u64 x.a.val, .slice none 0 0, .slice p2 L2.length d2, .slice e2 Wx.length g2, .slice none 0 0] 50)).cell? ⟨PB, 4, none⟩ = some (.slice none 0 0) ∧ (w8.alloc (.cells #[.int .u64 nw, .int .i64 2, .int .i64 0, .string ⟨#[]⟩, .string ⟨#[]⟩, .bool false, .int .i64 0, .slice none 0 0, .slice none 0 0, .slice none 0 0, .int .i64 x.thread, .int .i64 x.a.code, .string x.a.key, .int .u64 x.a.val, .slice none 0 0, .slice p2 L2.length d2, .slice e2 Wx.length g2, .slice none 0 0] 50)).cell? ⟨PB, 5, none⟩ = some (.slice p2 L2.length d2) ∧ (w8.alloc (.cells #[.int .u64 nw, .int .i64 2, .int .i64 0, .string ⟨#[]⟩, .string ⟨#[]⟩, .bool false, .int .i64 0, .slice none 0 0, .slice none 0 0, .slice none 0 0, .int .i64 x.thread, .int .i64 x.a.code, .string x.a.key, .int .u64 x.a.val, .slice none 0 0, .slice p2 L2.length d2, .slice e2 Wx.length g2, .slice none 0 0] 50)).cell? ⟨PB, 6, none⟩ = some (.slice e2 Wx.length g2) := ⟨BP9.at 0 rfl, BP9.at 1 rfl, BP9.at 2 rfl, BP9.at 3 rfl, BP9.at 4 rfl, BP9.at 5 rfl, BP9.at 6 rfl⟩
  refine hK.out _ _ hS9 (fun hHeld => ?_)
  clear hK K
  have FD : Fr [] w7 wd := Fr.of_below hbD
  have F89 : Fr [] w8 (w8.alloc (.cells #[.int .u64 nw, .int .i64 2, .int .i64 0, .string ⟨#[]⟩, .string ⟨#[]⟩, .bool false, .int .i64 0, .slice none 0 0, .slice none 0 0, .slice none 0 0, .int .i64 x.thread, .int .i64 x.a.code, .string x.a.key, .int .u64 x.a.val, .slice none 0 0, .slice p2 L2.length d2, .slice e2 Wx.length g2, .slice none 0 0] 50)) := Fr.of_below hb9
  have F69 : Fr (HB :: ob p1) w6 (w8.alloc (.cells #[.int .u64 nw, .int .i64 2, .int .i64 0, .string ⟨#[]⟩, .string ⟨#[]⟩, .bool false, .int .i64 0, .slice none 0 0, .slice none 0 0, .slice none 0 0, .int .i64 x.thread, .int .i64 x.a.code, .string x.a.key, .int .u64 x.a.val, .slice none 0 0, .slice p2 L2.length d2, .slice e2 Wx.length g2, .slice none 0 0] 50)) := (((AF.more (fun b hb => List.mem_cons_of_mem _ hb)).trans (FD.more (by simp))).trans (F8.more (by simp))).trans (F89.more (by simp))
  have F39 : Fr (HB :: ob p1) w3 (w8.alloc (.cells #[.int .u64 nw, .int .i64 2, .int .i64 0, .string ⟨#[]⟩, .string ⟨#[]⟩, .bool false, .int .i64 0, .slice none 0 0, .slice none 0 0, .slice none 0 0, .int .i64 x.thread, .int .i64 x.a.code, .string x.a.key, .int .u64 x.a.val, .slice none 0 0, .slice p2 L2.length d2, .slice e2 Wx.length g2, .slice none 0 0] 50)) := (F36.more (by simp)).trans F69
  have F29 : Fr (HB :: ob p1) w2 (w8.alloc (.cells #[.int .u64 nw, .int .i64 2, .int .i64 0, .string ⟨#[]⟩, .string ⟨#[]⟩, .bool false, .int .i64 0, .slice none 0 0, .slice none 0 0, .slice none 0 0, .int .i64 x.thread, .int .i64 x.a.code, .string x.a.key, .int .u64 x.a.val, .slice none 0 0, .slice p2 L2.length d2, .slice e2 Wx.length g2, .slice none 0 0] 50)) := (F26.more (by simp)).trans F69
  have F79 : Fr [HB] w7 (w8.alloc (.cells #[.int .u64 nw, .int .i64 2, .int .i64 0, .string ⟨#[]⟩, .string ⟨#[]⟩, .bool false, .int .i64 0, .slice none 0 0, .slice none 0 0, .slice none 0 0, .int .i64 x.thread, .int .i64 x.a.code, .string x.a.key, .int .u64 x.a.val, .slice none 0 0, .slice p2 L2.length d2, .slice e2 Wx.length g2, .slice none 0 0] 50)) := ((FD.more (by simp)).trans F8).trans (F89.more (by simp))
  have hA' : ∀ b ∈ ob a', b ∈ ob p1 ∨ b = w6.heap.size := AT
  have hA2 : ∀ b ∈ ob a', w2.heap.size ≤ b := fun b hb => by
    rcases hA' b hb with e | e
    · exact (hX1 b e).1
    · have := F26.size; omega
  have hpl : fPlan x = ⟨x.thread, ⟨x.a.code, x.a.key, x.a.val, []⟩, L2, Wx⟩ := by unfold fPlan; rw [hL2.out, hWE.out]
  have hfz := hfz.out
  rw [hpl] at hfz
  generalize w8.alloc (.cells #[.int .u64 nw, .int .i64 2, .int .i64 0, .string ⟨#[]⟩, .string ⟨#[]⟩, .bool false, .int .i64 0, .slice none 0 0, .slice none 0 0, .slice none 0 0, .int .i64 x.thread, .int .i64 x.a.code, .string x.a.key, .int .u64 x.a.val, .slice none 0 0, .slice p2 L2.length d2, .slice e2 Wx.length g2, .slice none 0 0] 50) = w9 at hb9 BQ BP9 hS9 hHeld F89 F69 F39 F29 F79 ⊢
  have O9 : OwnV filledT w9 (HB :: ob a') w9 w2.heap.size 50 a' cap L := (O7.keep (F79.keeps.more (by simp))).fr F79 (fun g hg e => by
    have := hA2 g hg
    simp at e; omega)
  have hSt : HRow Dp.stepT w9 (HB :: ob a') ⟨p2, d2⟩ L2 := ((PS3.st.fr F39 (fun g hg e => by
      rcases List.mem_cons.1 e with e | e
      · have := (hS1 g hg).1; omega
      · exact PS3.ne g e hg)).rep (wr' := w9) (S' := HB :: ob a') (fun _ _ h => h)).hrow (by decide) (fun g hg e => by
      rcases List.mem_cons.1 e with e | e
      · have := (hS1 g hg).1; omega
      · rcases hA' g e with k | k
        · exact PS3.ne g k hg
        · have := (hS1 g hg).2
          have := F36.size; omega)
  have hWr : HRow u64C w9 (HB :: ob a') ⟨e2, g2⟩ Wx := ((EX6.wo.fr F69 (fun g hg e => by
      have := (hW1 g hg).1
      rcases List.mem_cons.1 e with e | e
      · omega
      · have := (hX1 g e).2; omega)).rep (wr' := w9) (S' := HB :: ob a') (fun _ _ h => h)).hrow (by decide) (fun g hg e => by
      have := (hW1 g hg).1
      rcases List.mem_cons.1 e with e | e
      · omega
      · rcases hA' g e with k | k
        · have := (hX1 g k).2; omega
        · have := (hW1 g hg).2; omega)
  have hrep : filledT.rep w9 (HB :: ob a') (#[.int .u64 nw, .int .i64 2, .int .i64 0, .string ⟨#[]⟩, .string ⟨#[]⟩, .bool false, .int .i64 0, .slice none 0 0, .slice none 0 0, .slice none 0 0, .int .i64 x.thread, .int .i64 x.a.code, .string x.a.key, .int .u64 x.a.val, .slice none 0 0, .slice p2 L2.length d2, .slice e2 Wx.length g2, .slice none 0 0]).toList (nw, ⟨2, fNodeZ, ⟨x.thread, ⟨x.a.code, x.a.key, x.a.val, []⟩, L2, Wx⟩, []⟩) :=
    filledT_mk (q := ⟨⟨Hd.nil, Hd.nil, Hd.nil⟩, ⟨Hd.nil, ⟨p2, d2⟩, ⟨e2, g2⟩⟩, Hd.nil⟩) (x := ⟨2, fNodeZ, ⟨x.thread, ⟨x.a.code, x.a.key, x.a.val, []⟩, L2, Wx⟩, []⟩) hun ⟨show I64 2 from ⟨by decide, by decide⟩, node0_ok _ _, ⟨H.thread, ⟨H.a.code, H.a.key, H.a.val, HRow.nil _ _ _⟩, hSt, hWr⟩, HRow.nil _ _ _⟩
  obtain ⟨g, cf, w10, A9⟩ := O9.addLit tinFilled (by decide) BQ hrep (by omega) (by decide) F29.size
  refine wpAnyH_ready (rs := [7]) (by kernel_rfl) (by simp) ?_
  refine AllReadyH.cons rfl (fun K hK => ?_) AllReadyH.nil
  rw [if_pos (by rfl)]
  refine wp_append_run A9.run rfl (by rfl) (by rfl) ?_
  have BP10 := A9.fr.blk BP9 (fun e => by
    rcases hA' _ e with k | k
    · exact nPB1 k
    · omega)
  have hS10 : w10.cell? ⟨PB, 0, none⟩ = some (.int .i64 x.thread) ∧ w10.cell? ⟨PB, 1, none⟩ = some (.int .i64 x.a.code) ∧ w10.cell? ⟨PB, 2, none⟩ = some (.string x.a.key) ∧ w10.cell? ⟨PB, 3, none⟩ = some (.int .u64 x.a.val) ∧ w10.cell? ⟨PB, 4, none⟩ = some (.slice none 0 0) ∧ w10.cell? ⟨PB, 5, none⟩ = some (.slice p2 L2.length d2) ∧ w10.cell? ⟨PB, 6, none⟩ = some (.slice e2 Wx.length g2) := ⟨BP10.at 0 rfl, BP10.at 1 rfl, BP10.at 2 rfl, BP10.at 3 rfl, BP10.at 4 rfl, BP10.at 5 rfl, BP10.at 6 rfl⟩
  refine hK.out _ _ hS10 (fun hHeld => ?_)
  clear hK K
  refine wpAnyH_take (i := 8) (oi := ⟨_, _, _, _, _, _⟩) (v := ?_) rfl (by kernel_rfl) (by kernel_rfl) (by kernel_rfl) (fun _ _ _ h => h) (Or.inl ⟨by rfl, ?_⟩) (by assumption) ?_
  rotate_left
  · intro wS hSw
    try dsimp only at hSw
    go_simp
    try with_reducible rfl
  try simp only [Act.put, List.setIfInBounds_toArray, List.set_cons_zero, List.set_cons_succ]
  refine wpAnyH_take (i := 9) (oi := ⟨_, _, _, _, _, _⟩) (v := ?_) rfl (by kernel_rfl) (by kernel_rfl) (by kernel_rfl) (fun _ _ _ h => h) (Or.inl ⟨by rfl, ?_⟩) (by assumption) ?_
  rotate_left
  · intro wS hSw
    try dsimp only at hSw
    go_simp
    try with_reducible rfl
  try simp only [Act.put, List.setIfInBounds_toArray, List.set_cons_zero, List.set_cons_succ]
  refine wpAnyH_done (by kernel_rfl) ?_ _
  have hlf : (L ++ [(nw, (⟨2, fNodeZ, ⟨x.thread, ⟨x.a.code, x.a.key, x.a.val, []⟩, L2, Wx⟩, []⟩ : BlockV))]).length = L.length + 1 := by simp
  have OF : OwnV filledT w10 [] w10 w2.heap.size 50 (some ⟨g, 0, none⟩) cf (x.words.zip (fillV x)) := by
    rw [hfz]
    refine ((A9.own.more (S' := g :: (HB :: ob a')) (fun b hb => ?_)).keep (A9.fr.keeps.more (fun b hb => by simp [hb]))).more (by simp)
    rcases List.mem_cons.1 hb with e | e
    · subst e
      rcases A9.at' with k | k
      · exact .inl (by simp [k])
      · exact .inr (by omega)
    · exact .inl e
  have FA : Fr (HB :: (ob p1 ++ ob a')) w2 w9 := F29.more (fun b hb => by
    rcases List.mem_cons.1 hb with e | e
    · simp [e]
    · simp [e])
  have FB : Fr (HB :: (ob p1 ++ ob a')) w9 w10 := A9.fr.more (fun b hb => by simp [hb])
  have hz2 := hb2.size
  have hbF : Below w.heap.size w w10 := (FA.trans FB).below hb2 (Nat.le_refl _) (fun b hb => by
    rcases List.mem_cons.1 hb with e | e
    · omega
    · rcases List.mem_append.1 e with e | e
      · have := (hX1 b e).1; omega
      · have := hA2 b e; omega)
  go_wp2_with fail
  go_ret2
  exact ⟨some ⟨g, 0, none⟩, cf, by rw [hfz, hlf]; rfl, OF.hrow (by decide) (by simp), hbF⟩
end Go.Proofs.Ytnecikholpiefaa.Dp
