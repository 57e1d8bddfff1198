/-
  ClaimApart: two that claim, step by step in any order, never claim one block; there are no more accesses than Cost says; what is given back is free, and can be claimed again. For every number of blocks, all numbers of those wanted, all turns; no condition.
-/
import Derived.Test.YtppclnnkleebkaaClaimE
namespace Go.Proofs.Ytppclnnkleebkaa.claimApart
open Go.ChangeShapes Go.WideShapes Go.ChangeAt Go.RowKit RefP CellP MemP
set_option linter.unusedVariables false
set_option linter.unusedSimpArgs false
abbrev ptrs (ta tb : Nat) : Array Value := #[.pointer (some ⟨ta, 0, none⟩), .pointer (some ⟨tb, 0, none⟩)]
abbrev dones (x y : Nat) : Array Value := #[.int .i64 x, .int .i64 y]
/-- the plain state: two tasks and what they did -/
structure Pl (n : Nat) (L : List (Int × Int)) (ma mb : Nat) (ca cb : List Nat) (sa sb : QS) (xa xb : Nat) : Prop where
  c : CI n (freshL n 2 0) L (ca ++ cb)
  a : TI n (freshL n 2 0) ca cb sa
  b : TI n (freshL n 2 0) cb ca sb
  la : sa.l.length ≤ ma
  lb : sb.l.length ≤ mb
  na : xa ≤ doneQ n sa
  nb : xb ≤ doneQ n sb
theorem Pl.swap {n : Nat} {L : List (Int × Int)} {ma mb : Nat} {ca cb : List Nat} {sa sb : QS} {xa xb : Nat} (h : Pl n L ma mb ca cb sa sb xa xb) : Pl n L mb ma cb ca sb sa xb xa := ⟨h.c.swap, h.b, h.a, h.lb, h.la, h.nb, h.na⟩
theorem Pl.step {n : Nat} {L : List (Int × Int)} {ma mb : Nat} {ca cb : List Nat} {sa sb : QS} {xa xb : Nat} (hn : 1 ≤ n) (h : Pl n L ma mb ca cb sa sb xa xb) (ho : ¬ overQ n ma sa) : ∃ ca', Pl n (doQ n 2 sa L) ma mb ca' cb (tellQ n 2 sa L) sb (xa + 1) xb := by
  obtain ⟨c', h1, h2, h3, _, h5, _⟩ := step_q (T := 2) (many := ma) hn h.c h.a ho
  exact ⟨c', h1, h2, h.b.more h3, tellQ_len ho h.la, h.lb, by have := h.na; omega, h.nb⟩
theorem Pl.run {n : Nat} {L : List (Int × Int)} {ma mb : Nat} {ca cb : List Nat} {sa sb : QS} {xa xb : Nat} (hn : 1 ≤ n) (hm : ma ≤ 19) (h : Pl n L ma mb ca cb sa sb xa xb) : ∃ ca', (qrun n 2 ma (40 * n) sa L).2.1 = true ∧ overQ n ma (qrun n 2 ma (40 * n) sa L).2.2.1 ∧ Pl n (qrun n 2 ma (40 * n) sa L).2.2.2 ma mb ca' cb (qrun n 2 ma (40 * n) sa L).2.2.1 sb (xa + (qrun n 2 ma (40 * n) sa L).1) xb := by
  obtain ⟨c', q1, q2, q3, q4, q5, _, q7⟩ := qrun_all (T := 2) (many := ma) hn (40 * n) h.c h.a (potQ_le hn hm)
  exact ⟨c', q1, q2, q3, q4, h.b.more q5, qrun_len _ h.la, h.lb, by have := h.na; omega, h.nb⟩
/-- the two tasks, and the law's own two arrays -/
structure Tv (w0 : World) (base o oc g gb gr A : Nat) (L : List (Int × Int)) (bs rs : List (List Value)) (ta ma : Nat) (da : Option Addr × Nat) (sa : QS) (tb mb : Nat) (db : Option Addr × Nat) (sb : QS) (bl bd : Nat) (ps ds : Array Value) (wr : World) : Prop where
  t : Tw w0 base o oc g gb gr A 2 L bs rs ta ma da sa tb mb db sb [bl, bd] wr
  l : Blk wr bl ps 30
  d : Blk wr bd ds 31
  ne : bl ≠ bd
theorem Tv.swap {w0 : World} {base o oc g gb gr A : Nat} {L : List (Int × Int)} {bs rs : List (List Value)} {ta ma : Nat} {da : Option Addr × Nat} {sa : QS} {tb mb : Nat} {db : Option Addr × Nat} {sb : QS} {bl bd : Nat} {ps ds : Array Value} {wr : World} (h : Tv w0 base o oc g gb gr A L bs rs ta ma da sa tb mb db sb bl bd ps ds wr) : Tv w0 base o oc g gb gr A L bs rs tb mb db sb ta ma da sa bl bd ps ds wr := ⟨h.t.swap, h.l, h.d, h.ne⟩
theorem Tv.under {w0 : World} {base o oc g gb gr A : Nat} {L : List (Int × Int)} {bs rs : List (List Value)} {ta ma : Nat} {da : Option Addr × Nat} {sa : QS} {tb mb : Nat} {db : Option Addr × Nat} {sb : QS} {bl bd : Nat} {ps ds : Array Value} {wr : World} (h : Tv w0 base o oc g gb gr A L bs rs ta ma da sa tb mb db sb bl bd ps ds wr) {wx : World} (hb : Below wr.heap.size wr wx) : Tv w0 base o oc g gb gr A L bs rs ta ma da sa tb mb db sb bl bd ps ds wx := ⟨h.t.under hb, h.l.below hb, h.d.below hb, h.ne⟩
theorem Tv.did {w0 : World} {base o oc g gb gr A : Nat} {L : List (Int × Int)} {bs rs : List (List Value)} {ta ma : Nat} {da : Option Addr × Nat} {sa : QS} {tb mb : Nat} {db : Option Addr × Nat} {sb : QS} {bl bd : Nat} {ps ds : Array Value} {wr : World} (h : Tv w0 base o oc g gb gr A L bs rs ta ma da sa tb mb db sb bl bd ps ds wr) {wx : World} {L' : List (Int × Int)} {bs' : List (List Value)} (hM : MemAt wx o oc g gb gr A 2 L' bs' rs) (F : Fr [g, gb] wr wx) : Tv w0 base o oc g gb gr A L' bs' rs ta ma da sa tb mb db sb bl bd ps ds wx := by
  have hl := h.t.m.lo
  have hS : ∀ q ∈ [g, gb], q < base ∨ q ∈ cOwn ta da sa ∨ q ∈ cOwn tb db sb := fun q hq => by simp at hq; omega
  exact ⟨h.t.did hM F, h.t.keep (by simp) h.l F hS, h.t.keep (by simp) h.d F hS, h.ne⟩
theorem Tv.tell {w0 : World} {base o oc g gb gr A : Nat} {L : List (Int × Int)} {bs rs : List (List Value)} {ta ma : Nat} {da : Option Addr × Nat} {sa : QS} {tb mb : Nat} {db : Option Addr × Nat} {sb : QS} {bl bd : Nat} {ps ds : Array Value} {wr : World} (h : Tv w0 base o oc g gb gr A L bs rs ta ma da sa tb mb db sb bl bd ps ds wr) {wx : World} {da' : Option Addr × Nat} {sa' : QS} (XA : ClQ wx base o ta ma da' sa') (M : Mq (cOwn ta da sa) (cOwn ta da' sa') wr wx) : Tv w0 base o oc g gb gr A L bs rs ta ma da' sa' tb mb db sb bl bd ps ds wx := by
  have hS : ∀ q ∈ cOwn ta da sa, q < base ∨ q ∈ cOwn ta da sa ∨ q ∈ cOwn tb db sb := fun q hq => .inr (.inl hq)
  exact ⟨h.t.tell XA M, h.t.keep (by simp) h.l M.fr hS, h.t.keep (by simp) h.d M.fr hS, h.ne⟩
theorem Tv.told {w0 : World} {base o oc g gb gr A : Nat} {L : List (Int × Int)} {bs rs : List (List Value)} {ta ma : Nat} {da : Option Addr × Nat} {sa : QS} {tb mb : Nat} {db : Option Addr × Nat} {sb : QS} {bl bd : Nat} {ps ds : Array Value} {wr : World} (h : Tv w0 base o oc g gb gr A L bs rs ta ma da sa tb mb db sb bl bd ps ds wr) {wx : World} {L' : List (Int × Int)} {bs' : List (List Value)} {da' : Option Addr × Nat} {sa' : QS} (hM : MemB wx base o oc g gb gr A 2 L' bs' rs) (XA : ClQ wx base o ta ma da' sa') (F : Fr (g :: gb :: cOwn ta da sa) wr wx) (hsub : ∀ q ∈ cOwn ta da' sa', q ∈ cOwn ta da sa ∨ wr.heap.size ≤ q) : Tv w0 base o oc g gb gr A L' bs' rs ta ma da' sa' tb mb db sb bl bd ps ds wx := by
  have hl := h.t.m.lo
  have hS : ∀ q ∈ g :: gb :: cOwn ta da sa, q < base ∨ q ∈ cOwn ta da sa ∨ q ∈ cOwn tb db sb := fun q hq => by
    simp only [List.mem_cons] at hq
    rcases hq with e | e | e
    · omega
    · omega
    · exact .inr (.inl e)
  exact ⟨h.t.told hM XA F hsub, h.t.keep (by simp) h.l F hS, h.t.keep (by simp) h.d F hS, h.ne⟩
theorem Tv.mark {w0 : World} {base o oc g gb gr A : Nat} {L : List (Int × Int)} {bs rs : List (List Value)} {ta ma : Nat} {da : Option Addr × Nat} {sa : QS} {tb mb : Nat} {db : Option Addr × Nat} {sb : QS} {bl bd : Nat} {ps ds : Array Value} {wr : World} (h : Tv w0 base o oc g gb gr A L bs rs ta ma da sa tb mb db sb bl bd ps ds wr) (i : Nat) (v : Value) : Tv w0 base o oc g gb gr A L bs rs ta ma da sa tb mb db sb bl bd ps (ds.setIfInBounds i v) (wr.setCell ⟨bd, i, none⟩ v) := by
  have F : Fr [bd] wr (wr.setCell ⟨bd, i, none⟩ v) := Fr.set (Fr.refl _ _) _ _ (.inl (by simp))
  exact ⟨h.t.mine (by simp) F, F.blk h.l (by simpa using h.ne), h.d.set i v, h.ne⟩
theorem ix0 (p q : Option Addr) (w : World) : (Instr.index 30 (.agg #[.pointer p, .pointer q]) (.int .i64 0)).run Try.prog w = .ok (.pointer p) w := by kernel_rfl
theorem ix1 (p q : Option Addr) (w : World) : (Instr.index 30 (.agg #[.pointer p, .pointer q]) (.int .i64 1)).run Try.prog w = .ok (.pointer q) w := by kernel_rfl
/-- while words are given back -/
structure Bv (w0 : World) (base o oc g gb gr A : Nat) (L : List (Int × Int)) (bs rs : List (List Value)) (ta ma : Nat) (da : Option Addr × Nat) (sa : QS) (bb tk : Nat) (a : Option Addr) (c : Nat) (l : List Int) (wr : World) : Prop where
  b : Below w0.heap.size w0 wr
  m : MemB wr base o oc g gb gr A 2 L bs rs
  A : ClQ wr base o ta ma da sa
  K : BkAt wr bb o tk a c l
  ne : tk ∉ cOwn ta da sa
  hs : base ≤ bb ∧ bb ≤ wr.heap.size
  lo : w0.heap.size ≤ g ∧ w0.heap.size ≤ gb ∧ w0.heap.size ≤ base
theorem Bv.under {w0 : World} {base o oc g gb gr A : Nat} {L : List (Int × Int)} {bs rs : List (List Value)} {ta ma : Nat} {da : Option Addr × Nat} {sa : QS} {bb tk : Nat} {a : Option Addr} {c : Nat} {l : List Int} {wr : World} (h : Bv w0 base o oc g gb gr A L bs rs ta ma da sa bb tk a c l wr) {wx : World} (hb : Below wr.heap.size wr wx) : Bv w0 base o oc g gb gr A L bs rs ta ma da sa bb tk a c l wx := ⟨below_push2 h.b hb (Nat.le_refl _), h.m.under hb, h.A.under hb, h.K.under hb, h.ne, ⟨h.hs.1, Nat.le_trans h.hs.2 hb.size⟩, h.lo⟩
theorem Bv.did {w0 : World} {base o oc g gb gr A : Nat} {L : List (Int × Int)} {bs rs : List (List Value)} {ta ma : Nat} {da : Option Addr × Nat} {sa : QS} {bb tk : Nat} {a : Option Addr} {c : Nat} {l : List Int} {wr : World} (h : Bv w0 base o oc g gb gr A L bs rs ta ma da sa bb tk a c l wr) {wx : World} {L' : List (Int × Int)} {bs' : List (List Value)} (hM : MemAt wx o oc g gb gr A 2 L' bs' rs) (F : Fr [g, gb] wr wx) : Bv w0 base o oc g gb gr A L' bs' rs ta ma da sa bb tk a c l wx := by
  have hl := h.m.lo
  have hlo := h.lo
  have hA := h.A.ge
  have hhs := h.hs
  exact ⟨F.below h.b (Nat.le_refl _) (by simp; omega), ⟨hM, hl⟩, h.A.fr F (by simp; omega) (fun q hq => by have := (h.A.own.lt q hq).1; simp; omega), h.K.off F (by simp; omega), h.ne, ⟨hhs.1, Nat.le_trans hhs.2 F.size⟩, hlo⟩
theorem Bv.tell {w0 : World} {base o oc g gb gr A : Nat} {L : List (Int × Int)} {bs rs : List (List Value)} {ta ma : Nat} {da : Option Addr × Nat} {sa : QS} {bb tk : Nat} {a : Option Addr} {c : Nat} {l : List Int} {wr : World} (h : Bv w0 base o oc g gb gr A L bs rs ta ma da sa bb tk a c l wr) {wx : World} {a' : Option Addr} {c' : Nat} {l' : List Int} (K' : BkAt wx bb o tk a' c' l') (F : Fr [tk] wr wx) : Bv w0 base o oc g gb gr A L bs rs ta ma da sa bb tk a' c' l' wx := by
  have hlo := h.lo
  have hhs := h.hs
  have hk := h.K.ge
  have hnA : ∀ q ∈ cOwn ta da sa, q ∉ [tk] := fun q hq k => by simp at k; subst k; exact h.ne hq
  exact ⟨F.below h.b (Nat.le_refl _) (by simp; omega), h.m.offq F (by simp; omega) (by omega), h.A.fr F (hnA ta (by simp [cOwn])) (fun q hq => hnA q (by simp [cOwn, ownS_mem hq])), K', h.ne, ⟨hhs.1, Nat.le_trans hhs.2 F.size⟩, hlo⟩
theorem drop_at {W : List Int} {k : Nat} (h : k < W.length) : W.drop k = at0 W k :: W.drop (k + 1) := by
  rw [List.drop_eq_getElem_cons h, at0_of W k h]
set_option maxRecDepth 100000 in
set_option maxHeartbeats 12800000 in
theorem walk (ar m0 m1 : Int) (ka : Option Addr) (ks : List Int) (kc : Nat) (w : World) (ha : 0 ≤ ar ∧ ar ≤ 255) (hm0 : 0 ≤ m0 ∧ m0 ≤ 255) (hm1 : 0 ≤ m1 ∧ m1 ≤ 255) (BU : Open.Ints .u8 w ka ks) : Calls Try.prog 3 #[.int .u8 ar, .agg #[.int .u8 m0, .int .u8 m1], .slice ka ks.length kc] w fun e w' => e = .returned (.bool true) ∧ Below w.heap.size w w' := by
  have hb0 : Below w.heap.size w (w.alloc (.cells #[.int .u8 m0, .int .u8 m1] 22)) := by (repeat (first | exact Below.refl _ _ | assumption | refine below_alloc2 ?_ (by first | exact Nat.le_refl _ | omega) _ | refine Below.drew ?_ | refine below_drewN ?_ _ | refine below_push2 ?_ ‹_› (by first | exact Nat.le_refl _ | omega) | refine Below.setCell ?_ (by first | (simp; done) | (simp; omega) | omega) _))
  have BX := Blk.new w #[.int .u8 m0, .int .u8 m1] 22
  have hUl := BU.len
  obtain ⟨n, hn⟩ : ∃ n : Nat, ar % 30 + 1 = (n : Int) := ⟨(ar % 30 + 1).toNat, by omega⟩
  have hn30 : 1 ≤ n ∧ n ≤ 30 := by omega
  have hw1 : IntKind.i64.wrap ar = ar := by rw [IntKind.wrap_i64]; omega
  have hw2 : IntKind.i64.wrap (ar % 30) = ar % 30 := by rw [IntKind.wrap_i64]; omega
  have hw3 : IntKind.i64.wrap (n : Int) = (n : Int) := by rw [IntKind.wrap_i64]; omega
  have hw4 : IntKind.i64.wrap (ar % 30 + 1) = (n : Int) := by rw [IntKind.wrap_i64]; omega
  go_enter Try.func3, Try.ntmps3
  go_upto_region 1 with (fail)
  generalize w.alloc (.cells #[.int .u8 m0, .int .u8 m1] 22) = w1 at hb0 BX ⊢
  by_cases h2000 : 2000 < ks.length
  · have q1 : decide ((2000 : Int) < (ks.length : Int)) = true := by simp; omega
    clear h2000
    go_wp2_with fail
    refine (clLives_any _).mono ?_
    rintro e w2 ⟨rfl, hb2⟩
    go_wp2_with fail
    go_ret
    exact ⟨rfl, below_push2 hb0 hb2 (Nat.le_refl _)⟩
  have q1 : decide ((2000 : Int) < (ks.length : Int)) = false := by simp; omega
  go_wp2_with fail
  refine (mnew_yes n 2 0 _ (by omega) (by omega) (by omega) (by omega) (by omega) (by omega)).mono ?_
  rintro e w2 ⟨o, oc, g, gb, gr, rfl, hM, hB2, ho, hoc, hg, hgb, hgr⟩
  have hs2 := hB2.size
  have hs0 := hb0.size
  obtain ⟨base, hbase⟩ : ∃ base, base = w2.heap.size := ⟨_, rfl⟩
  have M2 : MemB w2 base o oc g gb gr n 2 (freshL n 2 0) _ _ := ⟨hM, by rw [hbase]; exact ⟨hM.head.lt, hM.cells.head.lt, hM.cells.rows.lt, hM.blocks.lt, hM.records.lt⟩⟩
  have BX2 := BX.below hB2
  have hB2' := below_push2 hb0 hB2 (Nat.le_refl _)
  clear hM
  generalize (List.replicate n zb).set 0 eb = bs0 at M2
  generalize List.replicate 2 zo = rs at M2
  clear hB2 BX q1 hw1 hw2 hw4
  obtain ⟨ma, hma⟩ : ∃ ma : Nat, m0 % 20 = (ma : Int) := ⟨(m0 % 20).toNat, by omega⟩
  obtain ⟨mb, hmb⟩ : ∃ mb : Nat, m1 % 20 = (mb : Int) := ⟨(m1 % 20).toNat, by omega⟩
  have hma19 : ma ≤ 19 ∧ mb ≤ 19 := by omega
  have hmat : m0.tmod 20 = (ma : Int) := by rw [Int.tmod_eq_emod_of_nonneg hm0.1]; exact hma
  have hmbt : m1.tmod 20 = (mb : Int) := by rw [Int.tmod_eq_emod_of_nonneg hm1.1]; exact hmb
  have v1 : IntKind.i64.wrap m0 = m0 := by rw [IntKind.wrap_i64]; omega
  have v2 : IntKind.i64.wrap m1 = m1 := by rw [IntKind.wrap_i64]; omega
  have v3 : IntKind.i64.wrap (ma : Int) = (ma : Int) := by rw [IntKind.wrap_i64]; omega
  have v4 : IntKind.i64.wrap (mb : Int) = (mb : Int) := by rw [IntKind.wrap_i64]; omega
  have v5 : (n : Int).tdiv 2 = ((n / 2 : Nat) : Int) := by rw [Int.tdiv_eq_ediv_of_nonneg (by omega)]; omega
  obtain ⟨f, hf⟩ : ∃ f : Nat, f = n / 2 := ⟨_, rfl⟩
  rw [← hf] at v5
  have hfn : f < n := by omega
  have v6 : IntKind.i64.wrap (f : Int) = (f : Int) := by rw [IntKind.wrap_i64]; omega
  have d0 : w2.cell? ⟨w.heap.size, 0, none⟩ = some (.int .u8 m0) := BX2.at 0 rfl
  have d1 : w2.cell? ⟨w.heap.size, 1, none⟩ = some (.int .u8 m1) := BX2.at 1 rfl
  replace hf := Lib.hid hf
  replace hbase := Lib.hid hbase
  have MD := M2.under (Below.refl _ w2).drew
  go_upto_region 5 with (fail)
  refine wp_region_held_drew (S := fun w' => w'.cell? ⟨w.heap.size, 0, none⟩ = some (.int .u8 m0) ∧ w'.cell? ⟨w.heap.size, 1, none⟩ = some (.int .u8 m1)) (by kernel_rfl) ?_ (fun hHeld => ?_)
  · exact ⟨d0, d1⟩
  refine wpAnyH_take (i := 0) (oi := ⟨_, _, _, _, _, _⟩) (v := ?_) rfl (by kernel_rfl) (by kernel_rfl) (by kernel_rfl) (fun _ _ _ h => h) (Or.inl ⟨by rfl, ?_⟩) (by assumption) ?_
  rotate_left
  · intro wS hSw
    try dsimp only at hSw
    go_simp
    try with_reducible rfl
  try simp only [Act.put, List.setIfInBounds_toArray, List.set_cons_zero, List.set_cons_succ]
  refine wpAnyH_take (i := 1) (oi := ⟨_, _, _, _, _, _⟩) (v := ?_) rfl (by kernel_rfl) (by kernel_rfl) (by kernel_rfl) (fun _ _ _ h => h) (Or.inl ⟨by rfl, ?_⟩) (by assumption) ?_
  rotate_left
  · intro wS hSw
    try dsimp only at hSw
    go_simp
    try with_reducible rfl
  try simp only [Act.put, List.setIfInBounds_toArray, List.set_cons_zero, List.set_cons_succ]
  refine wpAnyH_take (i := 2) (oi := ⟨_, _, _, _, _, _⟩) (v := ?_) rfl (by kernel_rfl) (by kernel_rfl) (by kernel_rfl) (fun _ _ _ h => h) (Or.inl ⟨by rfl, ?_⟩) (by assumption) ?_
  rotate_left
  · intro wS hSw
    try dsimp only at hSw
    go_simp
    try with_reducible rfl
  try simp only [Act.put, List.setIfInBounds_toArray, List.set_cons_zero, List.set_cons_succ]
  refine wpAnyH_take (i := 3) (oi := ⟨_, _, _, _, _, _⟩) (v := ?_) rfl (by kernel_rfl) (by kernel_rfl) (by kernel_rfl) (fun _ _ _ h => h) (Or.inl ⟨by rfl, ?_⟩) (by assumption) ?_
  rotate_left
  · intro wS hSw
    try dsimp only at hSw
    go_simp
    try with_reducible rfl
  try simp only [Act.put, List.setIfInBounds_toArray, List.set_cons_zero, List.set_cons_succ]
  refine wpAnyH_take (i := 4) (oi := ⟨_, _, _, _, _, _⟩) (v := ?_) rfl (by kernel_rfl) (by kernel_rfl) (by kernel_rfl) (fun _ _ _ h => h) (Or.inl ⟨by rfl, ?_⟩) (by assumption) ?_
  rotate_left
  · intro wS hSw
    try dsimp only at hSw
    go_simp
    try with_reducible rfl
  try simp only [Act.put, List.setIfInBounds_toArray, List.set_cons_zero, List.set_cons_succ]
  refine wpAnyH_take (i := 6) (oi := ⟨_, _, _, _, _, _⟩) (v := ?_) rfl (by kernel_rfl) (by kernel_rfl) (by kernel_rfl) (fun _ _ _ h => h) (Or.inl ⟨by rfl, ?_⟩) (by assumption) ?_
  rotate_left
  · intro wS hSw
    try dsimp only at hSw
    go_simp
    try with_reducible rfl
  try simp only [Act.put, List.setIfInBounds_toArray, List.set_cons_zero, List.set_cons_succ]
  refine wpAnyH_take (i := 7) (oi := ⟨_, _, _, _, _, _⟩) (v := ?_) rfl (by kernel_rfl) (by kernel_rfl) (by kernel_rfl) (fun _ _ _ h => h) (Or.inl ⟨by rfl, ?_⟩) (by assumption) ?_
  rotate_left
  · intro wS hSw
    try dsimp only at hSw
    go_simp
    try with_reducible rfl
  try simp only [Act.put, List.setIfInBounds_toArray, List.set_cons_zero, List.set_cons_succ]
  refine wpAnyH_take (i := 8) (oi := ⟨_, _, _, _, _, _⟩) (v := ?_) rfl (by kernel_rfl) (by kernel_rfl) (by kernel_rfl) (fun _ _ _ h => h) (Or.inl ⟨by rfl, ?_⟩) (by assumption) ?_
  rotate_left
  · intro wS hSw
    try dsimp only at hSw
    go_simp
    try with_reducible rfl
  try simp only [Act.put, List.setIfInBounds_toArray, List.set_cons_zero, List.set_cons_succ]
  refine wpAnyH_take (i := 9) (oi := ⟨_, _, _, _, _, _⟩) (v := ?_) rfl (by kernel_rfl) (by kernel_rfl) (by kernel_rfl) (fun _ _ _ h => h) (Or.inl ⟨by rfl, ?_⟩) (by assumption) ?_
  rotate_left
  · intro wS hSw
    try dsimp only at hSw
    go_simp
    try with_reducible rfl
  try simp only [Act.put, List.setIfInBounds_toArray, List.set_cons_zero, List.set_cons_succ]
  refine wpAnyH_take (i := 10) (oi := ⟨_, _, _, _, _, _⟩) (v := ?_) rfl (by kernel_rfl) (by kernel_rfl) (by kernel_rfl) (fun _ _ _ h => h) (Or.inl ⟨by rfl, ?_⟩) (by assumption) ?_
  rotate_left
  · intro wS hSw
    try dsimp only at hSw
    go_simp
    try with_reducible rfl
  try simp only [Act.put, List.setIfInBounds_toArray, List.set_cons_zero, List.set_cons_succ]
  refine wpAnyH_take (i := 11) (oi := ⟨_, _, _, _, _, _⟩) (v := ?_) rfl (by kernel_rfl) (by kernel_rfl) (by kernel_rfl) (fun _ _ _ h => h) (Or.inl ⟨by rfl, ?_⟩) (by assumption) ?_
  rotate_left
  · intro wS hSw
    try dsimp only at hSw
    go_simp
    try with_reducible rfl
  try simp only [Act.put, List.setIfInBounds_toArray, List.set_cons_zero, List.set_cons_succ]
  refine wpAnyH_take (i := 12) (oi := ⟨_, _, _, _, _, _⟩) (v := ?_) rfl (by kernel_rfl) (by kernel_rfl) (by kernel_rfl) (fun _ _ _ h => h) (Or.inl ⟨by rfl, ?_⟩) (by assumption) ?_
  rotate_left
  · intro wS hSw
    try dsimp only at hSw
    go_simp
    try with_reducible rfl
  try simp only [Act.put, List.setIfInBounds_toArray, List.set_cons_zero, List.set_cons_succ]
  refine wpAnyH_ready (rs := [5]) (by kernel_rfl) (by simp) ?_
  refine AllReadyH.cons rfl (fun K hK => ?_) AllReadyH.nil
  go_simp
  refine (show Calls _ _ _ _ _ from clNew_at (ma : Int) 0 (by omega) _ MD.m).mono ?_
  rintro e w3 ⟨rfl, hCa, hb3⟩
  have hB3 := below_push2 (Below.refl _ w2).drew hb3 (Nat.le_refl _)
  refine hK.out _ _ ⟨(BX2.below hB3).at 0 rfl, (BX2.below hB3).at 1 rfl⟩ (fun hHeld => ?_)
  clear hK K hb3
  have M3 := M2.under hB3
  refine wpAnyH_ready (rs := [13]) (by kernel_rfl) (by simp) ?_
  refine AllReadyH.cons rfl (fun K hK => ?_) AllReadyH.nil
  go_simp
  refine (clNew_at (mb : Int) f hfn _ M3.m).mono ?_
  rintro e w4 ⟨rfl, hCb, hb4⟩
  have hB4 := below_push2 hB3 hb4 (Nat.le_refl _)
  refine hK.out _ _ ⟨(BX2.below hB4).at 0 rfl, (BX2.below hB4).at 1 rfl⟩ (fun hHeld => ?_)
  clear hK K
  refine wpAnyH_take (i := 14) (oi := ⟨_, _, _, _, _, _⟩) (v := ?_) rfl (by kernel_rfl) (by kernel_rfl) (by kernel_rfl) (fun _ _ _ h => h) (Or.inl ⟨by rfl, ?_⟩) (by assumption) ?_
  rotate_left
  · intro wS hSw
    try dsimp only at hSw
    go_simp
    try with_reducible rfl
  try simp only [Act.put, List.setIfInBounds_toArray, List.set_cons_zero, List.set_cons_succ]
  refine wpAnyH_take (i := 15) (oi := ⟨_, _, _, _, _, _⟩) (v := ?_) rfl (by kernel_rfl) (by kernel_rfl) (by kernel_rfl) (fun _ _ _ h => h) (Or.inl ⟨by rfl, ?_⟩) (by assumption) ?_
  rotate_left
  · intro wS hSw
    try dsimp only at hSw
    go_simp
    try with_reducible rfl
  try simp only [Act.put, List.setIfInBounds_toArray, List.set_cons_zero, List.set_cons_succ]
  refine wpAnyH_done (by kernel_rfl) ?_ _
  go_upto_region 8 with (fail)
  have hs3 := hB3.size
  have hs4 := hb4.size
  have hl5 : Below w4.heap.size w4 (w4.alloc (.cells (ptrs w2.heap.size w3.heap.size) 30)) := (Below.refl _ w4).alloc (Nat.le_refl _) _
  have hz5 : (w4.alloc (.cells (ptrs w2.heap.size w3.heap.size) 30)).heap.size = w4.heap.size + 1 := by simp
  have BL := Blk.new w4 (ptrs w2.heap.size w3.heap.size) 30
  generalize w4.alloc (.cells (ptrs w2.heap.size w3.heap.size) 30) = w5 at hl5 hz5 BL ⊢
  have hl6 : Below w5.heap.size w5 (w5.alloc (.cells (dones 0 0) 31)) := (Below.refl _ w5).alloc (Nat.le_refl _) _
  have hz6 : (w5.alloc (.cells (dones 0 0) 31)).heap.size = w5.heap.size + 1 := by simp
  have BD : Blk (w5.alloc (.cells (dones 0 0) 31)) (w4.heap.size + 1) (dones 0 0) 31 := by
    have := Blk.new w5 (dones 0 0) 31
    rwa [hz5] at this
  generalize w5.alloc (.cells (dones 0 0) 31) = w6 at hl6 hz6 BD ⊢
  have hb6 := below_push2 hl5 hl6 (Nat.le_refl _)
  have hbe := hbase.out
  have hdz : w2.drew.heap.size = w2.heap.size := rfl
  have Q0 : Tv w base o oc g gb gr n (freshL n 2 0) bs0 rs w2.heap.size ma (none, 0) (newQ 0) w3.heap.size mb (none, 0) (newQ f) w4.heap.size (w4.heap.size + 1) (ptrs w2.heap.size w3.heap.size) (dones 0 0) w6 := by
    refine ⟨⟨below_push2 hB2' (below_push2 hB4 hb6 (Nat.le_refl _)) (Nat.le_refl _), (M2.under hB4).under hb6, ?_, ?_, ?_, ?_, by omega, by omega⟩, BL.below hl6, BD, by omega⟩
    · rw [hbe]
      exact ((hCa.under hb4).under hl5).under hl6
    · have hh := (hCb.under hl5).under hl6
      exact ⟨hh.head, OwnsU.nil _ _, by omega, fun q hq => by simp [Value.ownBlock] at hq⟩
    · intro q h1 h2
      have ha1 := hCa.head.lt
      simp [cOwn, ownS, Value.ownBlock] at h1 h2
      omega
    · intro q hq
      have ha1 := hCa.head.lt
      have hb1 := hCb.head.lt
      simp [cOwn, ownS, Value.ownBlock] at hq ⊢
      omega
  have P0 : Pl n (freshL n 2 0) ma mb [] [] (newQ 0) (newQ f) 0 0 := ⟨CI.start (by simp [freshL]; omega) (fresh_rng n), TI.start (by omega) _, TI.start hfn _, by simp, by simp, Nat.zero_le _, Nat.zero_le _⟩
  generalize w2.heap.size = ta at Q0 ⊢
  generalize w3.heap.size = tb at Q0 ⊢
  generalize w4.heap.size + 1 = bd at Q0 ⊢
  generalize w4.heap.size = bl at Q0 ⊢
  clear hCa hCb hb4 hB4 hB3 hl5 hl6 hz5 hz6 BL BD hb6 hbe M3 MD BX2 d0 d1 hs3 hs4 M2 hB2' hdz hbase hmat hmbt v1 v2 v3 v4 v5 v6
  go_wp2_with fail
  go_loopg [61] (ks.length) (fun gg i wr => ∃ k L bs da sa db sb ca cb xa xb, k ≤ ks.length ∧ ks.length ≤ k + gg ∧ i = .int .i64 (k : Nat) ∧ Pl n L ma mb ca cb sa sb xa xb ∧ Tv w base o oc g gb gr n L bs rs ta ma da sa tb mb db sb bl bd (ptrs ta tb) (dones xa xb) wr)
  case atStart => exact ⟨0, _, _, _, _, _, _, _, _, 0, 0, Nat.zero_le _, by omega, rfl, P0, Q0⟩
  case round =>
    clear P0 Q0
    obtain ⟨k, L, bs, da, sa, db, sb, ca, cb, xa, xb, hk, hkg, rfl, P, Q⟩ := hrel
    by_cases hlt : k < ks.length
    · obtain ⟨ub, uoff, rfl, hubl, hu⟩ := (BU.below Q.t.b).cell k hlt
      have hur := Lift.u8_range (BU.wf _ (at0_mem ks k hlt))
      generalize at0 ks k = u at hu hur
      have hlt' : (k : Int) < (ks.length : Int) := by omega
      have e01 : u % 2 = 0 ∨ u % 2 = 1 := by omega
      rcases e01 with he | he
      · have c0 : wr.cell? ⟨bl, 0, none⟩ = some (.pointer (some ⟨ta, 0, none⟩)) := Q.l.at 0 rfl
        go_upto_region 12 with (fail)
        clear c0 hu
        by_cases hov : overQ n ma sa
        · replace hov := Lib.hid hov
          go_wp2_with fail
          refine (clNext_over wr Q.t.m.m Q.t.A hov.out).mono ?_
          rintro e w4' ⟨rfl, hb4⟩
          have Q5 := (Q.under hb4).under ((Below.refl _ w4').alloc (Nat.le_refl _) (.cells (accY 0 0 0 0) 48))
          generalize hW : w4'.alloc (.cells (accY 0 0 0 0) 48) = w5 at Q5
          replace hW := Lib.hid hW
          clear Q hb4
          go_wp2_with (refine wpList_store_row rfl 48 _ _ rfl _ _ rfl rfl 48 _ (Blk.new w4' _ _).h (by kernel_rfl) (by rfl) (by kernel_rfl) ?_; rw [World.setRow_alloc_new, hW.out])
          go_roundg (ks.length - (k + 1))
          case measure => omega
          case rel => exact ⟨k + 1, _, _, da, sa, db, sb, ca, cb, xa, xb, by omega, by omega, by go_num, P, Q5⟩
        · obtain ⟨c', P'⟩ := P.step hn30.1 hov
          have hI := P.c
          have hTI := P.a
          have hsm : (sa).l.length ≤ 60000 := by have := P.la; omega
          have hw0 := load_rng hI.rng ((n : Int) + (sa).place)
          have hx : (sa).ld = false → 0 ≤ (sa).word ∧ (sa).word ≤ 18446744073709551615 := fun e => by rw [(hTI.ld e).2.2.1]; exact hw0.1
          cases hld : (sa).ld
          · have hv : 0 ≤ (sa).ver ∧ (sa).ver ≤ 18446744073709551615 := by rw [(hTI.ld hld).2.2.2]; exact hw0.2
            have hg := mayI_gen (hTI.ld hld).2.1 hw0.1.1
            rw [← (hTI.ld hld).2.2.1] at hg
            have hU0 := useI_lo 1 (stateG (sa).word + 1) hg.1
            have hU1 := useI_hi 1 (stateG (sa).word + 1)
            have ha : accQ n 2 sa = (3, atI n 2 1 (sa).place, (sa).ver, useI 1 (stateG (sa).word + 1)) := by simp [accQ, hld]
            have hd : doQ n 2 sa L = casL L (atI n 2 1 (sa).place) (sa).ver (useI 1 (stateG (sa).word + 1)) := by simp [doQ, hld]
            rw [hd] at P'
            clear hd
            replace hx := Lib.hid hx
            generalize hadr : atI n 2 1 (sa).place = ad at ha P'
            generalize hwdr : useI 1 (stateG (sa).word + 1) = wdr at ha P' hU0 hU1
            generalize hvrr : (sa).ver = vr at ha P' hv
            replace hadr := Lib.hid hadr
            replace hwdr := Lib.hid hwdr
            replace hvrr := Lib.hid hvrr
            replace hld := Lib.hid hld
            go_wp2_with fail
            refine (clNext_q wr Q.t.m.m Q.t.A P.a.pl hov hx.out ha).mono ?_
            rintro e w4' ⟨rfl, hb4⟩
            have Q5 := (Q.under hb4).under ((Below.refl _ w4').alloc (Nat.le_refl _) (.cells (accY 3 ad vr wdr) 48))
            have BA := Blk.new w4' (accY 3 ad vr wdr) 48
            generalize hW : w4'.alloc (.cells (accY 3 ad vr wdr) 48) = w5 at Q5 BA
            replace hW := Lib.hid hW
            clear Q hb4
            go_wp2_with (first
              | (refine wpList_store_row rfl 48 _ _ rfl _ _ rfl rfl 48 _ (Blk.new w4' _ _).h (by kernel_rfl) (by rfl) (by kernel_rfl) ?_; rw [World.setRow_alloc_new, hW.out])
              | (refine wpList_load_row rfl 48 _ rfl w4'.heap.size rfl 48 _ (0, 0) _ BA.h Try.underlying48 rfl (by kernel_rfl) ?_))
            clear hW BA
            refine (do_cas ad vr wdr _ _ _ _ _ _ _ _ _ _ _ _ _ _ _ _ _ _ _ _ _ _ _ Q5.t.m.m hv.1 hv.2 hU0 hU1).mono ?_
            rintro e w6 ⟨rfl, hM6, hF6⟩
            have Q6 := Q5.did hM6 hF6
            clear Q5 hM6 hF6
            go_wp2_with fail
            have htell := clTell_write (L := L) (many := ma) w6 Q6.t.m.m Q6.t.A hTI.pl hov hld.out (hx.out hld.out) hsm Q6.t.hs 0 0
            rw [hadr.out, hvrr.out] at htell
            refine htell.mono ?_
            rintro e w7 ⟨d7, rfl, X7, M7⟩
            have Q7 := Q6.tell X7 M7
            clear Q6 X7 M7 htell
            have dd : w7.cell? ⟨bd, 0, none⟩ = some (.int .i64 xa) := Q7.d.at 0 rfl
            have fd := Q7.d.free 0
            have hdl : xa ≤ 2000 := by have := P.na; have := doneQ_le hn30.1 P.a (by have := ph1_len hn30.1 P.c; omega); have h18 : 2 * n * n ≤ 60 * 30 := Nat.mul_le_mul (by omega) hn30.2; omega
            have hwd : IntKind.i64.wrap ((xa : Int) + 1) = (xa : Int) + 1 := by rw [IntKind.wrap_i64]; omega
            have Q8 := Q7.mark 0 (.int .i64 ((xa : Int) + 1))
            clear Q7
            go_wp2_with fail
            go_roundg (ks.length - (k + 1))
            case measure => omega
            case rel => exact ⟨k + 1, _, _, d7, tellQ n 2 sa L, db, sb, c', cb, xa + 1, xb, by omega, by omega, by go_num, P', by simpa [dones] using Q8⟩
          · have ha : accQ n 2 sa = (1, atI n 2 1 (sa).place, 0, 0) := by simp [accQ, hld]
            have hd : doQ n 2 sa L = L := by simp [doQ, hld]
            rw [hd] at P'
            clear hd
            replace hx := Lib.hid hx
            generalize hadr : atI n 2 1 (sa).place = ad at ha
            replace hadr := Lib.hid hadr
            replace hld := Lib.hid hld
            go_wp2_with fail
            refine (clNext_q wr Q.t.m.m Q.t.A P.a.pl hov hx.out ha).mono ?_
            rintro e w4' ⟨rfl, hb4⟩
            have Q5 := (Q.under hb4).under ((Below.refl _ w4').alloc (Nat.le_refl _) (.cells (accY 1 ad 0 0) 48))
            have BA := Blk.new w4' (accY 1 ad 0 0) 48
            generalize hW : w4'.alloc (.cells (accY 1 ad 0 0) 48) = w5 at Q5 BA
            replace hW := Lib.hid hW
            clear Q hb4
            go_wp2_with (first
              | (refine wpList_store_row rfl 48 _ _ rfl _ _ rfl rfl 48 _ (Blk.new w4' _ _).h (by kernel_rfl) (by rfl) (by kernel_rfl) ?_; rw [World.setRow_alloc_new, hW.out])
              | (refine wpList_load_row rfl 48 _ rfl w4'.heap.size rfl 48 _ (0, 0) _ BA.h Try.underlying48 rfl (by kernel_rfl) ?_))
            clear hW BA
            refine (do_load ad 0 0 _ _ _ _ _ _ _ _ _ _ _ _ _ _ _ _ _ _ _ _ _ _ _ Q5.t.m.m).mono ?_
            rintro e w6 ⟨rfl, hb6⟩
            have Q6 := Q5.under hb6
            clear Q5 hb6
            go_wp2_with fail
            have htell := clTell_load (many := ma) w6 Q6.t.m.m Q6.t.A hTI.pl hov hld.out (inB L.length ad)
            rw [hadr.out] at htell
            refine htell.mono ?_
            rintro e w7 ⟨d7, rfl, X7, M7⟩
            have Q7 := Q6.tell X7 M7
            clear Q6 X7 M7 htell
            have dd : w7.cell? ⟨bd, 0, none⟩ = some (.int .i64 xa) := Q7.d.at 0 rfl
            have fd := Q7.d.free 0
            have hdl : xa ≤ 2000 := by have := P.na; have := doneQ_le hn30.1 P.a (by have := ph1_len hn30.1 P.c; omega); have h18 : 2 * n * n ≤ 60 * 30 := Nat.mul_le_mul (by omega) hn30.2; omega
            have hwd : IntKind.i64.wrap ((xa : Int) + 1) = (xa : Int) + 1 := by rw [IntKind.wrap_i64]; omega
            have Q8 := Q7.mark 0 (.int .i64 ((xa : Int) + 1))
            clear Q7
            go_wp2_with fail
            go_roundg (ks.length - (k + 1))
            case measure => omega
            case rel => exact ⟨k + 1, _, _, d7, tellQ n 2 sa L, db, sb, c', cb, xa + 1, xb, by omega, by omega, by go_num, P', by simpa [dones] using Q8⟩
      · have c0 : wr.cell? ⟨bl, 1, none⟩ = some (.pointer (some ⟨tb, 0, none⟩)) := Q.l.at 1 rfl
        go_upto_region 12 with (fail)
        clear c0 hu
        replace P := P.swap
        replace Q := Q.swap
        by_cases hov : overQ n mb sb
        · replace hov := Lib.hid hov
          go_wp2_with fail
          refine (clNext_over wr Q.t.m.m Q.t.A hov.out).mono ?_
          rintro e w4' ⟨rfl, hb4⟩
          have Q5 := (Q.under hb4).under ((Below.refl _ w4').alloc (Nat.le_refl _) (.cells (accY 0 0 0 0) 48))
          generalize hW : w4'.alloc (.cells (accY 0 0 0 0) 48) = w5 at Q5
          replace hW := Lib.hid hW
          clear Q hb4
          go_wp2_with (refine wpList_store_row rfl 48 _ _ rfl _ _ rfl rfl 48 _ (Blk.new w4' _ _).h (by kernel_rfl) (by rfl) (by kernel_rfl) ?_; rw [World.setRow_alloc_new, hW.out])
          go_roundg (ks.length - (k + 1))
          case measure => omega
          case rel => exact ⟨k + 1, _, _, da, sa, db, sb, ca, cb, xa, xb, by omega, by omega, by go_num, P.swap, Q5.swap⟩
        · obtain ⟨c', P'⟩ := P.step hn30.1 hov
          have hI := P.c
          have hTI := P.a
          have hsm : (sb).l.length ≤ 60000 := by have := P.la; omega
          have hw0 := load_rng hI.rng ((n : Int) + (sb).place)
          have hx : (sb).ld = false → 0 ≤ (sb).word ∧ (sb).word ≤ 18446744073709551615 := fun e => by rw [(hTI.ld e).2.2.1]; exact hw0.1
          cases hld : (sb).ld
          · have hv : 0 ≤ (sb).ver ∧ (sb).ver ≤ 18446744073709551615 := by rw [(hTI.ld hld).2.2.2]; exact hw0.2
            have hg := mayI_gen (hTI.ld hld).2.1 hw0.1.1
            rw [← (hTI.ld hld).2.2.1] at hg
            have hU0 := useI_lo 1 (stateG (sb).word + 1) hg.1
            have hU1 := useI_hi 1 (stateG (sb).word + 1)
            have ha : accQ n 2 sb = (3, atI n 2 1 (sb).place, (sb).ver, useI 1 (stateG (sb).word + 1)) := by simp [accQ, hld]
            have hd : doQ n 2 sb L = casL L (atI n 2 1 (sb).place) (sb).ver (useI 1 (stateG (sb).word + 1)) := by simp [doQ, hld]
            rw [hd] at P'
            clear hd
            replace hx := Lib.hid hx
            generalize hadr : atI n 2 1 (sb).place = ad at ha P'
            generalize hwdr : useI 1 (stateG (sb).word + 1) = wdr at ha P' hU0 hU1
            generalize hvrr : (sb).ver = vr at ha P' hv
            replace hadr := Lib.hid hadr
            replace hwdr := Lib.hid hwdr
            replace hvrr := Lib.hid hvrr
            replace hld := Lib.hid hld
            go_wp2_with fail
            refine (clNext_q wr Q.t.m.m Q.t.A P.a.pl hov hx.out ha).mono ?_
            rintro e w4' ⟨rfl, hb4⟩
            have Q5 := (Q.under hb4).under ((Below.refl _ w4').alloc (Nat.le_refl _) (.cells (accY 3 ad vr wdr) 48))
            have BA := Blk.new w4' (accY 3 ad vr wdr) 48
            generalize hW : w4'.alloc (.cells (accY 3 ad vr wdr) 48) = w5 at Q5 BA
            replace hW := Lib.hid hW
            clear Q hb4
            go_wp2_with (first
              | (refine wpList_store_row rfl 48 _ _ rfl _ _ rfl rfl 48 _ (Blk.new w4' _ _).h (by kernel_rfl) (by rfl) (by kernel_rfl) ?_; rw [World.setRow_alloc_new, hW.out])
              | (refine wpList_load_row rfl 48 _ rfl w4'.heap.size rfl 48 _ (0, 0) _ BA.h Try.underlying48 rfl (by kernel_rfl) ?_))
            clear hW BA
            refine (do_cas ad vr wdr _ _ _ _ _ _ _ _ _ _ _ _ _ _ _ _ _ _ _ _ _ _ _ Q5.t.m.m hv.1 hv.2 hU0 hU1).mono ?_
            rintro e w6 ⟨rfl, hM6, hF6⟩
            have Q6 := Q5.did hM6 hF6
            clear Q5 hM6 hF6
            go_wp2_with fail
            have htell := clTell_write (L := L) (many := mb) w6 Q6.t.m.m Q6.t.A hTI.pl hov hld.out (hx.out hld.out) hsm Q6.t.hs 0 0
            rw [hadr.out, hvrr.out] at htell
            refine htell.mono ?_
            rintro e w7 ⟨d7, rfl, X7, M7⟩
            have Q7 := Q6.tell X7 M7
            clear Q6 X7 M7 htell
            have dd : w7.cell? ⟨bd, 1, none⟩ = some (.int .i64 xb) := Q7.d.at 1 rfl
            have fd := Q7.d.free 1
            have hdl : xb ≤ 2000 := by have := P.na; have := doneQ_le hn30.1 P.a (by have := ph1_len hn30.1 P.c; omega); have h18 : 2 * n * n ≤ 60 * 30 := Nat.mul_le_mul (by omega) hn30.2; omega
            have hwd : IntKind.i64.wrap ((xb : Int) + 1) = (xb : Int) + 1 := by rw [IntKind.wrap_i64]; omega
            have Q8 := Q7.mark 1 (.int .i64 ((xb : Int) + 1))
            clear Q7
            go_wp2_with fail
            go_roundg (ks.length - (k + 1))
            case measure => omega
            case rel => exact ⟨k + 1, _, _, da, sa, d7, tellQ n 2 sb L, ca, c', xa, xb + 1, by omega, by omega, by go_num, P'.swap, by simpa [dones] using Q8.swap⟩
          · have ha : accQ n 2 sb = (1, atI n 2 1 (sb).place, 0, 0) := by simp [accQ, hld]
            have hd : doQ n 2 sb L = L := by simp [doQ, hld]
            rw [hd] at P'
            clear hd
            replace hx := Lib.hid hx
            generalize hadr : atI n 2 1 (sb).place = ad at ha
            replace hadr := Lib.hid hadr
            replace hld := Lib.hid hld
            go_wp2_with fail
            refine (clNext_q wr Q.t.m.m Q.t.A P.a.pl hov hx.out ha).mono ?_
            rintro e w4' ⟨rfl, hb4⟩
            have Q5 := (Q.under hb4).under ((Below.refl _ w4').alloc (Nat.le_refl _) (.cells (accY 1 ad 0 0) 48))
            have BA := Blk.new w4' (accY 1 ad 0 0) 48
            generalize hW : w4'.alloc (.cells (accY 1 ad 0 0) 48) = w5 at Q5 BA
            replace hW := Lib.hid hW
            clear Q hb4
            go_wp2_with (first
              | (refine wpList_store_row rfl 48 _ _ rfl _ _ rfl rfl 48 _ (Blk.new w4' _ _).h (by kernel_rfl) (by rfl) (by kernel_rfl) ?_; rw [World.setRow_alloc_new, hW.out])
              | (refine wpList_load_row rfl 48 _ rfl w4'.heap.size rfl 48 _ (0, 0) _ BA.h Try.underlying48 rfl (by kernel_rfl) ?_))
            clear hW BA
            refine (do_load ad 0 0 _ _ _ _ _ _ _ _ _ _ _ _ _ _ _ _ _ _ _ _ _ _ _ Q5.t.m.m).mono ?_
            rintro e w6 ⟨rfl, hb6⟩
            have Q6 := Q5.under hb6
            clear Q5 hb6
            go_wp2_with fail
            have htell := clTell_load (many := mb) w6 Q6.t.m.m Q6.t.A hTI.pl hov hld.out (inB L.length ad)
            rw [hadr.out] at htell
            refine htell.mono ?_
            rintro e w7 ⟨d7, rfl, X7, M7⟩
            have Q7 := Q6.tell X7 M7
            clear Q6 X7 M7 htell
            have dd : w7.cell? ⟨bd, 1, none⟩ = some (.int .i64 xb) := Q7.d.at 1 rfl
            have fd := Q7.d.free 1
            have hdl : xb ≤ 2000 := by have := P.na; have := doneQ_le hn30.1 P.a (by have := ph1_len hn30.1 P.c; omega); have h18 : 2 * n * n ≤ 60 * 30 := Nat.mul_le_mul (by omega) hn30.2; omega
            have hwd : IntKind.i64.wrap ((xb : Int) + 1) = (xb : Int) + 1 := by rw [IntKind.wrap_i64]; omega
            have Q8 := Q7.mark 1 (.int .i64 ((xb : Int) + 1))
            clear Q7
            go_wp2_with fail
            go_roundg (ks.length - (k + 1))
            case measure => omega
            case rel => exact ⟨k + 1, _, _, da, sa, d7, tellQ n 2 sb L, ca, c', xa, xb + 1, by omega, by omega, by go_num, P'.swap, by simpa [dones] using Q8.swap⟩
    · obtain rfl : k = ks.length := by omega
      have c0 : wr.cell? ⟨bl, 0, none⟩ = some (.pointer (some ⟨ta, 0, none⟩)) := Q.l.at 0 rfl
      have c1 : wr.cell? ⟨bl, 1, none⟩ = some (.pointer (some ⟨tb, 0, none⟩)) := Q.l.at 1 rfl
      obtain ⟨mo, hmo⟩ : ∃ mo : Nat, mo = 40 * n := ⟨_, rfl⟩
      have hmo5 : mo ≤ 50000 := by omega
      have hwA : IntKind.i64.wrap (2 * (n : Int)) = 2 * (n : Int) := by rw [IntKind.wrap_i64]; omega
      have hwB : IntKind.i64.wrap (2 * (n : Int) * 20) = (mo : Int) := by rw [IntKind.wrap_i64]; omega
      obtain ⟨C, hC⟩ : ∃ C : Nat, C = 2 * n * n := ⟨_, rfl⟩
      have hCC : costI (n : Int) (n : Int) = (C : Int) := by
        unfold costI
        rw [if_pos (by omega), hC]
        push_cast
        rfl
      have hC18 : C ≤ 1800 := by rw [hC]; exact Nat.mul_le_mul (show 2 * n ≤ 60 by omega) hn30.2
      have hcst := fun W' => clCost_any (n : Int) (n : Int) W'
      rw [hCC] at hcst
      have hix0 := fun W' => ix0 (some ⟨ta, 0, none⟩) (some ⟨tb, 0, none⟩) W'
      have hix1 := fun W' => ix1 (some ⟨ta, 0, none⟩) (some ⟨tb, 0, none⟩) W'
      replace hmo := Lib.hid hmo
      replace hC := Lib.hid hC
      clear hCC hlt
      go_wp2_with fail
      clear c0 c1
      obtain ⟨wo, rfl⟩ : ∃ wo : World, wo = wr := ⟨_, rfl⟩
      go_loopg [88] 2 (fun gg i wr => ∃ j L bs da sa db sb ca cb ya yb, j ≤ 2 ∧ 2 ≤ j + gg ∧ i = .int .i64 (j : Nat) ∧ Pl n L ma mb ca cb sa sb ya yb ∧ (j = 0 → ya = xa) ∧ (j ≤ 1 → yb = xb) ∧ (1 ≤ j → overQ n ma sa) ∧ (2 ≤ j → overQ n mb sb) ∧ Tv w base o oc g gb gr n L bs rs ta ma da sa tb mb db sb bl bd (ptrs ta tb) (dones xa xb) wr)
      case atStart => exact ⟨0, L, bs, da, sa, db, sb, ca, cb, xa, xb, by omega, by omega, rfl, P, fun _ => rfl, fun _ => rfl, fun h => by omega, fun h => by omega, Q⟩
      case round =>
        clear P Q
        obtain ⟨j, L, bs, da, sa, db, sb, ca, cb, ya, yb, hj, hjg, rfl, P, e1, e2, o1, o2, Q⟩ := hrel
        have h012 : j = 0 ∨ j = 1 ∨ j = 2 := by omega
        rcases h012 with rfl | rfl | rfl
        · obtain rfl : ya = xa := e1 rfl
          obtain rfl : yb = xb := e2 (by omega)
          obtain ⟨ca', q1, q2, P'⟩ := Pl.run hn30.1 hma19.1 (P)
          rw [← hmo.out] at q1 q2 P'
          have hR := clRun_any mo hmo5 wr (Q.t.m) (Q.t.A) Q.t.hs (P.c) (P.a)
          generalize qrun n 2 ma mo sa L = q at hR q1 q2 P'
          obtain ⟨cnt, okq, s', L'⟩ := q
          simp only at q1 q2 P'
          subst q1
          replace q2 := Lib.hid q2
          go_wp2_with fail
          refine hR.mono ?_
          rintro e w4 ⟨ao, co, d', bs', out, rfl, hlen, R⟩
          clear hR
          have Q4 := Q.told R.m R.C R.fr R.sub
          have q2 := q2.out
          have hle : ya + cnt ≤ C := by
            have h1 := P'.na
            have h2 := doneQ_le hn30.1 P'.a (by have := ph1_len hn30.1 P'.c; omega)
            rw [hC.out]; omega
          have dc : w4.cell? ⟨bd, 0, none⟩ = some (.int .i64 ya) := Q4.d.at 0 rfl
          have hwS : IntKind.i64.wrap ((ya : Int) + (cnt : Int)) = (ya : Int) + (cnt : Int) := by rw [IntKind.wrap_i64]; omega
          have hqS : decide ((C : Int) < (ya : Int) + (cnt : Int)) = false := by simp; omega
          replace q2 := Lib.hid q2
          clear R hlen Q
          go_upto_region 21 with (fail)
          go_quiet (exact Calls.quiet_of_same ((hcst _).flip))
          have Q5 := Q4.under (below_drewN (Below.refl w4.heap.size w4) nq)
          clear Q4
          replace q2 := q2.out
          go_wp2_with fail
          go_roundg (gk - 1)
          case measure => omega
          case rel => exact ⟨1, _, _, _, s', db, sb, ca', cb, ya + cnt, yb, by omega, by omega, rfl, P', fun h => by omega, fun _ => rfl, fun _ => q2, fun h => by omega, Q5⟩
        · obtain rfl : yb = xb := e2 (by omega)
          obtain ⟨ca', q1, q2, P'⟩ := Pl.run hn30.1 hma19.2 (P.swap)
          rw [← hmo.out] at q1 q2 P'
          have hR := clRun_any mo hmo5 wr (Q.t.m) (Q.t.B) Q.t.hs (P.c.swap) (P.b)
          generalize qrun n 2 mb mo sb L = q at hR q1 q2 P'
          obtain ⟨cnt, okq, s', L'⟩ := q
          simp only at q1 q2 P'
          subst q1
          replace q2 := Lib.hid q2
          go_wp2_with fail
          refine hR.mono ?_
          rintro e w4 ⟨ao, co, d', bs', out, rfl, hlen, R⟩
          clear hR
          have Q4 := (Q.swap.told R.m R.C R.fr R.sub).swap
          have q2 := q2.out
          have hle : yb + cnt ≤ C := by
            have h1 := P'.na
            have h2 := doneQ_le hn30.1 P'.a (by have := ph1_len hn30.1 P'.c; omega)
            rw [hC.out]; omega
          have dc : w4.cell? ⟨bd, 1, none⟩ = some (.int .i64 yb) := Q4.d.at 1 rfl
          have hwS : IntKind.i64.wrap ((yb : Int) + (cnt : Int)) = (yb : Int) + (cnt : Int) := by rw [IntKind.wrap_i64]; omega
          have hqS : decide ((C : Int) < (yb : Int) + (cnt : Int)) = false := by simp; omega
          replace q2 := Lib.hid q2
          clear R hlen Q
          go_upto_region 21 with (fail)
          go_quiet (exact Calls.quiet_of_same ((hcst _).flip))
          have Q5 := Q4.under (below_drewN (Below.refl w4.heap.size w4) nq)
          clear Q4
          replace q2 := q2.out
          go_wp2_with fail
          go_roundg (gk - 1)
          case measure => omega
          case rel => exact ⟨2, _, _, da, sa, _, s', ca, ca', ya, yb + cnt, by omega, by omega, rfl, P'.swap, fun h => by omega, fun h => by omega, fun _ => o1 (by omega), fun _ => q2, Q5⟩
        · have oa := o1 (by omega)
          clear o1 o2 e1 e2 hcst hix0 hix1
          have hla : sa.l.length ≤ 19 ∧ sb.l.length ≤ 19 := by have := P.la; have := P.lb; omega
          have hap := fun x hx => ph1_apart (by omega) P.c x hx
          rw [← P.a.l, ← P.b.l] at hap
          replace oa := Lib.hid oa
          have hwa := clWords_any wr Q.t.m.m Q.t.A (by omega)
          go_wp2_with fail
          refine hwa.mono ?_
          rintro e w5 ⟨a5, c5, rfl, O5, hb5⟩
          have Q5 := Q.under hb5
          have U5 := O5.words (by omega)
          clear Q hb5 O5 hwa
          go_wp2_with fail
          obtain ⟨wo, rfl⟩ : ∃ wo : World, wo = wr := ⟨_, rfl⟩
          go_loopg [119] (sa.l.length) (fun gg i wr => ∃ k : Nat, k ≤ sa.l.length ∧ sa.l.length ≤ k + gg ∧ i = .int .i64 k ∧ Below w5.heap.size w5 wr)
          case atStart => exact ⟨0, Nat.zero_le _, by omega, rfl, Below.refl _ _⟩
          case round =>
            obtain ⟨k, hk, hkg, rfl, hbk⟩ := hrel
            by_cases hlt : k < sa.l.length
            · obtain ⟨ub, uoff, rfl, hubl, hu⟩ := (U5.below hbk).cell k hlt
              have hlt' : (k : Int) < (sa.l.length : Int) := by omega
              have hx := hap (at0 sa.l k) (at0_mem sa.l k hlt)
              generalize at0 sa.l k = x at hu hx
              have Qk := Q5.under hbk
              have hwb := clWords_any wr Qk.t.m.m Qk.t.B (by omega)
              go_wp2_with fail
              refine hwb.mono ?_
              rintro e w6 ⟨a6, c6, rfl, O6, hb6⟩
              have hdn := HazP.dnamed_any a6 c6 sb.l x w6 (O6.words (by omega))
              rw [hx] at hdn
              go_wp2_with fail
              refine hdn.mono ?_
              rintro e w7 ⟨rfl, rfl⟩
              go_wp2_with fail
              go_roundg (sa.l.length - (k + 1))
              case measure => omega
              case rel => exact ⟨k + 1, by omega, by omega, by go_num, below_push2 hbk hb6 (Nat.le_refl _)⟩
            · obtain rfl : k = sa.l.length := by omega
              have Q6 := Q5.under hbk
              clear Q5 U5 hbk hlt
              by_cases hok : ma ≤ sa.l.length
              · have hokq : decide ((ma : Int) ≤ (sa.l.length : Int)) = true := by simp; omega
                clear hok
                go_wp2_with fail
                refine (clOk_any wr Q6.t.m.m Q6.t.A true hokq).mono ?_
                rintro e w7 ⟨rfl, hb7⟩
                have Q7 := Q6.under hb7
                clear Q6 hb7 hokq
                have hwa2 := clWords_any w7 Q7.t.m.m Q7.t.A (by omega)
                have hgoodW : ∀ x ∈ sa.l, GdW n x = true := fun x hx => (ph1_good (by omega) P.c x (by rw [← P.a.l]; exact hx)).1
                have hsn : sa.l.length ≤ n - 1 := by have := ph1_len hn30.1 P.c; rw [P.a.l, List.length_map]; omega
                go_wp2_with fail
                refine hwa2.mono ?_
                rintro e w8 ⟨a8, c8, rfl, O8, hb8⟩
                clear hwa2
                have hb9 : Below w8.heap.size w8 (w8.alloc (.cells #[.int .u64 0, .int .u64 5] 27)) := (Below.refl _ w8).alloc (Nat.le_refl _) _
                have HX : U64s (w8.alloc (.cells #[.int .u64 0, .int .u64 5] 27)) (some ⟨w8.heap.size, 0, none⟩) [0, 5] :=
                  ⟨Holds.of_blk' (Blk.new w8 #[.int .u64 0, .int .u64 5] 27) _ _ (fun i hi => by rcases i with _ | _ | i <;> first | rfl | (simp at hi; try omega)), by simp, by simp⟩
                obtain ⟨g', cap, wA, KA⟩ := addAll w7.heap.size (O8.below hb9) (c' := 2) HX (by simp) (by simp; omega) (by have := hb8.size; simp; omega)
                have hrun := Lib.hid KA.run
                have hbK := KA.keeps (fun q e => ((O8.below hb9).lt q e).1) w7 w7.heap.size (Nat.le_refl _) (below_push2 hb8 hb9 (Nat.le_refl _)) (by have := hb8.size; simp; omega)
                have QA := Q7.under hbK
                have hret := return_any (A := n) (T := 2) (some ⟨g', 0, none⟩) cap (sa.l ++ [0, 5]) wA QA.t.m QA.t.hs (KA.own.words (by simp; omega)) (by simp; omega)
                have e25 : List.length (sa.l ++ ([0, 5] : List Int)) = sa.l.length + 2 := by simp
                rw [kept_back hgoodW, e25] at hret
                clear e25
                clear KA hb9 HX O8 hbK Q7
                go_wp2_with (at_builtin; refine wpList_append_run hrun.out rfl (by rfl) (by rfl) (by rfl) ?_)
                refine hret.mono ?_
                rintro e w10 ⟨⟨a10, c10, rfl, K10⟩, hb10⟩
                clear hret hrun
                have B0 : Bv w base o oc g gb gr n (backL n L (sa.l.take 0)) bs rs ta ma da sa wA.heap.size wA.heap.size a10 c10 (sa.l.drop 0) w10 := by
                  have QX := QA.under hb10
                  refine ⟨QX.t.b, QX.t.m, QX.t.A, K10, fun hm => ?_, ⟨QA.t.hs, hb10.size⟩, QX.t.lo⟩
                  have := (cOwn_ge QA.t.A _ hm).2
                  omega
                have hrngL := QA.t.m.m.cells.rng
                generalize wA.heap.size = tk at B0 ⊢
                clear QA K10 hb10 hb8
                have hwn1 : IntKind.i64.wrap ((n : Int) + 1) = ((n + 1 : Nat) : Int) := by rw [IntKind.wrap_i64]; omega
                obtain ⟨n1, hn1⟩ : ∃ n1 : Nat, n1 = n + 1 := ⟨_, rfl⟩
                rw [← hn1] at hwn1
                replace hn1 := Lib.hid hn1
                go_wp2_with fail
                obtain ⟨wo2, rfl⟩ : ∃ wo : World, wo = w10 := ⟨_, rfl⟩
                go_loopg [151] n1 (fun gg i wr => ∃ k bs a c, k ≤ n1 ∧ n1 ≤ k + gg ∧ i = .int .i64 (k : Nat) ∧ Bv w base o oc g gb gr n (backL n L (sa.l.take k)) bs rs ta ma da sa tk tk a c (sa.l.drop k) wr)
                case atStart => exact ⟨0, _, _, _, Nat.zero_le _, by omega, rfl, B0⟩
                case round =>
                  clear B0
                  obtain ⟨k, bs, a, c, hk, hkg, rfl, B⟩ := hrel
                  by_cases hlt : k < n1
                  · have hlt' : (k : Int) < (n1 : Int) := by omega
                    by_cases hkl : k < sa.l.length
                    · have hsucc := backL_succ (n := n) (L := L) hkl
                      rw [drop_at hkl] at B
                      have hgx := hgoodW (at0 sa.l k) (at0_mem sa.l k hkl)
                      have hxr := B.K.words.rng (at0 sa.l k) (by simp)
                      have hG := (open_bounds (at0 sa.l k)).2.2
                      have hfr : 0 ≤ HazP.freedI (at0 sa.l k) ∧ HazP.freedI (at0 sa.l k) ≤ 18446744073709551615 := by
                        unfold HazP.freedI
                        split
                        · split
                          · exact ⟨useI_lo _ _ hG.1, useI_hi _ _⟩
                          · exact ⟨useI_lo _ _ hG.1, useI_hi _ _⟩
                        · omega
                      generalize at0 sa.l k = x at B hgx hxr hG hfr hsucc
                      generalize hfx : HazP.freedI x = fx at hfr hsucc
                      have hnx := bkNext_any (base := base) (A := n) (T := 2) wr B.m.m B.K hgx
                      rw [hfx] at hnx
                      generalize hox : (n : Int) + openP x = ox at hnx hsucc
                      replace hox := Lib.hid hox
                      replace hfx := Lib.hid hfx
                      go_wp2_with fail
                      refine hnx.mono ?_
                      rintro e w11 ⟨rfl, hb11⟩
                      have B12 := (B.under hb11).under ((Below.refl _ w11).alloc (Nat.le_refl _) (.cells (accY 2 ox 0 fx) 48))
                      have BA := Blk.new w11 (accY 2 ox 0 fx) 48
                      generalize hW : w11.alloc (.cells (accY 2 ox 0 fx) 48) = w12 at B12 BA
                      replace hW := Lib.hid hW
                      clear B hb11 hnx
                      go_wp2_with (first
                        | (refine wpList_store_row rfl 48 _ _ rfl _ _ rfl rfl 48 _ (Blk.new w11 _ _).h (by kernel_rfl) (by rfl) (by kernel_rfl) ?_; rw [World.setRow_alloc_new, hW.out])
                        | (refine wpList_load_row rfl 48 _ rfl w11.heap.size rfl 48 _ (0, 0) _ BA.h Try.underlying48 rfl (by kernel_rfl) ?_))
                      clear hW BA
                      refine (do_store ox 0 fx _ _ _ _ _ _ _ _ _ _ _ _ _ _ _ _ _ _ _ _ _ _ _ B12.m.m hfr.1 hfr.2).mono ?_
                      rintro e w13 ⟨rfl, hM13, hF13⟩
                      have B13 := B12.did hM13 hF13
                      clear B12 hM13 hF13
                      rw [← hsucc] at B13
                      go_wp2_with fail
                      refine (bkTell_any w13 B13.m.m B13.K hgx _ 0 0).mono ?_
                      rintro e w14 ⟨⟨a14, c14, rfl, K14⟩, hF14⟩
                      have B14 := B13.tell K14 hF14
                      clear B13 K14 hF14
                      go_wp2_with fail
                      go_roundg (n1 - (k + 1))
                      case measure => omega
                      case rel => exact ⟨k + 1, _, _, _, by omega, by omega, by go_num, B14⟩
                    · have hdr : sa.l.drop k = [] := List.drop_eq_nil_of_le (by omega)
                      have hdr1 : sa.l.drop (k + 1) = [] := List.drop_eq_nil_of_le (by omega)
                      have htk : sa.l.take (k + 1) = sa.l.take k := by rw [List.take_of_length_le (by omega), List.take_of_length_le (by omega)]
                      rw [hdr] at B
                      replace hdr1 := Lib.hid hdr1
                      replace htk := Lib.hid htk
                      clear hdr
                      go_wp2_with fail
                      refine (bkNext_over wr B.K).mono ?_
                      rintro e w11 ⟨rfl, hb11⟩
                      have B12 := (B.under hb11).under ((Below.refl _ w11).alloc (Nat.le_refl _) (.cells (accY 0 0 0 0) 48))
                      generalize hW : w11.alloc (.cells (accY 0 0 0 0) 48) = w12 at B12
                      replace hW := Lib.hid hW
                      clear B hb11
                      go_wp2_with (refine wpList_store_row rfl 48 _ _ rfl _ _ rfl rfl 48 _ (Blk.new w11 _ _).h (by kernel_rfl) (by rfl) (by kernel_rfl) ?_; rw [World.setRow_alloc_new, hW.out])
                      go_roundg (n1 - (k + 1))
                      case measure => omega
                      case rel =>
                        have hk31 : k + 1 ≤ 9223372036854775807 := by have := hn1.out; omega
                        exact ⟨k + 1, _, _, _, by omega, by omega, by rw [IntWalk.wrap64_in _ ⟨by omega, by omega⟩]; first | rfl | go_num, by rw [htk.out, hdr1.out]; exact B12⟩
                  · obtain rfl : k = n1 := by omega
                    rw [List.drop_eq_nil_of_le (by have := hn1.out; omega), List.take_of_length_le (by have := hn1.out; omega)] at B
                    have hL2 := (backL_keeps (n := n) (by omega) sa.l L (by have := P.c.len; omega) hrngL (fun x hx => (ph1_good (by omega) P.c x (by rw [← P.a.l]; exact hx)).2))
                    have hsal := P.a.l
                    have hclen : ca.length = sa.l.length := by rw [hsal]; simp
                    obtain ⟨L2, hLL⟩ : ∃ L2, L2 = backL n L sa.l := ⟨_, rfl⟩
                    rw [← hLL] at hL2 B
                    have hC0 : CI n L2 L2 ([] ++ []) := CI.start (by rw [hL2.1]; have := P.c.len; omega) hL2.2.1
                    have hT0 : TI n L2 [] [] (newQ 0) := TI.start (by omega) []
                    obtain ⟨c3, q1, q2, q3, q4, _, _, _⟩ := qrun_all (T := 2) (many := sa.l.length) hn30.1 (40 * n) hC0 hT0 (potQ_le hn30.1 hla.1)
                    rw [← hmo.out] at q1 q2 q3 q4
                    have hokE := ph2_ok (c := ca) (o := cb) (by omega) P.c (by rw [hLL, hsal]) q3 q4 (by rw [hclen]; exact q2) hrngL
                    rw [hclen] at hokE
                    replace hLL := Lib.hid hLL
                    replace hsal := Lib.hid hsal
                    clear hL2 q2 q3 q4 hrngL hclen hgoodW hlt
                    go_wp2_with fail
                    refine (bkNext_over wr B.K).mono ?_
                    rintro e w11 ⟨rfl, hb11⟩
                    have B12 := (B.under hb11).under ((Below.refl _ w11).alloc (Nat.le_refl _) (.cells (accY 0 0 0 0) 48))
                    generalize hW : w11.alloc (.cells (accY 0 0 0 0) 48) = w12 at B12
                    replace hW := Lib.hid hW
                    clear B hb11
                    have hwa3 := clWords_any w12 B12.m.m B12.A (by omega)
                    go_wp2_with (refine wpList_store_row rfl 48 _ _ rfl _ _ rfl rfl 48 _ (Blk.new w11 _ _).h (by kernel_rfl) (by rfl) (by kernel_rfl) ?_; rw [World.setRow_alloc_new, hW.out])
                    clear hW
                    refine hwa3.mono ?_
                    rintro e w13 ⟨a13, c13, rfl, O13, hb13⟩
                    have B13 := B12.under hb13
                    clear B12 hb13 O13 hwa3
                    go_wp2_with fail
                    refine (show Calls _ _ _ _ _ from clNew_at (A := n) (sa.l.length : Int) 0 (by omega) w13 B13.m.m).mono ?_
                    rintro e w14 ⟨rfl, hC14, hb14⟩
                    have hM14 := B13.m.under hb14
                    have hBe := below_push2 B13.b hb14 (Nat.le_refl _)
                    have hlo14 := B13.lo
                    have hhs14 := B13.hs
                    have hC14' : ClQ w14 base o w13.heap.size sa.l.length (none, 0) (newQ 0) := ⟨hC14.head, OwnsU.nil _ _, by omega, fun q hq => by simp [Value.ownBlock] at hq⟩
                    have hR := clRun_any mo hmo5 w14 hM14 hC14' (by have := hb14.size; omega) hC0 hT0
                    generalize qrun n 2 sa.l.length mo (newQ 0) L2 = q at hR q1 hokE
                    obtain ⟨cnt, okq, s', L'⟩ := q
                    simp only at q1 hokE
                    subst q1
                    have hokI : decide ((sa.l.length : Int) ≤ (s'.l.length : Int)) = true := by simp; omega
                    replace hokE := Lib.hid hokE
                    go_wp2_with fail
                    refine hR.mono ?_
                    rintro e w15 ⟨ao, co, d', bs', out, rfl, hlen, R⟩
                    have hBf : Below w.heap.size w w15 := R.fr.below hBe (Nat.le_refl _) (fun q hq => by
                      simp only [cOwn, ownS, Value.ownBlock, List.mem_cons, List.not_mem_nil, or_false] at hq
                      rcases hq with e | e | e <;> omega)
                    go_wp2_with fail
                    refine (clOk_any w15 R.m.m R.C true hokI).mono ?_
                    rintro e w16 ⟨rfl, hb16⟩
                    have hBg := below_push2 hBf hb16 (Nat.le_refl _)
                    clear R hR hlen B13 hC14 hM14
                    go_wp2_with fail
                    refine (clLives_any _).mono ?_
                    rintro e w17 ⟨rfl, hb17⟩
                    go_wp2_with fail
                    go_ret
                    exact ⟨rfl, below_push2 hBg hb17 (Nat.le_refl _)⟩
              · have hokq : decide ((ma : Int) ≤ (sa.l.length : Int)) = false := by simp; omega
                have hfull : sa.l.length + sb.l.length = n - 1 := by
                  have hov := oa.out
                  have hs : n ≤ sa.seen := by unfold overQ at hov; omega
                  have := ph1_full hn30.1 P.c (fun p hp => P.a.all hs p hp)
                  rw [P.a.l, P.b.l, List.length_map, List.length_map]
                  exact this
                have hfI : (((sa.l.length : Int) + (sb.l.length : Int)) != (n : Int) - 1) = false := by simp; omega
                have hwS : IntKind.i64.wrap ((sa.l.length : Int) + (sb.l.length : Int)) = (sa.l.length : Int) + (sb.l.length : Int) := by rw [IntKind.wrap_i64]; omega
                have hwN : IntKind.i64.wrap ((n : Int) - 1) = (n : Int) - 1 := by rw [IntKind.wrap_i64]; omega
                clear hok hfull
                go_wp2_with fail
                refine (clOk_any wr Q6.t.m.m Q6.t.A false hokq).mono ?_
                rintro e w6 ⟨rfl, hb6⟩
                replace Q6 := Q6.under hb6
                clear hb6 hokq
                have hw61 := clWords_any w6 Q6.t.m.m Q6.t.A (by omega)
                go_wp2_with fail
                refine hw61.mono ?_
                rintro e w61 ⟨a61, c61, rfl, _, hb61⟩
                replace Q6 := Q6.under hb61
                clear hb61 hw61
                have hw62 := clWords_any w61 Q6.t.m.m Q6.t.B (by omega)
                go_wp2_with fail
                refine hw62.mono ?_
                rintro e w7 ⟨a62, c62, rfl, _, hb62⟩
                have Q7 := Q6.under hb62
                clear Q6 hb62 hw62
                have hwa2 := clWords_any w7 Q7.t.m.m Q7.t.A (by omega)
                have hgoodW : ∀ x ∈ sa.l, GdW n x = true := fun x hx => (ph1_good (by omega) P.c x (by rw [← P.a.l]; exact hx)).1
                have hsn : sa.l.length ≤ n - 1 := by have := ph1_len hn30.1 P.c; rw [P.a.l, List.length_map]; omega
                go_wp2_with fail
                refine hwa2.mono ?_
                rintro e w8 ⟨a8, c8, rfl, O8, hb8⟩
                clear hwa2
                have hb9 : Below w8.heap.size w8 (w8.alloc (.cells #[.int .u64 0, .int .u64 5] 27)) := (Below.refl _ w8).alloc (Nat.le_refl _) _
                have HX : U64s (w8.alloc (.cells #[.int .u64 0, .int .u64 5] 27)) (some ⟨w8.heap.size, 0, none⟩) [0, 5] :=
                  ⟨Holds.of_blk' (Blk.new w8 #[.int .u64 0, .int .u64 5] 27) _ _ (fun i hi => by rcases i with _ | _ | i <;> first | rfl | (simp at hi; try omega)), by simp, by simp⟩
                obtain ⟨g', cap, wA, KA⟩ := addAll w7.heap.size (O8.below hb9) (c' := 2) HX (by simp) (by simp; omega) (by have := hb8.size; simp; omega)
                have hrun := Lib.hid KA.run
                have hbK := KA.keeps (fun q e => ((O8.below hb9).lt q e).1) w7 w7.heap.size (Nat.le_refl _) (below_push2 hb8 hb9 (Nat.le_refl _)) (by have := hb8.size; simp; omega)
                have QA := Q7.under hbK
                have hret := return_any (A := n) (T := 2) (some ⟨g', 0, none⟩) cap (sa.l ++ [0, 5]) wA QA.t.m QA.t.hs (KA.own.words (by simp; omega)) (by simp; omega)
                have e25 : List.length (sa.l ++ ([0, 5] : List Int)) = sa.l.length + 2 := by simp
                rw [kept_back hgoodW, e25] at hret
                clear e25
                clear KA hb9 HX O8 hbK Q7
                go_wp2_with (at_builtin; refine wpList_append_run hrun.out rfl (by rfl) (by rfl) (by rfl) ?_)
                refine hret.mono ?_
                rintro e w10 ⟨⟨a10, c10, rfl, K10⟩, hb10⟩
                clear hret hrun
                have B0 : Bv w base o oc g gb gr n (backL n L (sa.l.take 0)) bs rs ta ma da sa wA.heap.size wA.heap.size a10 c10 (sa.l.drop 0) w10 := by
                  have QX := QA.under hb10
                  refine ⟨QX.t.b, QX.t.m, QX.t.A, K10, fun hm => ?_, ⟨QA.t.hs, hb10.size⟩, QX.t.lo⟩
                  have := (cOwn_ge QA.t.A _ hm).2
                  omega
                have hrngL := QA.t.m.m.cells.rng
                generalize wA.heap.size = tk at B0 ⊢
                clear QA K10 hb10 hb8
                have hwn1 : IntKind.i64.wrap ((n : Int) + 1) = ((n + 1 : Nat) : Int) := by rw [IntKind.wrap_i64]; omega
                obtain ⟨n1, hn1⟩ : ∃ n1 : Nat, n1 = n + 1 := ⟨_, rfl⟩
                rw [← hn1] at hwn1
                replace hn1 := Lib.hid hn1
                go_wp2_with fail
                obtain ⟨wo2, rfl⟩ : ∃ wo : World, wo = w10 := ⟨_, rfl⟩
                go_loopg [151] n1 (fun gg i wr => ∃ k bs a c, k ≤ n1 ∧ n1 ≤ k + gg ∧ i = .int .i64 (k : Nat) ∧ Bv w base o oc g gb gr n (backL n L (sa.l.take k)) bs rs ta ma da sa tk tk a c (sa.l.drop k) wr)
                case atStart => exact ⟨0, _, _, _, Nat.zero_le _, by omega, rfl, B0⟩
                case round =>
                  clear B0
                  obtain ⟨k, bs, a, c, hk, hkg, rfl, B⟩ := hrel
                  by_cases hlt : k < n1
                  · have hlt' : (k : Int) < (n1 : Int) := by omega
                    by_cases hkl : k < sa.l.length
                    · have hsucc := backL_succ (n := n) (L := L) hkl
                      rw [drop_at hkl] at B
                      have hgx := hgoodW (at0 sa.l k) (at0_mem sa.l k hkl)
                      have hxr := B.K.words.rng (at0 sa.l k) (by simp)
                      have hG := (open_bounds (at0 sa.l k)).2.2
                      have hfr : 0 ≤ HazP.freedI (at0 sa.l k) ∧ HazP.freedI (at0 sa.l k) ≤ 18446744073709551615 := by
                        unfold HazP.freedI
                        split
                        · split
                          · exact ⟨useI_lo _ _ hG.1, useI_hi _ _⟩
                          · exact ⟨useI_lo _ _ hG.1, useI_hi _ _⟩
                        · omega
                      generalize at0 sa.l k = x at B hgx hxr hG hfr hsucc
                      generalize hfx : HazP.freedI x = fx at hfr hsucc
                      have hnx := bkNext_any (base := base) (A := n) (T := 2) wr B.m.m B.K hgx
                      rw [hfx] at hnx
                      generalize hox : (n : Int) + openP x = ox at hnx hsucc
                      replace hox := Lib.hid hox
                      replace hfx := Lib.hid hfx
                      go_wp2_with fail
                      refine hnx.mono ?_
                      rintro e w11 ⟨rfl, hb11⟩
                      have B12 := (B.under hb11).under ((Below.refl _ w11).alloc (Nat.le_refl _) (.cells (accY 2 ox 0 fx) 48))
                      have BA := Blk.new w11 (accY 2 ox 0 fx) 48
                      generalize hW : w11.alloc (.cells (accY 2 ox 0 fx) 48) = w12 at B12 BA
                      replace hW := Lib.hid hW
                      clear B hb11 hnx
                      go_wp2_with (first
                        | (refine wpList_store_row rfl 48 _ _ rfl _ _ rfl rfl 48 _ (Blk.new w11 _ _).h (by kernel_rfl) (by rfl) (by kernel_rfl) ?_; rw [World.setRow_alloc_new, hW.out])
                        | (refine wpList_load_row rfl 48 _ rfl w11.heap.size rfl 48 _ (0, 0) _ BA.h Try.underlying48 rfl (by kernel_rfl) ?_))
                      clear hW BA
                      refine (do_store ox 0 fx _ _ _ _ _ _ _ _ _ _ _ _ _ _ _ _ _ _ _ _ _ _ _ B12.m.m hfr.1 hfr.2).mono ?_
                      rintro e w13 ⟨rfl, hM13, hF13⟩
                      have B13 := B12.did hM13 hF13
                      clear B12 hM13 hF13
                      rw [← hsucc] at B13
                      go_wp2_with fail
                      refine (bkTell_any w13 B13.m.m B13.K hgx _ 0 0).mono ?_
                      rintro e w14 ⟨⟨a14, c14, rfl, K14⟩, hF14⟩
                      have B14 := B13.tell K14 hF14
                      clear B13 K14 hF14
                      go_wp2_with fail
                      go_roundg (n1 - (k + 1))
                      case measure => omega
                      case rel => exact ⟨k + 1, _, _, _, by omega, by omega, by go_num, B14⟩
                    · have hdr : sa.l.drop k = [] := List.drop_eq_nil_of_le (by omega)
                      have hdr1 : sa.l.drop (k + 1) = [] := List.drop_eq_nil_of_le (by omega)
                      have htk : sa.l.take (k + 1) = sa.l.take k := by rw [List.take_of_length_le (by omega), List.take_of_length_le (by omega)]
                      rw [hdr] at B
                      replace hdr1 := Lib.hid hdr1
                      replace htk := Lib.hid htk
                      clear hdr
                      go_wp2_with fail
                      refine (bkNext_over wr B.K).mono ?_
                      rintro e w11 ⟨rfl, hb11⟩
                      have B12 := (B.under hb11).under ((Below.refl _ w11).alloc (Nat.le_refl _) (.cells (accY 0 0 0 0) 48))
                      generalize hW : w11.alloc (.cells (accY 0 0 0 0) 48) = w12 at B12
                      replace hW := Lib.hid hW
                      clear B hb11
                      go_wp2_with (refine wpList_store_row rfl 48 _ _ rfl _ _ rfl rfl 48 _ (Blk.new w11 _ _).h (by kernel_rfl) (by rfl) (by kernel_rfl) ?_; rw [World.setRow_alloc_new, hW.out])
                      go_roundg (n1 - (k + 1))
                      case measure => omega
                      case rel =>
                        have hk31 : k + 1 ≤ 9223372036854775807 := by have := hn1.out; omega
                        exact ⟨k + 1, _, _, _, by omega, by omega, by rw [IntWalk.wrap64_in _ ⟨by omega, by omega⟩]; first | rfl | go_num, by rw [htk.out, hdr1.out]; exact B12⟩
                  · obtain rfl : k = n1 := by omega
                    rw [List.drop_eq_nil_of_le (by have := hn1.out; omega), List.take_of_length_le (by have := hn1.out; omega)] at B
                    have hL2 := (backL_keeps (n := n) (by omega) sa.l L (by have := P.c.len; omega) hrngL (fun x hx => (ph1_good (by omega) P.c x (by rw [← P.a.l]; exact hx)).2))
                    have hsal := P.a.l
                    have hclen : ca.length = sa.l.length := by rw [hsal]; simp
                    obtain ⟨L2, hLL⟩ : ∃ L2, L2 = backL n L sa.l := ⟨_, rfl⟩
                    rw [← hLL] at hL2 B
                    have hC0 : CI n L2 L2 ([] ++ []) := CI.start (by rw [hL2.1]; have := P.c.len; omega) hL2.2.1
                    have hT0 : TI n L2 [] [] (newQ 0) := TI.start (by omega) []
                    obtain ⟨c3, q1, q2, q3, q4, _, _, _⟩ := qrun_all (T := 2) (many := sa.l.length) hn30.1 (40 * n) hC0 hT0 (potQ_le hn30.1 hla.1)
                    rw [← hmo.out] at q1 q2 q3 q4
                    have hokE := ph2_ok (c := ca) (o := cb) (by omega) P.c (by rw [hLL, hsal]) q3 q4 (by rw [hclen]; exact q2) hrngL
                    rw [hclen] at hokE
                    replace hLL := Lib.hid hLL
                    replace hsal := Lib.hid hsal
                    clear hL2 q2 q3 q4 hrngL hclen hgoodW hlt
                    go_wp2_with fail
                    refine (bkNext_over wr B.K).mono ?_
                    rintro e w11 ⟨rfl, hb11⟩
                    have B12 := (B.under hb11).under ((Below.refl _ w11).alloc (Nat.le_refl _) (.cells (accY 0 0 0 0) 48))
                    generalize hW : w11.alloc (.cells (accY 0 0 0 0) 48) = w12 at B12
                    replace hW := Lib.hid hW
                    clear B hb11
                    have hwa3 := clWords_any w12 B12.m.m B12.A (by omega)
                    go_wp2_with (refine wpList_store_row rfl 48 _ _ rfl _ _ rfl rfl 48 _ (Blk.new w11 _ _).h (by kernel_rfl) (by rfl) (by kernel_rfl) ?_; rw [World.setRow_alloc_new, hW.out])
                    clear hW
                    refine hwa3.mono ?_
                    rintro e w13 ⟨a13, c13, rfl, O13, hb13⟩
                    have B13 := B12.under hb13
                    clear B12 hb13 O13 hwa3
                    go_wp2_with fail
                    refine (show Calls _ _ _ _ _ from clNew_at (A := n) (sa.l.length : Int) 0 (by omega) w13 B13.m.m).mono ?_
                    rintro e w14 ⟨rfl, hC14, hb14⟩
                    have hM14 := B13.m.under hb14
                    have hBe := below_push2 B13.b hb14 (Nat.le_refl _)
                    have hlo14 := B13.lo
                    have hhs14 := B13.hs
                    have hC14' : ClQ w14 base o w13.heap.size sa.l.length (none, 0) (newQ 0) := ⟨hC14.head, OwnsU.nil _ _, by omega, fun q hq => by simp [Value.ownBlock] at hq⟩
                    have hR := clRun_any mo hmo5 w14 hM14 hC14' (by have := hb14.size; omega) hC0 hT0
                    generalize qrun n 2 sa.l.length mo (newQ 0) L2 = q at hR q1 hokE
                    obtain ⟨cnt, okq, s', L'⟩ := q
                    simp only at q1 hokE
                    subst q1
                    have hokI : decide ((sa.l.length : Int) ≤ (s'.l.length : Int)) = true := by simp; omega
                    replace hokE := Lib.hid hokE
                    go_wp2_with fail
                    refine hR.mono ?_
                    rintro e w15 ⟨ao, co, d', bs', out, rfl, hlen, R⟩
                    have hBf : Below w.heap.size w w15 := R.fr.below hBe (Nat.le_refl _) (fun q hq => by
                      simp only [cOwn, ownS, Value.ownBlock, List.mem_cons, List.not_mem_nil, or_false] at hq
                      rcases hq with e | e | e <;> omega)
                    go_wp2_with fail
                    refine (clOk_any w15 R.m.m R.C true hokI).mono ?_
                    rintro e w16 ⟨rfl, hb16⟩
                    have hBg := below_push2 hBf hb16 (Nat.le_refl _)
                    clear R hR hlen B13 hC14 hM14
                    go_wp2_with fail
                    refine (clLives_any _).mono ?_
                    rintro e w17 ⟨rfl, hb17⟩
                    go_wp2_with fail
                    go_ret
                    exact ⟨rfl, below_push2 hBg hb17 (Nat.le_refl _)⟩
set_option maxRecDepth 100000 in
theorem contract (H : Type) (enc : TypeId × Value → H) (W : World) (base : Nat) (args : Array Value) (ds : List (DataW H)) (p : List MemPlace)
    (hval : ∀ (j : Nat) t v, Try.f3.params[j]? = some t → args[j]? = some v → Value.okWide Try.prog W .any base t v)
    (hA : DataW.TrodAll enc Try.prog W 0 (fun _ => true) true Try.f3.params.toList args.toList ds p) :
    Calls Try.prog 3 args W fun e W' => e = .returned (.bool true) ∧ Below W.heap.size W W' := by
  rw [Try.params3] at hA hval
  obtain ⟨v0, vs0, d0, ds0, p0, q0, hargs, rfl, rfl, h0, r0⟩ := trodAll_cons hA
  obtain ⟨v1, vs1, d1, ds1, p1, q1, rfl, rfl, rfl, h1, r1⟩ := trodAll_cons r0
  obtain ⟨v2, vs2, d2, ds2, p2, q2, rfl, rfl, rfl, h2, r2⟩ := trodAll_cons r1
  obtain ⟨rfl, rfl, rfl⟩ := trodAll_nil r2
  obtain rfl : args = #[v0, v1, v2] := by cases args; simp_all
  obtain ⟨a0, rfl, w0⟩ := Lift.int_of Try.underlying5 (hval 0 5 v0 rfl rfl) h0
  obtain ⟨m0, m1, rfl, hm0, hm1⟩ := bytes2_of (hval 1 22 v1 rfl rfl) h1
  obtain ⟨a, us, c, rfl, hc, hN⟩ := Open.ints Try.underlying23 Try.underlying5 (by kernel_rfl) (hval 2 23 v2 rfl rfl) h2
  exact walk a0 m0 m1 a us c W (Lift.u8_range w0) hm0 hm1 hN

/-! THE ROW's STEP -/
set_option maxRecDepth 100000 in
theorem lifted (os : Os) (started : os.Started) (H : Type) (enc : TypeId × Value → H) :
    ReturnsInHanded {} Try.checked os 3 .any (Rows.claimApartSpec.pre6 enc Try.prog Try.f3 Rows.claimApartRow.domain false) (Rows.claimApartSpec.post enc Try.prog Try.f3 false true false false) := by
  refine returnsInHanded_of_change (C := Try.checked) Lift.own started (by kernel_rfl) Try.func3
    (ChangeSpec.witness6 (enc := enc) (C := Try.checked) false ⟨#[], #[.int .u8 0, .agg #[.int .u8 0, .int .u8 0], .slice none 0 0], []⟩ 8 (by kernel_rfl) (by kernel_rfl) (by kernel_rfl) (by kernel_rfl)) ?_
  intro W base args ds gs before hval0 hW hcnd _
  have hval : ∀ (j : Nat) t v, Try.f3.params[j]? = some t → args[j]? = some v → Value.okWide Try.prog W .any base t v := hval0
  have hW' := hW
  obtain ⟨p, q, hA0, hV, rfl, hfz, hnd⟩ := hW
  have hA : DataW.TrodAll enc Try.prog W 0 (fun _ => true) true Try.f3.params.toList args.toList ds p := hA0
  have hlen : ds.length = 3 := by
    have hl := Lift.trodAll_len _ _ _ _ hA
    rw [Try.params3] at hl
    simpa using hl
  have hall := fun W' (hb : Below W.heap.size W W') => Lift.trodAll_below Lift.laidOut hb Try.f3.params.toList args.toList ds p (by kernel_rfl) hA
  obtain ⟨rfl, rfl⟩ := trodVars_none hV
  refine (contract H enc W base args ds p hval hA).mono fun e W' ⟨he, bel⟩ => ?_
  subst he
  have hspec : (Rows.claimApartSpec.fn H (ds ++ [])).results = [.lit (.bool true)] ∧ (Rows.claimApartSpec.fn H (ds ++ [])).args = ds ∧ (Rows.claimApartSpec.fn H (ds ++ [])).vars = [] := by
    match ds, hlen with
    | [d1, d2, d3], _ => exact ⟨rfl, rfl, rfl⟩
  exact ⟨_, rfl, _, _, _, [], _, [], hW', by rw [hspec.1]; exact trodAll_mk1 (shut_bool Try.underlying4 _), by rw [hspec.2.1]; exact hall W' bel, by rw [hspec.2.2]; rfl, bel.frame _, fun h => by cases h⟩

theorem over : Rows.claimApartRow.holds Try.pinned (OpenSpec.ofChange Rows.claimApartSpec) :=
  OpenClaim.holds_of_wide 3 Try.f3 rfl rfl rfl rfl rfl rfl rfl ⟨rfl, rfl, rfl, rfl, rfl⟩ rfl rfl rfl rfl rfl (by kernel_rfl) Try.func3 (by kernel_rfl)
    (of_decide_eq_true (by kernel_rfl)) (by unfold Func.isWrapper; first | (rw [if_pos (by decide +kernel)]; kernel_rfl) | (rw [if_neg (by decide +kernel)]; exact ⟨rfl, rfl⟩))
    (fun os started H enc _ => lifted os started H enc)

theorem proved : Rows.ClaimApartSaid := over
#print axioms proved
end Go.Proofs.Ytppclnnkleebkaa.claimApart
