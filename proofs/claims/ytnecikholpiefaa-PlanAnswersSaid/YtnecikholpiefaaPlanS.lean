/-
  What is found of a plan's pairs: plain laws; rows of rows; plan.Answer: contract.
-/
import Derived.Test.YtnecikholpiefaaPlanR
namespace Go.Proofs.Ytnecikholpiefaa.Dp
open Go.RowKit RefP FoP
set_option linter.unusedVariables false
set_option linter.unusedSimpArgs false
/-! what is found -/
def hitB (w : Int) (f : Int × BlockV) : Bool := f.1 == w && f.2.kind == 3
def foundL (L : List (Int × BlockV)) (ws : List Int) : List (List PairV) := ws.filterMap fun w => (L.find? (hitB w)).map (·.2.pairs)
theorem foundL_le (L : List (Int × BlockV)) (ws : List Int) : (foundL L ws).length ≤ ws.length := List.length_filterMap_le _ _
theorem find_at {α : Type} {p : α → Bool} {L : List α} {i : Nat} (hi : i < L.length) (hp : p L[i] = true) (hn : ∀ j (hj : j < L.length), j < i → p L[j] = false) : L.find? p = some L[i] := by
  induction L generalizing i with
  | nil => simp at hi
  | cons x L ih =>
    cases i with
    | zero => simp at hp ⊢; simp [List.find?_cons, hp]
    | succ i =>
      have h0 := hn 0 (by simp) (by omega)
      simp only [List.getElem_cons_zero] at h0
      rw [List.find?_cons, h0]
      simp only [List.getElem_cons_succ] at hp ⊢
      exact ih (by simpa using hi) hp (fun j hj hji => by
        have := hn (j + 1) (by simpa using hj) (by omega)
        simpa using this)
theorem find_no {α : Type} {p : α → Bool} {L : List α} (hn : ∀ j (hj : j < L.length), p L[j] = false) : L.find? p = none := by
  rw [List.find?_eq_none]
  intro x hx
  obtain ⟨j, hj, rfl⟩ := List.getElem_of_mem hx
  rw [hn j hj]; simp
theorem foundL_hit {L : List (Int × BlockV)} {ws : List Int} {k i : Nat} (hk : k < ws.length) (hi : i < L.length) (hp : hitB ws[k] L[i] = true) (hn : ∀ j (hj : j < L.length), j < i → hitB ws[k] L[j] = false) : foundL L (ws.take (k + 1)) = foundL L (ws.take k) ++ [L[i].2.pairs] := by
  unfold foundL
  rw [List.take_succ_eq_append_getElem hk, List.filterMap_append]
  simp [find_at hi hp hn]
theorem foundL_miss {L : List (Int × BlockV)} {ws : List Int} {k : Nat} (hk : k < ws.length) (hn : ∀ j (hj : j < L.length), hitB ws[k] L[j] = false) : foundL L (ws.take (k + 1)) = foundL L (ws.take k) := by
  unfold foundL
  rw [List.take_succ_eq_append_getElem hk, List.filterMap_append]
  simp [find_no hn]
theorem filterMap_some {α β : Type} {f : α → Option β} {g : α → β} {l : List α} (h : ∀ x ∈ l, f x = some (g x)) : l.filterMap f = l.map g := by
  induction l with
  | nil => rfl
  | cons x l ih =>
    rw [List.filterMap_cons, h x (by simp), List.map_cons, ih (fun y hy => h y (by simp [hy]))]
theorem found_all {x : AskV} {f : Nat} (hf : x.fan = (f : Int)) (hf1 : 1 ≤ f) (hwl : x.words.length = 1 + chunkN f x.a.pairs.length + fullN x.c) (hnd : x.words.Nodup) : (foundL (x.words.zip (fillV x)) (fExtra x)).flatten = x.a.pairs := by
  have hfl : (fillV x).length = x.words.length := by
    have := fillV_length x
    unfold costK at this
    rw [hf, Int.toNat_natCast] at this; omega
  have ho : (fsAll x.words x.c).out.length = fullN x.c := by
    have := (fsAll_len x.words x.c x.c.length (Nat.le_refl _)).2
    rwa [List.take_length] at this
  have he : fExtra x = (List.range (chunkN f x.a.pairs.length)).map fun j => x.words.getD (fullN x.c + j) 0 := by
    unfold fExtra
    rw [hf, Int.toNat_natCast]
    apply List.ext_getElem?
    intro i
    rw [List.getElem?_take, List.getElem?_map]
    by_cases h : i < chunkN f x.a.pairs.length
    · rw [if_pos h, List.getElem?_drop, List.getElem?_range h]
      have : fullN x.c + i < x.words.length := by omega
      simp [List.getD_eq_getElem?_getD, List.getElem?_eq_getElem this]
    · rw [if_neg h, List.getElem?_eq_none (by simpa using h)]; rfl
  have hk : ∀ j, j < chunkN f x.a.pairs.length → (fillV x)[fullN x.c + j]? = some (fPairs (chunkV f x.a.pairs j)) := fun j hj => by
    unfold fillV
    rw [hf, Int.toNat_natCast, List.getElem?_append_right (by omega), ho, Nat.add_sub_cancel_left, List.getElem?_append_left (by rw [List.length_map, chunksV_length]; exact hj)]
    simp [chunksV, List.getElem?_range hj]
  have hfound : foundL (x.words.zip (fillV x)) (fExtra x) = (List.range (chunkN f x.a.pairs.length)).map (chunkV f x.a.pairs) := by
    rw [he]
    unfold foundL
    rw [List.filterMap_map]
    have hz : (x.words.zip (fillV x)).length = x.words.length := by rw [List.length_zip]; omega
    have : ∀ j ∈ List.range (chunkN f x.a.pairs.length), ((fun w => ((x.words.zip (fillV x)).find? (hitB w)).map (·.2.pairs)) ∘ fun j => x.words.getD (fullN x.c + j) 0) j = some (chunkV f x.a.pairs j) := fun j hj => by
      have hj' : j < chunkN f x.a.pairs.length := List.mem_range.1 hj
      have hi : fullN x.c + j < x.words.length := by omega
      have hi2 : fullN x.c + j < (fillV x).length := by omega
      have hg : (fillV x)[fullN x.c + j] = fPairs (chunkV f x.a.pairs j) := by
        have := hk j hj'
        rw [List.getElem?_eq_getElem hi2] at this
        exact Option.some.inj this
      have hw : x.words.getD (fullN x.c + j) 0 = x.words[fullN x.c + j] := by
        rw [List.getD_eq_getElem?_getD, List.getElem?_eq_getElem hi]; rfl
      simp only [Function.comp_apply, hw]
      rw [find_at (i := fullN x.c + j) (by omega) (by simp [hitB, hg, fPairs]) (fun i hi' hlt => by
        have h1 : i < x.words.length := by omega
        have hne : x.words[i] ≠ x.words[fullN x.c + j] := fun e => by
          have := (List.getElem_inj hnd).1 e
          omega
        simp [hitB, hne])]
      simp [hg, fPairs]
    exact filterMap_some this
  rw [hfound]
  have := chunks_join f hf1 x.a.pairs (chunkN f x.a.pairs.length) (Nat.le_refl _)
  rw [this]
  apply List.take_of_length_le
  have h : ¬ chunkN f x.a.pairs.length < chunkN f x.a.pairs.length := Nat.lt_irrefl _
  rw [chunkN_lt hf1] at h
  omega
/-! rows of rows -/
theorem rows_at {α : Type} {C : Cod α} {w : World} {S : List Nat} {h : Hd} {xss : List (List α)} (H : HRow (rowC C) w S h xss) (k : Nat) (hk : k < xss.length) : ∃ b off q, h.a = some ⟨b, off, none⟩ ∧ b < w.heap.size ∧ w.cell? ⟨b, off + k, none⟩ = some (.slice q.a xss[k].length q.c) ∧ HRow C w S q xss[k] := by
  obtain ⟨b, off, e, hb, _, hc⟩ := H.row (by omega)
  obtain ⟨cs, hr, hv⟩ := hc k xss[k] (List.getElem?_eq_getElem hk)
  obtain ⟨q, rfl, hok⟩ := rowC_of hr
  have := hv 0 _ rfl
  rw [show (rowC C).k = 1 from rfl, Nat.mul_one, Nat.add_zero] at this
  exact ⟨b, off, q, e, hb, this, hok⟩
theorem infoRows : (Try.prog.info? 23).map (fun i => (i.zero, i.size, i.bytes)) = some (some (.slice none 0 0), 1, 24) := by kernel_rfl
theorem tinRows : TIn Try.prog 52 23 (rowC pairT).k 24 := tin_mk Try.underlying52 infoRows (by simp [Value.cells]; rfl)
theorem flat_take_succ {α : Type} (pss : List (List α)) (k : Nat) (h : k < pss.length) : (pss.take (k + 1)).flatten = (pss.take k).flatten ++ pss[k] := by
  rw [List.take_succ_eq_append_getElem h, List.flatten_append]
  simp only [List.flatten_cons, List.flatten_nil, List.append_nil]
theorem flat_take_le {α : Type} (pss : List (List α)) (k : Nat) : (pss.take k).flatten.length ≤ pss.flatten.length := by
  have e : pss.flatten = (pss.take k).flatten ++ (pss.drop k).flatten := by rw [← List.flatten_append, List.take_append_drop]
  rw [e, List.length_append]; omega
/-- the answer so far -/
structure AnA (w0 wr : World) (AB : Nat) (x : AnsV) (l : List PairV) (a : Option Addr) (c : Nat) : Prop where
  b : Below w0.heap.size w0 wr
  ge : w0.heap.size ≤ AB
  blk : Blk wr AB #[.int .i64 x.code, .string x.key, .int .u64 x.val, .slice a l.length c] 25
  own : OwnV pairT wr [] wr (AB + 1) 78 a c l
theorem AnA.grow {w0 wr : World} {AB : Nat} {x : AnsV} {l : List PairV} {a : Option Addr} {c : Nat} {t : TypeId} {v : Value} {l' : List PairV} {a' : Option Addr} {cap : Nat} {w' : World} (P : AnA w0 wr AB x l a c) (A : AddsV Try.prog pairT wr [] wr (AB + 1) t 78 a c l.length v l' a' cap w') :
    AnA w0 (w'.setCell ⟨AB, 3, none⟩ (.slice a' l'.length cap)) AB x l' a' cap ∧ Blk w' AB #[.int .i64 x.code, .string x.key, .int .u64 x.val, .slice a l.length c] 25 := by
  have hlt : ∀ q ∈ ob a, AB + 1 ≤ q := fun q hq => (P.own.lt q hq).1
  have B1 := A.fr.blk P.blk (fun e => by have := hlt _ e; omega)
  have hb2 : Below w0.heap.size w0 w' := A.fr.below P.b (Nat.le_refl _) (fun b hb => by have := hlt b hb; have := P.ge; omega)
  refine ⟨⟨hb2.setCell (p := ⟨AB, 3, none⟩) P.ge _, P.ge, ?_, ?_⟩, B1⟩
  · simpa using B1.set 3 (.slice a' l'.length cap)
  · refine (A.own.rep (fun _ _ h => flat_pair.any h)).heap fun q hq => ?_
    have hge : AB + 1 ≤ q := (A.own.lt q hq).1
    exact Below.heap_setCell w' ⟨AB, 3, none⟩ _ q (by show q ≠ AB; omega)
def AnswerAt (w : World) (x : AnsV) (l : List PairV) (e : Ending) (w' : World) : Prop :=
  ∃ h : Hd, e = .returned (.agg (ansA h ⟨x.code, x.key, x.val, l⟩)) ∧ HRow pairT w' [] h l ∧ Below w.heap.size w w'
abbrev ans0 : Array Value := #[.int .i64 0, .string ⟨#[]⟩, .int .u64 0, .slice none 0 0]
set_option maxRecDepth 100000 in
set_option maxHeartbeats 3200000 in
theorem answer_any (S : List Nat) (q : PlanH) (p : PlanV) (h : Hd) (pss : List (List PairV)) (w : World) (H : HRow (rowC pairT) w S h pss) (l1 : pss.length ≤ 400) (l2 : pss.flatten.length ≤ 50000) :
    Calls Try.prog 18 #[.agg (planA q p), .slice h.a pss.length h.c] w fun e w' => AnswerAt w p.ans pss.flatten e w' := by
  have hb1 : Below w.heap.size w ((w.alloc (.cells (planA q p) 46)).alloc (.cells ans0 25)) := by (repeat (first | exact Below.refl _ _ | assumption | refine below_alloc2 ?_ (by first | exact Nat.le_refl _ | omega) _ | refine Below.drew ?_ | refine below_drewN ?_ _ | refine below_push2 ?_ ‹_› (by first | exact Nat.le_refl _ | omega) | refine Below.setCell ?_ (by first | (simp; done) | (simp; omega) | omega) _))
  have BP := (Blk.new w (planA q p) 46).alloc (.cells ans0 25)
  have BR := Blk.new (w.alloc (.cells (planA q p) 46)) ans0 25
  rw [World.size_alloc] at BR
  obtain ⟨ha, hc⟩ := h
  obtain ⟨L, hL⟩ : ∃ L, L = pss.flatten := ⟨_, rfl⟩
  rw [← hL]
  replace hL := Lib.hid hL
  go_enter Try.func18, Try.ntmps18
  go_upto_region 1 with (fail)
  generalize (w.alloc (.cells (planA q p) 46)).alloc (.cells ans0 25) = w1 at hb1 BP BR ⊢
  have p1 := BP.at 1 rfl
  have p2 := BP.at 2 rfl
  have p3 := BP.at 3 rfl
  have p4 := BP.at 4 rfl
  have hb2 : Below w1.heap.size w1 (w1.alloc (.cells #[.int .i64 p.ans.code, .string p.ans.key, .int .u64 p.ans.val, .slice none 0 0] 25)) := (Below.refl _ _).alloc (Nat.le_refl _) _
  have BA := Blk.new w1 #[.int .i64 p.ans.code, .string p.ans.key, .int .u64 p.ans.val, .slice none 0 0] 25
  obtain ⟨AB, hAB⟩ : ∃ b, b = w1.heap.size := ⟨_, rfl⟩
  go_upto_region 3 with (fail)
  rw [← hAB] at BA ⊢
  have A0 : AnA w1 (w1.alloc (.cells #[.int .i64 p.ans.code, .string p.ans.key, .int .u64 p.ans.val, .slice none 0 0] 25)) AB p.ans [] none 0 := ⟨hb2, by omega, BA, OwnV.nil _ _ _ _ _⟩
  generalize w1.alloc (.cells #[.int .i64 p.ans.code, .string p.ans.key, .int .u64 p.ans.val, .slice none 0 0] 25) = w3 at A0 ⊢
  clear p1 p2 p3 p4 BA hb2 BP
  replace hAB := Lib.hid hAB
  go_wp2_with fail
  go_loopw [13] (fun i wr => ∃ (k : Nat) (a : Option Addr) (c : Nat), k ≤ pss.length ∧ i = .int .i64 k ∧ AnA w1 wr AB p.ans (pss.take k).flatten a c) (fun i _ => pss.length - (intOf i).toNat)
  case atStart => exact ⟨0, none, 0, Nat.zero_le _, rfl, by simpa using A0⟩
  case round =>
    clear A0
    obtain ⟨k, a, c, hk, rfl, P⟩ := hrel
    have hbW := below_push2 hb1 P.b (Nat.le_refl _)
    by_cases hlt : k < pss.length
    · have hlt' : (k : Int) < (pss.length : Int) := by omega
      obtain ⟨b, off, qk, e, hbl, hcell, hrow⟩ := rows_at (H.keep (Keeps.of_below hbW)) k hlt
      simp only at e
      subst e
      have hfs := Lib.hid (flat_take_succ pss k hlt)
      have hle := flat_take_le pss (k + 1)
      rw [hfs.out, List.length_append] at hle
      generalize (pss.take k).flatten = l at P hfs hle
      generalize pss[k] = ys at hcell hrow hfs hle
      obtain ⟨a', cap, w5, A⟩ := P.own.addRow (C := pairT) tinPair (by decide) hrow (fun _ _ h => flat_pair.any h) (by omega) (by decide) (by have := P.blk.lt; omega)
      obtain ⟨P', B5⟩ := P.grow A
      have hr := Lib.hid A.run
      have c3 := P.blk.at 3 rfl
      have s3 := B5.at 3 rfl
      have g3 := B5.free 3
      have hlf : (l ++ ys).length = (l ++ ys).length := rfl
      generalize hLL : l ++ ys = LL at P' hr hfs
      replace hLL := Lib.hid hLL
      clear A P B5 hrow hlf
      go_wp2_with (at_builtin; refine wpList_append_run hr.out rfl (by rfl) (by rfl) (by rfl) ?_)
      go_roundw
      case rel => exact ⟨k + 1, _, _, by omega, by go_num, by rw [hfs.out]; exact P'⟩
      case measure => simp [intOf]; omega
    · obtain rfl : k = pss.length := by omega
      rw [List.take_length, ← hL.out] at P
      have c0 := P.blk.at 0 rfl
      have c1 := P.blk.at 1 rfl
      have c2 := P.blk.at 2 rfl
      have c3 := P.blk.at 3 rfl
      have BR2 := BR.below P.b
      have hHR : HRow pairT wr [] ⟨a, c⟩ L := P.own.hrow (by decide) (by simp)
      have FR : Fr [w.heap.size + 1] wr (wr.setRow (w.heap.size + 1) (ansA ⟨a, c⟩ ⟨p.ans.code, p.ans.key, p.ans.val, L⟩)) := Fr.row _ _ (by simp)
      have hno : ∀ g ∈ ob a, g ∉ [w.heap.size + 1] := fun g hg e => by
        have := (P.own.lt g hg).1
        have h1 := hAB.out
        have h2 := BR.lt
        simp at e; omega
      have hHR2 : HRow pairT (wr.setRow (w.heap.size + 1) (ansA ⟨a, c⟩ ⟨p.ans.code, p.ans.key, p.ans.val, L⟩)) [] ⟨a, c⟩ L := ((P.own.fr FR hno).rep (fun _ _ h => flat_pair.any h)).hrow (by decide) (by simp)
      go_wp2_with (refine wpList_store_row rfl 25 _ _ rfl (w.heap.size + 1) _ rfl rfl 25 _ BR2.h (by kernel_rfl) (by rfl) (by kernel_rfl) ?_)
      refine bodyPost_ret (results_cell_row rfl _ _ (w.heap.size + 1) 25 (ansA ⟨a, c⟩ ⟨p.ans.code, p.ans.key, p.ans.val, L⟩) (0, 0) _ rfl (Blk.row BR2 _).h Try.underlying25 rfl (by kernel_rfl)) rfl ⟨⟨a, c⟩, rfl, hHR2, below_setRow hbW (by omega) _⟩
end Go.Proofs.Ytnecikholpiefaa.Dp
