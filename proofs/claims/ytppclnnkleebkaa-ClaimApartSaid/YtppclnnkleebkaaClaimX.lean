/-
  claim: the statements' own Run: contract, for every task; the example of chapter 29.
-/
import Derived.Test.YtppclnnkleebkaaClaimR
import Derived.Test.YtppclnnkleebkaaClaimV
import Derived.Test.YtppclnnkleebkaaHazWalk
import Derived.Deep.WholeRow
namespace Go.Proofs.Ytppclnnkleebkaa.MemP
open Go.RowKit RefP CellP
set_option linter.unusedVariables false
set_option linter.unusedSimpArgs false
set_option maxRecDepth 100000 in
set_option maxHeartbeats 3200000 in
theorem clLives_any (w : World) : Calls Try.prog 5 #[] w fun e w' => e = .returned (.bool true) ∧ Below w.heap.size w w' := by
  go_enter Try.func5, Try.ntmps5
  go_wp2_with fail
  refine (mnew_yes 4 1 0 _ (by omega) (by omega) (by omega) (by omega) (by omega) (by omega)).mono ?_
  rintro e w1 ⟨o, oc, g, gb, gr, rfl, hM, hB, ho, hoc, hg, hgb, hgr⟩
  go_wp2_with fail
  refine (clNew_any 2 _ hM).mono ?_
  rintro e w2 ⟨rfl, hC, hb2⟩
  have hMB : MemB w2 w1.heap.size o oc g gb gr 4 1 clL0 _ _ := ⟨hM.below hb2, ⟨hM.head.lt, hM.cells.head.lt, hM.cells.rows.lt, hM.blocks.lt, hM.records.lt⟩⟩
  have hB2 := below_push2 hB hb2 (Nat.le_refl _)
  have hsb := hb2.size
  have hs1 := hB.size
  clear hM hB hb2
  go_wp2_with fail
  refine (clRun_ex (B0 := w.heap.size) _ hMB hC hsb ⟨hs1, ho, hoc, hg, hgb, hgr⟩).mono ?_
  rintro e w3 ⟨⟨ao, co, a, c, bs', rfl, hC3, hM3⟩, hb3⟩
  have hB3 := hB2.trans hb3
  clear hMB hC hB2 hb3
  go_wp2_with fail
  refine (clOk_any _ hM3.m hC3 true (by decide)).mono ?_
  rintro e w4 ⟨rfl, hb4⟩
  have hB4 := below_push2 hB3 hb4 (Nat.le_refl _)
  replace hM3 := hM3.under hb4
  replace hC3 := hC3.under hb4
  clear hB3 hb4
  go_wp2_with fail
  refine (clWords_any _ hM3.m hC3 (by simp)).mono ?_
  rintro e w5 ⟨a5, c5, rfl, hO5, hb5⟩
  have hB5 := below_push2 hB4 hb5 (Nat.le_refl _)
  replace hM3 := hM3.under hb5
  replace hC3 := hC3.under hb5
  clear hB4 hb5
  go_wp2_with fail
  refine (dpack_any 1 1 _ (by omega) (by omega) (by omega) (by omega)).mono ?_
  rintro e w6 ⟨rfl, rfl⟩
  go_wp2_with fail
  refine (dpack_any 2 1 _ (by omega) (by omega) (by omega) (by omega)).mono ?_
  rintro e w6 ⟨rfl, rfl⟩
  have hl : Below w5.heap.size w5 (w5.alloc (.cells #[.int .u64 (packI 1 1), .int .u64 (packI 2 1)] 27)) := (Below.refl _ w5).alloc (Nat.le_refl _) _
  have HX : U64s (w5.alloc (.cells #[.int .u64 (packI 1 1), .int .u64 (packI 2 1)] 27)) (some ⟨w5.heap.size, 0, none⟩) clW2 := by
    have hp := clP
    refine ⟨Holds.of_blk' (Blk.new w5 #[.int .u64 (packI 1 1), .int .u64 (packI 2 1)] 27) _ _ (fun i hi => ?_), (hO5.rng), by simp⟩
    have h2 : i = 0 ∨ i = 1 := by simp at hi; omega
    rcases h2 with e | e <;> subst e <;> simp [u64F, at0] <;> first | exact hp.1.symm | exact hp.2.symm
  have HO := (hO5.below hl).words (by simp)
  have hB6 := below_push2 hB5 hl (Nat.le_refl _)
  replace hM3 := hM3.under hl
  replace hC3 := hC3.under hl
  clear hB5 hl hO5
  go_wp2_with fail
  generalize w5.alloc (.cells #[.int .u64 (packI 1 1), .int .u64 (packI 2 1)] 27) = w7 at HX HO hB6 hM3 hC3 ⊢
  refine (HazP.same_any a5 _ c5 2 clW2 _ HO HX).mono ?_
  rintro e w8 ⟨rfl, hb8⟩
  have hB8 := below_push2 hB6 hb8 (Nat.le_refl _)
  replace hM3 := hM3.under hb8
  replace hC3 := hC3.under hb8
  clear hB6 hb8 HX HO
  go_wp2_with fail
  refine (clPlace_any _ hM3.m hC3).mono ?_
  rintro e w9 ⟨rfl, rfl⟩
  go_wp2_with fail
  go_ret
  exact ⟨rfl, hB8⟩
/-- in a round of Run -/
structure Qr (w0 : World) (base o oc g gb gr A T : Nat) (L : List (Int × Int)) (bs rs : List (List Value)) (t many : Nat) (d0 : Option Addr × Nat) (s0 : QS) (d : Option Addr × Nat) (s : QS) (ao : Option Addr) (co : Nat) (out : List Acc4) (wr : World) : Prop where
  m : MemB wr base o oc g gb gr A T L bs rs
  C : ClQ wr base o t many d s
  row : OwnAcc wr w0.heap.size ao co out
  fr : Fr (g :: gb :: cOwn t d0 s0) w0 wr
  sub : ∀ b ∈ cOwn t d s, b ∈ cOwn t d0 s0 ∨ w0.heap.size ≤ b
  ne : ∀ b, (Value.slice ao out.length co).ownBlock = some b → b ∉ cOwn t d s
  hs : base ≤ w0.heap.size
theorem cOwn_ge {w : World} {base o t many : Nat} {d : Option Addr × Nat} {s : QS} (h : ClQ w base o t many d s) : ∀ b ∈ cOwn t d s, base ≤ b ∧ b < w.heap.size := fun b hb => by
  simp only [cOwn, List.mem_cons] at hb
  rcases hb with e | e
  · subst e; exact ⟨h.ge, h.head.lt⟩
  · exact h.own.lt b (ownS_of e)
theorem Qr.under {w0 : World} {base o oc g gb gr A T : Nat} {L : List (Int × Int)} {bs rs : List (List Value)} {t many : Nat} {d0 : Option Addr × Nat} {s0 : QS} {d : Option Addr × Nat} {s : QS} {ao : Option Addr} {co : Nat} {out : List Acc4} {wr : World} (h : Qr w0 base o oc g gb gr A T L bs rs t many d0 s0 d s ao co out wr) {wx : World} (hb : Below wr.heap.size wr wx) : Qr w0 base o oc g gb gr A T L bs rs t many d0 s0 d s ao co out wx :=
  ⟨h.m.under hb, h.C.under hb, OwnR.below h.row hb, h.fr.trans (Fr.of_below hb), h.sub, h.ne, h.hs⟩
theorem Qr.le {w0 : World} {base o oc g gb gr A T : Nat} {L : List (Int × Int)} {bs rs : List (List Value)} {t many : Nat} {d0 : Option Addr × Nat} {s0 : QS} {d : Option Addr × Nat} {s : QS} {ao : Option Addr} {co : Nat} {out : List Acc4} {wr : World} (h : Qr w0 base o oc g gb gr A T L bs rs t many d0 s0 d s ao co out wr) : base ≤ wr.heap.size := Nat.le_trans h.hs h.fr.size
theorem fr_newq {S : List Nat} {w0 w w' : World} {X : List Nat} (h : Fr S w0 w) (k : Fr X w w') (hX : ∀ b ∈ X, b ∈ S ∨ w0.heap.size ≤ b) : Fr S w0 w' :=
  ⟨k.os.trans h.os, k.tape.trans h.tape, k.output.trans h.output, Nat.le_trans h.size k.size, fun b hb hn => (k.block b (Nat.lt_of_lt_of_le hb h.size) (fun hx => by
    rcases hX b hx with q | q
    · exact hn q
    · omega)).trans (h.block b hb hn)⟩
theorem MemB.offq {w w' : World} {base o oc g gb gr A T : Nat} {L : List (Int × Int)} {bs rs : List (List Value)} (h : MemB w base o oc g gb gr A T L bs rs) {S : List Nat} (F : Fr S w w') (hS : ∀ b ∈ S, base ≤ b) (hb : base ≤ w.heap.size) : MemB w' base o oc g gb gr A T L bs rs :=
  h.below (F.below (Below.refl base w) hb hS) hb
theorem Qr.told {w0 : World} {base o oc g gb gr A T : Nat} {L : List (Int × Int)} {bs rs : List (List Value)} {t many : Nat} {d0 : Option Addr × Nat} {s0 : QS} {d : Option Addr × Nat} {s : QS} {ao : Option Addr} {co : Nat} {out : List Acc4} {wr : World} (h : Qr w0 base o oc g gb gr A T L bs rs t many d0 s0 d s ao co out wr) {wx : World} {d' : Option Addr × Nat} {s' : QS} (X : ClQ wx base o t many d' s') (M : Mq (cOwn t d s) (cOwn t d' s') wr wx) : Qr w0 base o oc g gb gr A T L bs rs t many d0 s0 d' s' ao co out wx := by
  have hsz := h.fr.size
  refine ⟨h.m.offq M.fr (fun b hb => (cOwn_ge h.C b hb).1) h.le, X, OwnR.heap h.row fun q hq => M.fr.block q (OwnR.lt h.row q hq).2 (h.ne q hq), fr_newq h.fr M.fr (fun b hb => ?_), fun b hb => ?_, fun b hb hm => ?_, h.hs⟩
  · rcases h.sub b hb with q | q
    · exact .inl (by simp [q])
    · exact .inr q
  · rcases M.sub b hb with q | q
    · exact h.sub b q
    · exact .inr (by omega)
  · rcases M.sub b hm with q | q
    · exact h.ne b hb q
    · have := (OwnR.lt h.row b hb).2; omega
theorem Qr.did {w0 : World} {base o oc g gb gr A T : Nat} {L : List (Int × Int)} {bs rs : List (List Value)} {t many : Nat} {d0 : Option Addr × Nat} {s0 : QS} {d : Option Addr × Nat} {s : QS} {ao : Option Addr} {co : Nat} {out : List Acc4} {wr : World} (h : Qr w0 base o oc g gb gr A T L bs rs t many d0 s0 d s ao co out wr) {wx : World} {L' : List (Int × Int)} {bs' : List (List Value)} (hM : MemAt wx o oc g gb gr A T L' bs' rs) (F : Fr [g, gb] wr wx) : Qr w0 base o oc g gb gr A T L' bs' rs t many d0 s0 d s ao co out wx := by
  have hl := h.m.lo
  have hhs := h.hs
  have hge := h.C.ge
  exact ⟨⟨hM, hl⟩, h.C.fr F (by simp; omega) (fun q hq => by have := (h.C.own.lt q hq).1; simp; omega), OwnR.fr h.row F (by simp; omega), h.fr.trans (F.more (by simp)), h.sub, h.ne, h.hs⟩
theorem Qr.added {w0 : World} {base o oc g gb gr A T : Nat} {L : List (Int × Int)} {bs rs : List (List Value)} {t many : Nat} {d0 : Option Addr × Nat} {s0 : QS} {d : Option Addr × Nat} {s : QS} {ao : Option Addr} {co : Nat} {out : List Acc4} {wr : World} (h : Qr w0 base o oc g gb gr A T L bs rs t many d0 s0 d s ao co out wr) {wx : World} {x : Acc4} {v : Value} {g' cap : Nat} {w' : World} (hb : Below wr.heap.size wr wx)
    (K : AddedR Try.prog 26 accF (0, 0, 0, 0) wx w0.heap.size 55 48 ao co out v 1 (out ++ [x]) g' cap w') : Qr w0 base o oc g gb gr A T L bs rs t many d0 s0 d s (some ⟨g', 0, none⟩) cap (out ++ [x]) w' := by
  have H := h.under hb
  have hl := h.m.lo
  have hhs := h.hs
  have hlt := fun q e => (OwnR.lt H.row q e).1
  have hF : Fr (ownS (.slice ao out.length co)) wx w' := Fr.of_grown K.grown (fun q e => ownS_mem e)
  have hge : ∀ b ∈ ownS (.slice ao out.length co), w0.heap.size ≤ b := fun b k => hlt b (ownS_of k)
  have hno : ∀ b ∈ cOwn t d s, b ∉ ownS (.slice ao out.length co) := fun b hb k => h.ne b (ownS_of k) hb
  refine ⟨H.m.offq hF (fun b k => by have := hge b k; omega) H.le, H.C.fr hF (hno t (by simp [cOwn])) (fun q hq => hno q (by simp [cOwn, ownS_mem hq])), K.own, fr_newq H.fr hF (fun b k => .inr (hge b k)), h.sub, fun b k hm => ?_, hhs⟩
  simp only [Value.ownBlock, Option.some.injEq] at k
  subst k
  rcases K.at' with q | q
  · exact h.ne _ q hm
  · have := (cOwn_ge H.C _ hm).2; omega
theorem nodup_len_nat : ∀ (nm l : List Nat), l.Nodup → (∀ x ∈ l, x ∈ nm) → l.length ≤ nm.length := by
  intro nm
  induction nm with
  | nil =>
    intro l _ h
    cases l with
    | nil => simp
    | cons x l => exact absurd (h x (by simp)) (by simp)
  | cons y nm ih =>
    intro l hl h
    by_cases hy : y ∈ l
    · have h1 := ih (l.erase y) (hl.erase y) (fun x hx => by
        have h2 := (hl.mem_erase_iff).1 hx
        rcases List.mem_cons.1 (h x h2.2) with e | e
        · exact absurd e h2.1
        · exact e)
      rw [List.length_erase_of_mem hy] at h1
      simp only [List.length_cons]
      omega
    · have h1 := ih l hl (fun x hx => by
        rcases List.mem_cons.1 (h x hx) with e | e
        · subst e; exact absurd hx hy
        · exact e)
      simp only [List.length_cons]
      omega
theorem nat_below {n : Nat} {l : List Nat} (hl : l.Nodup) (h : ∀ x ∈ l, x < n) : l.length ≤ n := by
  have := nodup_len_nat (List.range n) l hl (fun x hx => List.mem_range.2 (h x hx))
  simpa using this
theorem CI.small {n : Nat} {L0 L : List (Int × Int)} {c o : List Nat} (h : CI n L0 L (c ++ o)) : c.length + o.length ≤ n := by
  have := nat_below h.nd (fun p hp => (h.lt p hp).1)
  simpa using this
def QEnd (w0 : World) (base o oc g gb gr A T : Nat) (rs : List (List Value)) (t many : Nat) (d0 : Option Addr × Nat) (s0 : QS) (q : Nat × Bool × QS × List (Int × Int)) (e : Ending) (w' : World) : Prop :=
  ∃ ao co d' bs' out, e = .returned (.tuple #[.slice ao q.1 co, .bool q.2.1]) ∧ out.length = q.1 ∧ Qr w0 base o oc g gb gr A T q.2.2.2 bs' rs t many d0 s0 d' q.2.2.1 ao co out w'
set_option maxRecDepth 100000 in
set_option maxHeartbeats 12800000 in
theorem clRun_any {o oc g gb gr A T : Nat} {L0 L1 : List (Int × Int)} {bs0 rs : List (List Value)} {base t many : Nat} {d0 : Option Addr × Nat} {s0 : QS} {c0 oth : List Nat} (most : Nat) (hmost : most ≤ 50000) (w : World) (h : MemB w base o oc g gb gr A T L1 bs0 rs) (hC : ClQ w base o t many d0 s0) (hbw : base ≤ w.heap.size) (hI : CI A L0 L1 (c0 ++ oth)) (hTI : TI A L0 c0 oth s0) :
    Calls Try.prog 11 #[.pointer (some ⟨o, 0, none⟩), .pointer (some ⟨t, 0, none⟩), .int .i64 (most : Nat)] w (QEnd w base o oc g gb gr A T rs t many d0 s0 (qrun A T many most s0 L1)) := by
  have hA := h.m.a1
  have hT := h.m.t1
  go_enter Try.func11, Try.ntmps11
  go_wp2_with fail
  have R0 : Qr w base o oc g gb gr A T L1 bs0 rs t many d0 s0 d0 s0 none 0 [] w := ⟨h, hC, OwnR.nil _ _ _ _ _ _, Fr.refl _ _, fun b k => .inl k, fun b k => by simp [Value.ownBlock] at k, hbw⟩
  go_loopw [8, 12] (fun u8 i wr => ∃ k s L out, ∃ ao co d bs c, u8 = .slice ao (out : List Acc4).length co ∧ i = .int .i64 (k : Nat) ∧ k ≤ most ∧ (out.length ≤ k ∧ k ≤ out.length) ∧ CI A L0 L (c ++ oth) ∧ TI A L0 c oth s ∧ Hid (qrun A T many most s0 L1 = (k + (qrun A T many (most - k) s L).1, (qrun A T many (most - k) s L).2)) ∧ Qr w base o oc g gb gr A T L bs rs t many d0 s0 d s ao co out wr) (fun _ i _ => most - (intOf i).toNat)
  case atStart => exact ⟨0, s0, L1, [], none, 0, d0, bs0, c0, rfl, rfl, Nat.zero_le _, ⟨Nat.le_refl _, Nat.le_refl _⟩, hI, hTI, Lib.hid (by simp), R0⟩
  case round =>
    clear R0 h hC hI hTI
    obtain ⟨k, s, L, out, ao, co, d, bs, c, rfl, rfl, hk, hlen, hI, hTI, hP, R⟩ := hrel
    by_cases hlt : k < most
    · have hlt' : (k : Int) < (most : Int) := by omega
      obtain ⟨n, hn⟩ : ∃ n, most - k = n + 1 := ⟨most - k - 1, by omega⟩
      have hn2 : most - (k + 1) = n := by omega
      rw [hn] at hP
      have hP2 := hP.out
      by_cases hov : overQ A many s
      · have e : qrun A T many (n + 1) s L = (0, true, s, L) := if_pos hov
        rw [e] at hP2
        replace hP2 := Lib.hid hP2
        replace hov := Lib.hid hov
        clear hn hn2 e
        go_wp2_with fail
        refine (clNext_over wr R.m.m R.C hov.out).mono ?_
        rintro e w2 ⟨rfl, hb2⟩
        have R3 := (R.under hb2).under ((Below.refl _ w2).alloc (Nat.le_refl _) (.cells (accY 0 0 0 0) 48))
        generalize hW : w2.alloc (.cells (accY 0 0 0 0) 48) = w3 at R3
        replace hW := Lib.hid hW
        clear R hb2
        go_wp2_with (refine wpList_store_row rfl 48 _ _ rfl _ _ rfl rfl 48 _ (Blk.new w2 _ _).h (by kernel_rfl) (by rfl) (by kernel_rfl) ?_; rw [World.setRow_alloc_new, hW.out])
        go_ret2
        rw [hP2.out]
        refine ⟨ao, co, d, bs, out, ?_, by simp only; omega, R3⟩
        show Ending.returned (.tuple #[.slice ao out.length co, .bool true]) = .returned (.tuple #[.slice ao (k + 0) co, .bool true])
        rw [show k + 0 = out.length by omega]
      · have e : qrun A T many (n + 1) s L = ((qrun A T many n (tellQ A T s L) (doQ A T s L)).1 + 1, (qrun A T many n (tellQ A T s L) (doQ A T s L)).2) := if_neg hov
        rw [e] at hP2
        obtain ⟨c', hI', hTI', _, _, _, _⟩ := step_q (T := T) (many := many) hA.1 hI hTI hov
        have hsm : s.l.length ≤ 60000 := by
          rw [hTI.l, List.length_map]
          have := hI.small
          omega
        have hw0 := load_rng hI.rng ((A : Int) + s.place)
        have hx : s.ld = false → 0 ≤ s.word ∧ s.word ≤ 18446744073709551615 := fun e => by rw [(hTI.ld e).2.2.1]; exact hw0.1
        replace hP2 := Lib.hid hP2
        clear hP e hn
        cases hld : s.ld
        · have hv : 0 ≤ s.ver ∧ s.ver ≤ 18446744073709551615 := by rw [(hTI.ld hld).2.2.2]; exact hw0.2
          have hg := mayI_gen (hTI.ld hld).2.1 hw0.1.1
          rw [← (hTI.ld hld).2.2.1] at hg
          have hU0 := useI_lo 1 (stateG s.word + 1) hg.1
          have hU1 := useI_hi 1 (stateG s.word + 1)
          have ha : accQ A T s = (3, atI A T 1 s.place, s.ver, useI 1 (stateG s.word + 1)) := by simp [accQ, hld]
          have hd : doQ A T s L = casL L (atI A T 1 s.place) s.ver (useI 1 (stateG s.word + 1)) := by simp [doQ, hld]
          rw [hd] at hI' hP2
          replace hd := Lib.hid hd
          replace hx := Lib.hid hx
          generalize hadr : atI A T 1 s.place = ad at ha hI' hP2
          generalize hwdr : useI 1 (stateG s.word + 1) = wdr at ha hI' hP2 hU0 hU1
          generalize hvrr : s.ver = vr at ha hI' hP2 hv
          replace hadr := Lib.hid hadr
          replace hwdr := Lib.hid hwdr
          replace hvrr := Lib.hid hvrr
          replace hld := Lib.hid hld
          go_wp2_with fail
          refine (clNext_q wr R.m.m R.C hTI.pl hov hx.out ha).mono ?_
          rintro e w2 ⟨rfl, hb2⟩
          have R2 := R.under hb2
          have hoq := fun q e => (OwnR.lt R2.row q e).2
          have R3 := R2.under ((Below.refl _ w2).alloc (Nat.le_refl _) (.cells (accY 3 ad vr wdr) 48))
          have BA := Blk.new w2 (accY 3 ad vr wdr) 48
          generalize hW : w2.alloc (.cells (accY 3 ad vr wdr) 48) = w3 at R3 BA
          replace hW := Lib.hid hW
          clear R R2 hb2
          have hb4 : Below w3.heap.size w3 (w3.alloc (.cells (accY 3 ad vr wdr) 48)) := (Below.refl _ w3).alloc (Nat.le_refl _) _
          have R4 := R3.under hb4
          obtain ⟨gq, cq, w5, K⟩ := addAcc w.heap.size R4.row (3, ad, vr, wdr) (Blk.new w3 (accY 3 ad vr wdr) 48) (by omega) R4.fr.size
          have hrun := Lib.hid K.run
          have R5 := R3.added hb4 K
          have BA5 := (BA.below hb4).grown K.grown (fun e => by have := hoq _ e.symm; omega)
          clear R3 R4 K hb4 hoq
          go_wp2_with (first
            | (refine wpList_store_row rfl 48 _ _ rfl _ _ rfl rfl 48 _ (Blk.new w2 _ _).h (by kernel_rfl) (by rfl) (by kernel_rfl) ?_; rw [World.setRow_alloc_new, hW.out])
            | (at_builtin; refine wpList_append_run hrun.out rfl (by rfl) (by rfl) (by rfl) ?_)
            | (refine wpList_load_row rfl 48 _ rfl w2.heap.size rfl 48 _ (0, 0) _ BA.h Try.underlying48 rfl (by kernel_rfl) ?_)
            | (refine wpList_load_row rfl 48 _ rfl w2.heap.size rfl 48 _ (0, 0) _ BA5.h Try.underlying48 rfl (by kernel_rfl) ?_))
          clear hW BA BA5 hrun
          refine (do_cas ad vr wdr _ _ _ _ _ _ _ _ _ _ _ _ _ _ _ _ _ _ _ _ _ _ _ R5.m.m hv.1 hv.2 hU0 hU1).mono ?_
          rintro e w6 ⟨rfl, hM6, hF6⟩
          have R6 := R5.did hM6 hF6
          clear R5 hM6 hF6
          go_wp2_with fail
          have htell := clTell_write (L := L) (many := many) w6 R6.m.m R6.C hTI.pl hov hld.out (hx.out hld.out) hsm R6.le 0 0
          rw [hadr.out, hvrr.out] at htell
          refine htell.mono ?_
          rintro e w7 ⟨d7, rfl, X7, M7⟩
          have R7 := R6.told X7 M7
          clear R6 X7 M7 htell
          go_wp2_with fail
          go_roundw
          case rel => exact ⟨k + 1, tellQ A T s L, _, out ++ [(3, ad, vr, wdr)], _, _, d7, _, c', by rw [List.length_append, List.length_singleton], by go_num, by omega, by rw [List.length_append, List.length_singleton]; omega, hI', hTI', Lib.hid (by rw [hP2.out, hn2]; simp only [Prod.mk.injEq, and_true]; omega), R7⟩
          case measure => simp [intOf]; omega
        · have ha : accQ A T s = (1, atI A T 1 s.place, 0, 0) := by simp [accQ, hld]
          have hd : doQ A T s L = L := by simp [doQ, hld]
          rw [hd] at hI' hP2
          replace hd := Lib.hid hd
          replace hx := Lib.hid hx
          generalize hadr : atI A T 1 s.place = ad at ha
          replace hadr := Lib.hid hadr
          replace hld := Lib.hid hld
          go_wp2_with fail
          refine (clNext_q wr R.m.m R.C hTI.pl hov hx.out ha).mono ?_
          rintro e w2 ⟨rfl, hb2⟩
          have R2 := R.under hb2
          have hoq := fun q e => (OwnR.lt R2.row q e).2
          have R3 := R2.under ((Below.refl _ w2).alloc (Nat.le_refl _) (.cells (accY 1 ad 0 0) 48))
          have BA := Blk.new w2 (accY 1 ad 0 0) 48
          generalize hW : w2.alloc (.cells (accY 1 ad 0 0) 48) = w3 at R3 BA
          replace hW := Lib.hid hW
          clear R R2 hb2
          have hb4 : Below w3.heap.size w3 (w3.alloc (.cells (accY 1 ad 0 0) 48)) := (Below.refl _ w3).alloc (Nat.le_refl _) _
          have R4 := R3.under hb4
          obtain ⟨gq, cq, w5, K⟩ := addAcc w.heap.size R4.row (1, ad, 0, 0) (Blk.new w3 (accY 1 ad 0 0) 48) (by omega) R4.fr.size
          have hrun := Lib.hid K.run
          have R5 := R3.added hb4 K
          have BA5 := (BA.below hb4).grown K.grown (fun e => by have := hoq _ e.symm; omega)
          clear R3 R4 K hb4 hoq
          go_wp2_with (first
            | (refine wpList_store_row rfl 48 _ _ rfl _ _ rfl rfl 48 _ (Blk.new w2 _ _).h (by kernel_rfl) (by rfl) (by kernel_rfl) ?_; rw [World.setRow_alloc_new, hW.out])
            | (at_builtin; refine wpList_append_run hrun.out rfl (by rfl) (by rfl) (by rfl) ?_)
            | (refine wpList_load_row rfl 48 _ rfl w2.heap.size rfl 48 _ (0, 0) _ BA.h Try.underlying48 rfl (by kernel_rfl) ?_)
            | (refine wpList_load_row rfl 48 _ rfl w2.heap.size rfl 48 _ (0, 0) _ BA5.h Try.underlying48 rfl (by kernel_rfl) ?_))
          clear hW BA BA5 hrun
          refine (do_load ad 0 0 _ _ _ _ _ _ _ _ _ _ _ _ _ _ _ _ _ _ _ _ _ _ _ R5.m.m).mono ?_
          rintro e w6 ⟨rfl, hb6⟩
          have R6 := R5.under hb6
          clear R5 hb6
          go_wp2_with fail
          have htell := clTell_load (many := many) w6 R6.m.m R6.C hTI.pl hov hld.out (inB L.length ad)
          rw [hadr.out] at htell
          refine htell.mono ?_
          rintro e w7 ⟨d7, rfl, X7, M7⟩
          have R7 := R6.told X7 M7
          clear R6 X7 M7 htell
          go_wp2_with fail
          go_roundw
          case rel => exact ⟨k + 1, tellQ A T s L, L, out ++ [(1, ad, 0, 0)], _, _, d7, bs, c', by rw [List.length_append, List.length_singleton], by go_num, by omega, by rw [List.length_append, List.length_singleton]; omega, hI', hTI', Lib.hid (by rw [hP2.out, hn2]; simp only [Prod.mk.injEq, and_true]; omega), R7⟩
          case measure => simp [intOf]; omega
    · obtain rfl : k = most := by omega
      have hP2 := hP.out
      rw [Nat.sub_self] at hP2
      simp only [qrun, Nat.add_zero] at hP2
      replace hP2 := Lib.hid hP2
      go_wp2_with fail
      go_ret2
      rw [hP2.out]
      refine ⟨ao, co, d, bs, out, ?_, by simp only; omega, R⟩
      show Ending.returned (.tuple #[.slice ao out.length co, .bool false]) = .returned (.tuple #[.slice ao k co, .bool false])
      rw [show k = out.length by omega]
end Go.Proofs.Ytppclnnkleebkaa.MemP
