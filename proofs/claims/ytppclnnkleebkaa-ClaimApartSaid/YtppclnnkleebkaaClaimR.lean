/-
  claim: the statements' own Run, in the example; the example of chapter 29 is true.
-/
import Derived.Test.YtppclnnkleebkaaClaimT
import Derived.Test.YtppclnnkleebkaaHazList
import Derived.Deep.WholeRow
namespace Go.Proofs.Ytppclnnkleebkaa.MemP
open Go.RowKit RefP CellP
set_option linter.unusedVariables false
set_option linter.unusedSimpArgs false
set_option maxHeartbeats 800000 in
theorem clOk_any {o oc g gb gr A T : Nat} {L : List (Int × Int)} {bs rs : List (List Value)} {base t : Nat} {a : Option Addr} {c : Nat} {l : List Int} {many : Int} {place seen : Nat} {ld : Bool} {word ver : Int} (w : World) (h : MemAt w o oc g gb gr A T L bs rs) (hC : ClAt w base o t a c l many place seen ld word ver) (b : Bool) (hb : decide (many ≤ (l.length : Int)) = b) : Calls Try.prog 15 #[.pointer (some ⟨t, 0, none⟩)] w fun e w' => e = .returned (.bool b) ∧ Below w.heap.size w w' := by
  have c0 := hC.head.at 0 rfl
  have c1 := hC.head.at 1 rfl
  have c2 := hC.head.at 2 rfl
  go_enter Try.func15, Try.ntmps15
  go_wp2_with fail
  go_quiet (exact Calls.quiet_of_same ((clnone_on _ (h.drewN _) (hC.under (below_drewN (Below.refl _ _) _))).flip))
  go_wp2_with fail
  go_ret
  exact ⟨rfl, below_drewN (Below.refl _ _) _⟩
set_option maxHeartbeats 800000 in
theorem clPlace_any {o oc g gb gr A T : Nat} {L : List (Int × Int)} {bs rs : List (List Value)} {base t : Nat} {a : Option Addr} {c : Nat} {l : List Int} {many : Int} {place seen : Nat} {ld : Bool} {word ver : Int} (w : World) (h : MemAt w o oc g gb gr A T L bs rs) (hC : ClAt w base o t a c l many place seen ld word ver) : Calls Try.prog 19 #[.pointer (some ⟨t, 0, none⟩)] w fun e w' => e = .returned (.int .i64 place) ∧ w = w' := by
  have c3 := hC.head.at 3 rfl
  go_enter Try.func19, Try.ntmps19
  go_wp2_with fail
  refine (clnone_on _ h hC).mono ?_
  rintro e w1 ⟨rfl, rfl⟩
  go_wp2_with fail
  go_ret
  exact ⟨rfl, rfl⟩
set_option maxHeartbeats 800000 in
theorem clWords_any {o oc g gb gr A T : Nat} {L : List (Int × Int)} {bs rs : List (List Value)} {base t : Nat} {a : Option Addr} {c : Nat} {l : List Int} {many : Int} {place seen : Nat} {ld : Bool} {word ver : Int} (w : World) (h : MemAt w o oc g gb gr A T L bs rs) (hC : ClAt w base o t a c l many place seen ld word ver) (hl : l.length ≤ 60000) : Calls Try.prog 13 #[.pointer (some ⟨t, 0, none⟩)] w (WordsAt w l) := by
  have c1 := hC.head.at 1 rfl
  go_enter Try.func13, Try.ntmps13
  go_wp2_with fail
  refine (clnone_on _ h hC).mono ?_
  rintro e w1 ⟨rfl, rfl⟩
  go_wp2_with fail
  refine (HazP.sclone_any a c l _ (hC.own.words (by omega)) hl).mono ?_
  rintro e w1 ⟨a', c', rfl, hO, hb⟩
  go_wp2_with fail
  go_ret
  exact ⟨a', c', rfl, hO, hb⟩
/-! a row of accesses -/
theorem infoAcc : (Try.prog.info? 48).map (fun i => (i.zero, i.size, i.bytes)) = some (some (.agg (accY 0 0 0 0)), 26, 360) := by kernel_rfl
abbrev Acc4 := Int × Int × Int × Int
abbrev accL (x : Acc4) : Array Value := accY x.1 x.2.1 x.2.2.1 x.2.2.2
abbrev accF (x : Acc4) (j : Nat) : Value := (accL x)[j]?.getD (.int .i64 0)
theorem lt26 {j : Nat} (h : j < 26) : j = 0 ∨ j = 1 ∨ j = 2 ∨ j = 3 ∨ j = 4 ∨ j = 5 ∨ j = 6 ∨ j = 7 ∨ j = 8 ∨ j = 9 ∨ j = 10 ∨ j = 11 ∨ j = 12 ∨ j = 13 ∨ j = 14 ∨ j = 15 ∨ j = 16 ∨ j = 17 ∨ j = 18 ∨ j = 19 ∨ j = 20 ∨ j = 21 ∨ j = 22 ∨ j = 23 ∨ j = 24 ∨ j = 25 := by omega
theorem accF_at (x : Acc4) (j : Nat) (h : j < 26) : (accL x)[j]? = some (accF x j) := by
  rcases lt26 h with e | e | e | e | e | e | e | e | e | e | e | e | e | e | e | e | e | e | e | e | e | e | e | e | e | e <;> subst e <;> rfl
theorem accF_one (x : Acc4) (j : Nat) (h : j < 26) : (accF x j).oneCell' = true := by
  rcases lt26 h with e | e | e | e | e | e | e | e | e | e | e | e | e | e | e | e | e | e | e | e | e | e | e | e | e | e <;> subst e <;> rfl
abbrev OwnAcc (w : World) (base : Nat) (a : Option Addr) (c : Nat) (l : List Acc4) : Prop := OwnR 26 accF (0, 0, 0, 0) w base 48 a c l
theorem addAcc {w : World} (base : Nat) {a : Option Addr} {c : Nat} {l : List Acc4} (h : OwnAcc w base a c l) {b : Nat} (x : Acc4) (B : Blk w b (accL x) 48) (hn : l.length + 1 ≤ 60000) (hbase : base ≤ w.heap.size) :
    ∃ g cap w', AddedR Try.prog 26 accF (0, 0, 0, 0) w base 55 48 a c l (.slice (some ⟨b, 0, none⟩) 1 1) 1 (l ++ [x]) g cap w' := by
  obtain ⟨i0, hi, hz0, hz1, hz2⟩ := info_parts' infoAcc
  have hx : RecS 26 accF (0, 0, 0, 0) w (some ⟨b, 0, none⟩) [x] := rec_lit B x (fun j hj => accF_at x j hj)
  exact addRecs base _ _ i0 _ 360 Try.underlying55 hi hz0 hz1 hz2 (by simp [Value.cells]) (by omega) (fun x j hj => accF_one x j hj) h hx (by simp) (by simp [maxLen]; omega) (by simp; omega) hbase
/-- own blocks are other ones -/
def NeB (v u : Value) : Prop := ∀ q q', v.ownBlock = some q → u.ownBlock = some q' → q ≠ q'
theorem NeB.grow {v u : Value} {g n c m : Nat} (h : NeB v u) (hat : v.ownBlock = some g ∨ m ≤ g) (hu : ∀ q, u.ownBlock = some q → q < m) : NeB (.slice (some ⟨g, 0, none⟩) n c) u := by
  intro q q' hq hq' e
  simp only [Value.ownBlock, Option.some.injEq] at hq
  subst hq
  rcases hat with k | k
  · exact h _ _ k hq' e
  · have := hu q' hq'; omega
theorem NeB.symm {v u : Value} (h : NeB v u) : NeB u v := fun q q' a b e => h q' q b a e.symm
theorem ClAt.fr {w w' : World} {S : List Nat} {base o t : Nat} {a : Option Addr} {c : Nat} {l : List Int} {many : Int} {place seen : Nat} {ld : Bool} {word ver : Int} (h : ClAt w base o t a c l many place seen ld word ver) (F : Fr S w w') (ht : t ∉ S) (hq : ∀ q, (Value.slice a l.length c).ownBlock = some q → q ∉ S) : ClAt w' base o t a c l many place seen ld word ver :=
  ⟨F.blk h.head ht, OwnsU.heap h.own fun g hg => F.block g (h.own.lt g hg).2 (hq g hg), h.ge, h.ne⟩
/-- in a round -/
structure Rn (B0 : Nat) (w0 : World) (base o oc g gb gr : Nat) (L : List (Int × Int)) (bs rs : List (List Value)) (t : Nat) (a : Option Addr) (c : Nat) (l : List Int) (place seen : Nat) (ld : Bool) (ao : Option Addr) (co : Nat) (lo : List Acc4) (wr : World) : Prop where
  b : Below B0 w0 wr
  m : MemB wr base o oc g gb gr 4 1 L bs rs
  cl : ClAt wr base o t a c l 2 place seen ld 0 0
  out : OwnAcc wr w0.heap.size ao co lo
  ne : NeB (.slice a l.length c) (.slice ao lo.length co)
  tl : t < w0.heap.size
  hs : base ≤ w0.heap.size
  le : B0 ≤ base ∧ B0 ≤ o ∧ B0 ≤ oc ∧ B0 ≤ g ∧ B0 ≤ gb ∧ B0 ≤ gr
theorem Rn.under {B0 : Nat} {w0 : World} {base o oc g gb gr : Nat} {L : List (Int × Int)} {bs rs : List (List Value)} {t : Nat} {a : Option Addr} {c : Nat} {l : List Int} {place seen : Nat} {ld : Bool} {ao : Option Addr} {co : Nat} {lo : List Acc4} {wr wx : World} (h : Rn B0 w0 base o oc g gb gr L bs rs t a c l place seen ld ao co lo wr) (hb : Below wr.heap.size wr wx) : Rn B0 w0 base o oc g gb gr L bs rs t a c l place seen ld ao co lo wx :=
  ⟨below_push2 h.b hb (by have := h.b.size; have := h.hs; have := h.le.1; omega), h.m.under hb, h.cl.under hb, OwnR.below h.out hb, h.ne, h.tl, h.hs, h.le⟩
theorem Rn.did {B0 : Nat} {w0 : World} {base o oc g gb gr : Nat} {L : List (Int × Int)} {bs rs : List (List Value)} {t : Nat} {a : Option Addr} {c : Nat} {l : List Int} {place seen : Nat} {ld : Bool} {ao : Option Addr} {co : Nat} {lo : List Acc4} {wr wx : World} (h : Rn B0 w0 base o oc g gb gr L bs rs t a c l place seen ld ao co lo wr) {L' : List (Int × Int)} {bs' : List (List Value)} (hM : MemAt wx o oc g gb gr 4 1 L' bs' rs) (hF : Fr [g, gb] wr wx) : Rn B0 w0 base o oc g gb gr L' bs' rs t a c l place seen ld ao co lo wx := by
  have hl := h.m.lo
  have hg := h.cl.ge
  have hh := h.le
  have hsz := h.b.size
  have h5 := h.hs
  exact ⟨hF.below h.b (by omega) (by simp; omega), ⟨hM, hl⟩, h.cl.fr hF (by simp; omega) (fun q hq => by have := (h.cl.own.lt q hq).1; simp; omega), OwnR.fr h.out hF (by simp; omega), h.ne, h.tl, h.hs, h.le⟩
theorem Rn.told {B0 : Nat} {w0 : World} {base o oc g gb gr : Nat} {L : List (Int × Int)} {bs rs : List (List Value)} {t : Nat} {a : Option Addr} {c : Nat} {l : List Int} {place seen : Nat} {ld : Bool} {ao : Option Addr} {co : Nat} {lo : List Acc4} {wr wx : World} (h : Rn B0 w0 base o oc g gb gr L bs rs t a c l place seen ld ao co lo wr) {place' seen' : Nat} {ld' : Bool} (hC : ClAt wx base o t a c l 2 place' seen' ld' 0 0) (hF : Fr [t] wr wx) : Rn B0 w0 base o oc g gb gr L bs rs t a c l place' seen' ld' ao co lo wx := by
  have hl := h.m.lo
  have hg := h.cl.ge
  have hh := h.le
  have htl := h.tl
  have hsz := h.b.size
  have h5 := h.hs
  exact ⟨hF.below h.b (by omega) (by simp; omega), ⟨h.m.m.off hF (by simp; omega), hl⟩, hC, OwnR.fr h.out hF (by simp; omega), h.ne, h.tl, h.hs, h.le⟩
theorem Rn.got {B0 : Nat} {w0 : World} {base o oc g gb gr : Nat} {L : List (Int × Int)} {bs rs : List (List Value)} {t : Nat} {a : Option Addr} {c : Nat} {l : List Int} {place seen : Nat} {ld : Bool} {ao : Option Addr} {co : Nat} {lo : List Acc4} {wr wx : World} (h : Rn B0 w0 base o oc g gb gr L bs rs t a c l place seen ld ao co lo wr) {place' seen' : Nat} {ld' : Bool} {g' c' : Nat} {l' : List Int} (hC : ClAt wx base o t (some ⟨g', 0, none⟩) c' l' 2 place' seen' ld' 0 0) (hat : (Value.slice a l.length c).ownBlock = some g' ∨ wr.heap.size ≤ g') (hF : Fr (t :: ownS (.slice a l.length c)) wr wx) : Rn B0 w0 base o oc g gb gr L bs rs t (some ⟨g', 0, none⟩) c' l' place' seen' ld' ao co lo wx := by
  have hl := h.m.lo
  have hg := h.cl.ge
  have hh := h.le
  have htl := h.tl
  have hsz := h.b.size
  have h5 := h.hs
  have hown : ∀ q, q ∈ ownS (.slice a l.length c) → base ≤ q := fun q hq => (h.cl.own.lt q (ownS_of hq)).1
  have hno : ∀ b, b < base → b ∉ t :: ownS (.slice a l.length c) := fun b hb hm => by
    rcases List.mem_cons.1 hm with e | e
    · omega
    · have := hown b e; omega
  refine ⟨hF.below h.b (by omega) (fun q hq => ?_), ⟨h.m.m.off hF ⟨hno _ hl.1, hno _ hl.2.1, hno _ hl.2.2.1, hno _ hl.2.2.2.1, hno _ hl.2.2.2.2⟩, hl⟩, hC, ?_, ?_, h.tl, h.hs, h.le⟩
  · rcases List.mem_cons.1 hq with e | e
    · omega
    · have := hown q e; omega
  · refine OwnR.heap h.out fun q hq => hF.block q (OwnR.lt h.out q hq).2 (fun hm => ?_)
    have := (OwnR.lt h.out q hq).1
    rcases List.mem_cons.1 hm with e | e
    · omega
    · exact h.ne q q (ownS_of e) hq rfl
  · exact h.ne.grow hat (fun q hq => (OwnR.lt h.out q hq).2)
theorem Rn.added {B0 : Nat} {w0 : World} {base o oc g gb gr : Nat} {L : List (Int × Int)} {bs rs : List (List Value)} {t : Nat} {a : Option Addr} {c : Nat} {l : List Int} {place seen : Nat} {ld : Bool} {ao : Option Addr} {co : Nat} {lo : List Acc4} {wr wx : World} (h : Rn B0 w0 base o oc g gb gr L bs rs t a c l place seen ld ao co lo wr) {x : Acc4} {v : Value} {g' cap : Nat} {w' : World} (hb : Below wr.heap.size wr wx)
    (K : AddedR Try.prog 26 accF (0, 0, 0, 0) wx w0.heap.size 55 48 ao co lo v 1 (lo ++ [x]) g' cap w') : Rn B0 w0 base o oc g gb gr L bs rs t a c l place seen ld (some ⟨g', 0, none⟩) cap (lo ++ [x]) w' := by
  have H := h.under hb
  have hl := h.m.lo
  have hg := h.cl.ge
  have hh := h.le
  have htl := h.tl
  have hsz := H.b.size
  have h5 := h.hs
  have hlt := fun q e => (OwnR.lt H.out q e).1
  have hF : Fr (ownS (.slice ao lo.length co)) wx w' := Fr.of_grown K.grown (fun q e => ownS_mem e)
  have hno : ∀ b, b < w0.heap.size → b ∉ ownS (.slice ao lo.length co) := fun b hb hm => by
    have := hlt b (ownS_of hm); omega
  refine ⟨K.keeps hlt w0 _ (by omega) H.b hsz, ⟨H.m.m.off hF ⟨hno _ (by omega), hno _ (by omega), hno _ (by omega), hno _ (by omega), hno _ (by omega)⟩, hl⟩, H.cl.fr hF (hno _ htl) (fun q hq hm => H.ne q q hq (ownS_of hm) rfl), K.own, ?_, h.tl, h.hs, h.le⟩
  refine (NeB.grow H.ne.symm ?_ (fun q hq => (H.cl.own.lt q hq).2)).symm
  rcases K.at' with q | q
  · exact .inl q
  · exact .inr (by omega)
abbrev clL0 : List (Int × Int) := freshL 4 1 0
abbrev clL1 : List (Int × Int) := casL clL0 (atI 4 1 1 1) 0 (useI 1 (stateG 0 + 1))
abbrev clL2 : List (Int × Int) := casL clL1 (atI 4 1 1 2) 0 (useI 1 (stateG 0 + 1))
abbrev clW1 : List Int := [] ++ [packI (1 : Nat) (stateG 0 + 1)]
abbrev clW2 : List Int := clW1 ++ [packI (2 : Nat) (stateG 0 + 1)]
theorem cl1 : mayI (loadW clL0 (atI 4 1 1 0)) = false := by decide +kernel
theorem cl2 : loadW clL0 (atI 4 1 1 1) = 0 := by decide +kernel
theorem cl3 : loadV clL0 (atI 4 1 1 1) = 0 := by decide +kernel
theorem cl4 : mayI 0 = true := by decide +kernel
theorem cl5 : casB clL0 (atI 4 1 1 1) 0 = true := by decide +kernel
theorem cl6 : loadW clL1 (atI 4 1 1 2) = 0 := by decide +kernel
theorem cl7 : loadV clL1 (atI 4 1 1 2) = 0 := by decide +kernel
theorem cl8 : casB clL1 (atI 4 1 1 2) 0 = true := by decide +kernel
theorem clU : 0 ≤ useI 1 (stateG 0 + 1) ∧ useI 1 (stateG 0 + 1) ≤ 18446744073709551615 := by decide +kernel
theorem clP : packI (1 : Nat) (stateG 0 + 1) = packI 1 1 ∧ packI (2 : Nat) (stateG 0 + 1) = packI 2 1 := by decide +kernel
def ClSt (k : Nat) (L : List (Int × Int)) (l : List Int) (place seen : Nat) (ld : Bool) (n : Nat) : Prop :=
  (k = 0 ∧ L = clL0 ∧ l = [] ∧ place = 0 ∧ seen = 0 ∧ ld = true ∧ n ≤ 0 ∧ 0 ≤ n) ∨
  (k = 1 ∧ L = clL0 ∧ l = [] ∧ place = 1 ∧ seen = 1 ∧ ld = true ∧ n ≤ 1 ∧ 1 ≤ n) ∨
  (k = 2 ∧ L = clL0 ∧ l = [] ∧ place = 1 ∧ seen = 1 ∧ ld = false ∧ n ≤ 2 ∧ 2 ≤ n) ∨
  (k = 3 ∧ L = clL1 ∧ l = clW1 ∧ place = 2 ∧ seen = 0 ∧ ld = true ∧ n ≤ 3 ∧ 3 ≤ n) ∨
  (k = 4 ∧ L = clL1 ∧ l = clW1 ∧ place = 2 ∧ seen = 0 ∧ ld = false ∧ n ≤ 4 ∧ 4 ≤ n) ∨
  (k = 5 ∧ L = clL2 ∧ l = clW2 ∧ place = 3 ∧ seen = 0 ∧ ld = true ∧ n ≤ 5 ∧ 5 ≤ n)
set_option maxRecDepth 100000 in
set_option maxHeartbeats 6400000 in
theorem clRun_ex {B0 base o oc g gb gr t : Nat} {bs rs : List (List Value)} (w : World) (hM : MemB w base o oc g gb gr 4 1 clL0 bs rs) (hC : ClAt w base o t none 0 [] 2 0 0 true 0 0) (hs : base ≤ w.heap.size) (le : B0 ≤ base ∧ B0 ≤ o ∧ B0 ≤ oc ∧ B0 ≤ g ∧ B0 ≤ gb ∧ B0 ≤ gr) :
    Calls Try.prog 11 #[.pointer (some ⟨o, 0, none⟩), .pointer (some ⟨t, 0, none⟩), .int .i64 99] w fun e w' => (∃ ao co a c bs', e = .returned (.tuple #[.slice ao 5 co, .bool true]) ∧ ClAt w' base o t a c clW2 2 3 0 true 0 0 ∧ MemB w' base o oc g gb gr 4 1 clL2 bs' rs) ∧ Below B0 w w' := by
  have hU := clU
  go_enter Try.func11, Try.ntmps11
  go_wp2_with fail
  have R0 : Rn B0 w base o oc g gb gr clL0 bs rs t none 0 [] 0 0 true none 0 [] w :=
    ⟨(Below.refl w.heap.size w).mono (by omega), hM, hC, OwnR.nil _ _ _ _ _ _, fun q q' h => by simp [Value.ownBlock] at h, hC.head.lt, hs, le⟩
  go_loopw [8, 12] (fun u8 i wr => ∃ k L l place seen ld lo, ∃ ao co a c bs, u8 = .slice ao (lo : List Acc4).length co ∧ i = .int .i64 (k : Nat) ∧ ClSt k L l place seen ld lo.length ∧ Rn B0 w base o oc g gb gr L bs rs t a c l place seen ld ao co lo wr) (fun _ i _ => 99 - (intOf i).toNat)
  case atStart => exact ⟨0, clL0, [], 0, 0, true, [], none, 0, none, 0, bs, rfl, rfl, .inl ⟨rfl, rfl, rfl, rfl, rfl, rfl, by simp, by simp⟩, R0⟩
  case round =>
    clear R0 hM hC
    obtain ⟨k, L, l, place, seen, ld, lo, ao, co, a, c, bs, rfl, rfl, hst, R⟩ := hrel
    rcases hst with ⟨rfl, rfl, rfl, rfl, rfl, rfl, hn⟩ | ⟨rfl, rfl, rfl, rfl, rfl, rfl, hn⟩ | ⟨rfl, rfl, rfl, rfl, rfl, rfl, hn⟩ | ⟨rfl, rfl, rfl, rfl, rfl, rfl, hn⟩ | ⟨rfl, rfl, rfl, rfl, rfl, rfl, hn⟩ | ⟨rfl, rfl, rfl, rfl, rfl, rfl, hn⟩
    · go_wp2_with fail
      refine (show Calls _ _ _ _ (fun e w' => e = .returned (.tuple #[.agg (accY 1 (atI 4 1 1 0) 0 0), .bool true]) ∧ Below _ _ w') from clNext_load _ R.m.m R.cl rfl (by simp) (by decide) (by decide)).mono ?_
      rintro e w2 ⟨rfl, hb2⟩
      have hoq := fun q e => Nat.lt_of_lt_of_le (OwnR.lt R.out q e).2 hb2.size
      have R3 := (R.under hb2).under ((Below.refl _ w2).alloc (Nat.le_refl _) (.cells (accY 1 (atI 4 1 1 0) 0 0) 48))
      have BA := Blk.new w2 (accY 1 (atI 4 1 1 0) 0 0) 48
      generalize hW : w2.alloc (.cells (accY 1 (atI 4 1 1 0) 0 0) 48) = w3 at R3 BA
      replace hW := Lib.hid hW
      clear R hb2
      have hb4 : Below w3.heap.size w3 (w3.alloc (.cells (accY 1 (atI 4 1 1 0) 0 0) 48)) := (Below.refl _ w3).alloc (Nat.le_refl _) _
      have R4 := R3.under hb4
      obtain ⟨gq, cq, w5, K⟩ := addAcc w.heap.size R4.out (1, atI 4 1 1 0, 0, 0) (Blk.new w3 (accY 1 (atI 4 1 1 0) 0 0) 48) (by omega) R4.b.size
      have hrun := Lib.hid K.run
      have R5 := R3.added hb4 K
      have BA5 := (BA.below hb4).grown K.grown (fun e => by have := hoq _ e.symm; omega)
      clear R3 R4 K hb4 hoq
      go_wp2_with (first
        | (refine wpList_store_row rfl 48 _ _ rfl _ _ rfl rfl 48 _ (Blk.new w2 _ _).h (by kernel_rfl) (by rfl) (by kernel_rfl) ?_; rw [World.setRow_alloc_new, hW.out])
        | (at_builtin; refine wpList_append_run hrun.out rfl (by rfl) (by rfl) (by rfl) ?_)
        | (refine wpList_load_row rfl 48 _ rfl w2.heap.size rfl 48 _ (0, 0) _ BA.h Try.underlying48 rfl (by kernel_rfl) ?_)
        | (refine wpList_load_row rfl 48 _ rfl w2.heap.size rfl 48 _ (0, 0) _ BA5.h Try.underlying48 rfl (by kernel_rfl) ?_))
      clear hW BA BA5 hrun
      have hr := load_rng R5.m.m.cells.rng (atI 4 1 1 0)
      refine (do_load (atI 4 1 1 0) 0 0 _ _ _ _ _ _ _ _ _ _ _ _ _ _ _ _ _ _ _ _ _ _ _ R5.m.m).mono ?_
      skip
      rintro e w6 ⟨rfl, hb6⟩
      have R6 := R5.under hb6
      clear R5 hb6
      go_wp2_with fail
      refine (clTell_used _ R6.m.m R6.cl rfl (by simp) (by decide) (by decide) _ _ _ hr.1.1 hr.1.2 cl1).mono ?_
      rintro e w7 ⟨rfl, hC7, hF7⟩
      have R7 := R6.told hC7 hF7
      go_wp2_with fail
      go_roundw
      case rel => exact ⟨1, _, _, _, _, _, _, _, _, _, _, _, by simp, rfl, .inr (.inl ⟨rfl, rfl, rfl, rfl, rfl, rfl, by rw [List.length_append, List.length_singleton]; omega, by rw [List.length_append, List.length_singleton]; omega⟩), R7⟩
      case measure => simp [intOf]
    · go_wp2_with fail
      refine (show Calls _ _ _ _ (fun e w' => e = .returned (.tuple #[.agg (accY 1 (atI 4 1 1 1) 0 0), .bool true]) ∧ Below _ _ w') from clNext_load _ R.m.m R.cl rfl (by simp) (by decide) (by decide)).mono ?_
      rintro e w2 ⟨rfl, hb2⟩
      have hoq := fun q e => Nat.lt_of_lt_of_le (OwnR.lt R.out q e).2 hb2.size
      have R3 := (R.under hb2).under ((Below.refl _ w2).alloc (Nat.le_refl _) (.cells (accY 1 (atI 4 1 1 1) 0 0) 48))
      have BA := Blk.new w2 (accY 1 (atI 4 1 1 1) 0 0) 48
      generalize hW : w2.alloc (.cells (accY 1 (atI 4 1 1 1) 0 0) 48) = w3 at R3 BA
      replace hW := Lib.hid hW
      clear R hb2
      have hb4 : Below w3.heap.size w3 (w3.alloc (.cells (accY 1 (atI 4 1 1 1) 0 0) 48)) := (Below.refl _ w3).alloc (Nat.le_refl _) _
      have R4 := R3.under hb4
      obtain ⟨gq, cq, w5, K⟩ := addAcc w.heap.size R4.out (1, atI 4 1 1 1, 0, 0) (Blk.new w3 (accY 1 (atI 4 1 1 1) 0 0) 48) (by omega) R4.b.size
      have hrun := Lib.hid K.run
      have R5 := R3.added hb4 K
      have BA5 := (BA.below hb4).grown K.grown (fun e => by have := hoq _ e.symm; omega)
      clear R3 R4 K hb4 hoq
      go_wp2_with (first
        | (refine wpList_store_row rfl 48 _ _ rfl _ _ rfl rfl 48 _ (Blk.new w2 _ _).h (by kernel_rfl) (by rfl) (by kernel_rfl) ?_; rw [World.setRow_alloc_new, hW.out])
        | (at_builtin; refine wpList_append_run hrun.out rfl (by rfl) (by rfl) (by rfl) ?_)
        | (refine wpList_load_row rfl 48 _ rfl w2.heap.size rfl 48 _ (0, 0) _ BA.h Try.underlying48 rfl (by kernel_rfl) ?_)
        | (refine wpList_load_row rfl 48 _ rfl w2.heap.size rfl 48 _ (0, 0) _ BA5.h Try.underlying48 rfl (by kernel_rfl) ?_))
      clear hW BA BA5 hrun
      have hr := load_rng R5.m.m.cells.rng (atI 4 1 1 1)
      refine (do_load (atI 4 1 1 1) 0 0 _ _ _ _ _ _ _ _ _ _ _ _ _ _ _ _ _ _ _ _ _ _ _ R5.m.m).mono ?_
      rw [cl2, cl3]
      rintro e w6 ⟨rfl, hb6⟩
      have R6 := R5.under hb6
      clear R5 hb6
      go_wp2_with fail
      refine (clTell_free _ R6.m.m R6.cl rfl (by simp) (by decide) (by decide) _ _ _ (by omega) (by omega) cl4).mono ?_
      rintro e w7 ⟨rfl, hC7, hF7⟩
      have R7 := R6.told hC7 hF7
      go_wp2_with fail
      go_roundw
      case rel => exact ⟨2, _, _, _, _, _, _, _, _, _, _, _, by simp, rfl, .inr (.inr (.inl ⟨rfl, rfl, rfl, rfl, rfl, rfl, by rw [List.length_append, List.length_singleton]; omega, by rw [List.length_append, List.length_singleton]; omega⟩)), R7⟩
      case measure => simp [intOf]
    · go_wp2_with fail
      refine (show Calls _ _ _ _ (fun e w' => e = .returned (.tuple #[.agg (accY 3 (atI 4 1 1 1) 0 (useI 1 (stateG 0 + 1))), .bool true]) ∧ Below _ _ w') from clNext_cas _ R.m.m R.cl rfl (by simp) (by decide) (by decide) (by decide) (by decide)).mono ?_
      rintro e w2 ⟨rfl, hb2⟩
      have hoq := fun q e => Nat.lt_of_lt_of_le (OwnR.lt R.out q e).2 hb2.size
      have R3 := (R.under hb2).under ((Below.refl _ w2).alloc (Nat.le_refl _) (.cells (accY 3 (atI 4 1 1 1) 0 (useI 1 (stateG 0 + 1))) 48))
      have BA := Blk.new w2 (accY 3 (atI 4 1 1 1) 0 (useI 1 (stateG 0 + 1))) 48
      generalize hW : w2.alloc (.cells (accY 3 (atI 4 1 1 1) 0 (useI 1 (stateG 0 + 1))) 48) = w3 at R3 BA
      replace hW := Lib.hid hW
      clear R hb2
      have hb4 : Below w3.heap.size w3 (w3.alloc (.cells (accY 3 (atI 4 1 1 1) 0 (useI 1 (stateG 0 + 1))) 48)) := (Below.refl _ w3).alloc (Nat.le_refl _) _
      have R4 := R3.under hb4
      obtain ⟨gq, cq, w5, K⟩ := addAcc w.heap.size R4.out (3, atI 4 1 1 1, 0, useI 1 (stateG 0 + 1)) (Blk.new w3 (accY 3 (atI 4 1 1 1) 0 (useI 1 (stateG 0 + 1))) 48) (by omega) R4.b.size
      have hrun := Lib.hid K.run
      have R5 := R3.added hb4 K
      have BA5 := (BA.below hb4).grown K.grown (fun e => by have := hoq _ e.symm; omega)
      clear R3 R4 K hb4 hoq
      go_wp2_with (first
        | (refine wpList_store_row rfl 48 _ _ rfl _ _ rfl rfl 48 _ (Blk.new w2 _ _).h (by kernel_rfl) (by rfl) (by kernel_rfl) ?_; rw [World.setRow_alloc_new, hW.out])
        | (at_builtin; refine wpList_append_run hrun.out rfl (by rfl) (by rfl) (by rfl) ?_)
        | (refine wpList_load_row rfl 48 _ rfl w2.heap.size rfl 48 _ (0, 0) _ BA.h Try.underlying48 rfl (by kernel_rfl) ?_)
        | (refine wpList_load_row rfl 48 _ rfl w2.heap.size rfl 48 _ (0, 0) _ BA5.h Try.underlying48 rfl (by kernel_rfl) ?_))
      clear hW BA BA5 hrun
      refine (do_cas (atI 4 1 1 1) 0 (useI 1 (stateG 0 + 1)) _ _ _ _ _ _ _ _ _ _ _ _ _ _ _ _ _ _ _ _ _ _ _ R5.m.m (by omega) (by omega) hU.1 hU.2).mono ?_
      rw [cl5]
      rintro e w6 ⟨rfl, hM6, hF6⟩
      have R6 := R5.did hM6 hF6
      clear R5 hM6 hF6
      go_wp2_with fail
      refine (clTell_cas _ R6.m.m R6.cl rfl (by simp) (by decide) (by decide) (by simp) (by have := R6.hs; have := R6.b.size; omega) (by decide) (by decide) _ _).mono ?_
      rintro e w7 ⟨⟨g7, c7, rfl, hC7, hat7⟩, hF7⟩
      have R7 := R6.got hC7 hat7 hF7
      go_wp2_with fail
      go_roundw
      case rel => exact ⟨3, _, _, _, _, _, _, _, _, _, _, _, by simp, rfl, .inr (.inr (.inr (.inl ⟨rfl, rfl, rfl, rfl, rfl, rfl, by rw [List.length_append, List.length_singleton]; omega, by rw [List.length_append, List.length_singleton]; omega⟩))), R7⟩
      case measure => simp [intOf]
    · go_wp2_with fail
      refine (show Calls _ _ _ _ (fun e w' => e = .returned (.tuple #[.agg (accY 1 (atI 4 1 1 2) 0 0), .bool true]) ∧ Below _ _ w') from clNext_load _ R.m.m R.cl rfl (by simp) (by decide) (by decide)).mono ?_
      rintro e w2 ⟨rfl, hb2⟩
      have hoq := fun q e => Nat.lt_of_lt_of_le (OwnR.lt R.out q e).2 hb2.size
      have R3 := (R.under hb2).under ((Below.refl _ w2).alloc (Nat.le_refl _) (.cells (accY 1 (atI 4 1 1 2) 0 0) 48))
      have BA := Blk.new w2 (accY 1 (atI 4 1 1 2) 0 0) 48
      generalize hW : w2.alloc (.cells (accY 1 (atI 4 1 1 2) 0 0) 48) = w3 at R3 BA
      replace hW := Lib.hid hW
      clear R hb2
      have hb4 : Below w3.heap.size w3 (w3.alloc (.cells (accY 1 (atI 4 1 1 2) 0 0) 48)) := (Below.refl _ w3).alloc (Nat.le_refl _) _
      have R4 := R3.under hb4
      obtain ⟨gq, cq, w5, K⟩ := addAcc w.heap.size R4.out (1, atI 4 1 1 2, 0, 0) (Blk.new w3 (accY 1 (atI 4 1 1 2) 0 0) 48) (by omega) R4.b.size
      have hrun := Lib.hid K.run
      have R5 := R3.added hb4 K
      have BA5 := (BA.below hb4).grown K.grown (fun e => by have := hoq _ e.symm; omega)
      clear R3 R4 K hb4 hoq
      go_wp2_with (first
        | (refine wpList_store_row rfl 48 _ _ rfl _ _ rfl rfl 48 _ (Blk.new w2 _ _).h (by kernel_rfl) (by rfl) (by kernel_rfl) ?_; rw [World.setRow_alloc_new, hW.out])
        | (at_builtin; refine wpList_append_run hrun.out rfl (by rfl) (by rfl) (by rfl) ?_)
        | (refine wpList_load_row rfl 48 _ rfl w2.heap.size rfl 48 _ (0, 0) _ BA.h Try.underlying48 rfl (by kernel_rfl) ?_)
        | (refine wpList_load_row rfl 48 _ rfl w2.heap.size rfl 48 _ (0, 0) _ BA5.h Try.underlying48 rfl (by kernel_rfl) ?_))
      clear hW BA BA5 hrun
      have hr := load_rng R5.m.m.cells.rng (atI 4 1 1 2)
      refine (do_load (atI 4 1 1 2) 0 0 _ _ _ _ _ _ _ _ _ _ _ _ _ _ _ _ _ _ _ _ _ _ _ R5.m.m).mono ?_
      rw [cl6, cl7]
      rintro e w6 ⟨rfl, hb6⟩
      have R6 := R5.under hb6
      clear R5 hb6
      go_wp2_with fail
      refine (clTell_free _ R6.m.m R6.cl rfl (by simp) (by decide) (by decide) _ _ _ (by omega) (by omega) cl4).mono ?_
      rintro e w7 ⟨rfl, hC7, hF7⟩
      have R7 := R6.told hC7 hF7
      go_wp2_with fail
      go_roundw
      case rel => exact ⟨4, _, _, _, _, _, _, _, _, _, _, _, by simp, rfl, .inr (.inr (.inr (.inr (.inl ⟨rfl, rfl, rfl, rfl, rfl, rfl, by rw [List.length_append, List.length_singleton]; omega, by rw [List.length_append, List.length_singleton]; omega⟩)))), R7⟩
      case measure => simp [intOf]
    · go_wp2_with fail
      refine (show Calls _ _ _ _ (fun e w' => e = .returned (.tuple #[.agg (accY 3 (atI 4 1 1 2) 0 (useI 1 (stateG 0 + 1))), .bool true]) ∧ Below _ _ w') from clNext_cas _ R.m.m R.cl rfl (by simp) (by decide) (by decide) (by decide) (by decide)).mono ?_
      rintro e w2 ⟨rfl, hb2⟩
      have hoq := fun q e => Nat.lt_of_lt_of_le (OwnR.lt R.out q e).2 hb2.size
      have R3 := (R.under hb2).under ((Below.refl _ w2).alloc (Nat.le_refl _) (.cells (accY 3 (atI 4 1 1 2) 0 (useI 1 (stateG 0 + 1))) 48))
      have BA := Blk.new w2 (accY 3 (atI 4 1 1 2) 0 (useI 1 (stateG 0 + 1))) 48
      generalize hW : w2.alloc (.cells (accY 3 (atI 4 1 1 2) 0 (useI 1 (stateG 0 + 1))) 48) = w3 at R3 BA
      replace hW := Lib.hid hW
      clear R hb2
      have hb4 : Below w3.heap.size w3 (w3.alloc (.cells (accY 3 (atI 4 1 1 2) 0 (useI 1 (stateG 0 + 1))) 48)) := (Below.refl _ w3).alloc (Nat.le_refl _) _
      have R4 := R3.under hb4
      obtain ⟨gq, cq, w5, K⟩ := addAcc w.heap.size R4.out (3, atI 4 1 1 2, 0, useI 1 (stateG 0 + 1)) (Blk.new w3 (accY 3 (atI 4 1 1 2) 0 (useI 1 (stateG 0 + 1))) 48) (by omega) R4.b.size
      have hrun := Lib.hid K.run
      have R5 := R3.added hb4 K
      have BA5 := (BA.below hb4).grown K.grown (fun e => by have := hoq _ e.symm; omega)
      clear R3 R4 K hb4 hoq
      go_wp2_with (first
        | (refine wpList_store_row rfl 48 _ _ rfl _ _ rfl rfl 48 _ (Blk.new w2 _ _).h (by kernel_rfl) (by rfl) (by kernel_rfl) ?_; rw [World.setRow_alloc_new, hW.out])
        | (at_builtin; refine wpList_append_run hrun.out rfl (by rfl) (by rfl) (by rfl) ?_)
        | (refine wpList_load_row rfl 48 _ rfl w2.heap.size rfl 48 _ (0, 0) _ BA.h Try.underlying48 rfl (by kernel_rfl) ?_)
        | (refine wpList_load_row rfl 48 _ rfl w2.heap.size rfl 48 _ (0, 0) _ BA5.h Try.underlying48 rfl (by kernel_rfl) ?_))
      clear hW BA BA5 hrun
      refine (do_cas (atI 4 1 1 2) 0 (useI 1 (stateG 0 + 1)) _ _ _ _ _ _ _ _ _ _ _ _ _ _ _ _ _ _ _ _ _ _ _ R5.m.m (by omega) (by omega) hU.1 hU.2).mono ?_
      rw [cl8]
      rintro e w6 ⟨rfl, hM6, hF6⟩
      have R6 := R5.did hM6 hF6
      clear R5 hM6 hF6
      go_wp2_with fail
      refine (clTell_cas _ R6.m.m R6.cl rfl (by simp) (by decide) (by decide) (by simp) (by have := R6.hs; have := R6.b.size; omega) (by decide) (by decide) _ _).mono ?_
      rintro e w7 ⟨⟨g7, c7, rfl, hC7, hat7⟩, hF7⟩
      have R7 := R6.got hC7 hat7 hF7
      go_wp2_with fail
      go_roundw
      case rel => exact ⟨5, _, _, _, _, _, _, _, _, _, _, _, by simp, rfl, .inr (.inr (.inr (.inr (.inr ⟨rfl, rfl, rfl, rfl, rfl, rfl, by rw [List.length_append, List.length_singleton]; omega, by rw [List.length_append, List.length_singleton]; omega⟩)))), R7⟩
      case measure => simp [intOf]
    · have h5 : lo.length = 5 := by omega
      go_wp2_with fail
      refine (clNext_full _ R.m.m R.cl (by simp)).mono ?_
      rintro e w2 ⟨rfl, hb2⟩
      have R3 := (R.under hb2).under ((Below.refl _ w2).alloc (Nat.le_refl _) (.cells (accY 0 0 0 0) 48))
      generalize hW : w2.alloc (.cells (accY 0 0 0 0) 48) = w3 at R3
      replace hW := Lib.hid hW
      clear R hb2
      go_wp2_with (refine wpList_store_row rfl 48 _ _ rfl _ _ rfl rfl 48 _ (Blk.new w2 _ _).h (by kernel_rfl) (by rfl) (by kernel_rfl) ?_; rw [World.setRow_alloc_new, hW.out])
      go_ret2
      exact ⟨⟨_, _, _, _, _, rfl, R3.cl, R3.m⟩, R3.b⟩
end Go.Proofs.Ytppclnnkleebkaa.MemP
