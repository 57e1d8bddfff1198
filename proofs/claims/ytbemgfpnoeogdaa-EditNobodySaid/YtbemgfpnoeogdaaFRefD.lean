/-
  The document's views: Spare: contracts.
-/
import Derived.Test.YtbemgfpnoeogdaaFRefC
import Derived.Deep.RegionLaw
namespace Go.Proofs.Ytbemgfpnoeogdaa.FoP
open Go.RowKit RefP Go.Maps Dp
set_option linter.unusedVariables false
set_option linter.unusedSimpArgs false
theorem infoSpare : (Try.prog.info? 60).map (fun i => (i.zero, i.size, i.bytes)) = some (some (.agg sz), 2, 16) := by kernel_rfl
theorem tinSpare : TIn Try.prog 34 60 spC.k 16 := tin_mk Try.underlying34 infoSpare (by simp [Value.cells]; rfl)
theorem sp_any {w w' : World} {S S' : List Nat} {cs : List Value} {x : Sp} (h : spC.rep w S cs x) : spC.rep w' S' cs x := by
  obtain ⟨rfl, h0, h1⟩ := spC_of h
  exact spC_mk h0 h1
abbrev OwnS (w : World) (base : Nat) (a : Option Addr) (c : Nat) (S : List Sp) : Prop := OwnV spC w [] w base 60 a c S
theorem OwnS.below {w w' : World} {base : Nat} {a : Option Addr} {c : Nat} {S : List Sp} (h : OwnS w base a c S) (hb : Below w.heap.size w w') : OwnS w' base a c S := (OwnV.below h hb).rep (fun _ _ => sp_any)
theorem OwnS.fr {T : List Nat} {w w' : World} {base : Nat} {a : Option Addr} {c : Nat} {S : List Sp} (h : OwnS w base a c S) (F : Fr T w w') (hT : ∀ g ∈ ob a, g ∉ T) : OwnS w' base a c S := (OwnV.fr h F hT).rep (fun _ _ => sp_any)
theorem OwnS.empty (w : World) (base : Nat) (hb : base ≤ w.heap.size) : OwnS (w.alloc (.cells #[] 60)) base (some ⟨w.heap.size, 0, none⟩) 0 [] := ⟨[], rfl, OwnR.empty _ _ _ _ _ _ hb, by simp⟩
theorem addFirstV (w W : World) (hW : Below w.heap.size w W) (g0 : Nat) (hO : OwnS W w.heap.size (some ⟨g0, 0, none⟩) 0 []) {q : Hd} {xs : List Sp} (hu : HRow spC W [] q xs) (hn : xs.length ≤ 100) :
    ∃ a' cap w', Hid (∀ ty, (Builtin.append_ #[34, 34] ty #[.slice (some ⟨g0, 0, none⟩) 0 0, .slice q.a xs.length q.c]).run Try.prog W = .ok (.slice a' xs.length cap) w') ∧
      OwnS w' w.heap.size a' cap xs ∧ Below w.heap.size w w' ∧ Fr [g0] W w' := by
  obtain ⟨a', cap, w', A⟩ := OwnV.addRow tinSpare (by decide) hO hu (fun _ _ => sp_any) (by simp; omega) (by decide) hW.size
  have hr := A.run
  simp only [List.length_nil, List.nil_append] at hr
  have ho := A.own.rep (wr' := w') (S' := []) (fun _ _ => sp_any)
  simp only [List.nil_append] at ho
  exact ⟨a', cap, w', Lib.hid hr, ho, A.fr.below hW (Nat.le_refl _) (fun b hb => (OwnV.lt hO b hb).1), A.fr⟩
theorem addSecondV (w W : World) (hW : Below w.heap.size w W) (a : Option Addr) (c bx : Nat) {xs : List Sp} {n v : Int} (hO : OwnS W w.heap.size a c xs) (hB : Blk W bx #[.int .i64 n, .int .u64 v] 60) (h0 : I64 n) (h1 : U64 v) (hn : xs.length ≤ 100) :
    ∃ g cap w', Hid (∀ ty, (Builtin.append_ #[34, 34] ty #[.slice a xs.length c, .slice (some ⟨bx, 0, none⟩) 1 1]).run Try.prog W = .ok (.slice (some ⟨g, 0, none⟩) (xs.length + 1) cap) w') ∧
      OwnS w' w.heap.size (some ⟨g, 0, none⟩) cap (xs ++ [(n, v)]) ∧ Below w.heap.size w w' := by
  obtain ⟨g, cap, w', A⟩ := OwnV.addLit tinSpare (by decide) hO hB (x := (n, v)) (show spC.rep _ _ (spL (n, v)) (n, v) from spC_mk h0 h1) (by omega) (by decide) hW.size
  exact ⟨g, cap, w', Lib.hid A.run, A.own.rep (fun _ _ => sp_any), A.fr.below hW (Nat.le_refl _) (fun b hb => (OwnV.lt hO b hb).1)⟩
def spHas (S : List Sp) (n : Int) : Bool := S.any (fun p => p.1 == n)
theorem spHas_yes {S : List Sp} {n : Int} {k : Nat} (h : k < S.length) (e : S[k].1 = n) : spHas S n = true := by
  unfold spHas
  rw [List.any_eq_true]
  exact ⟨S[k], List.getElem_mem h, by simpa using e⟩
theorem spHas_no {S : List Sp} {n : Int} (h : ∀ j (hj : j < S.length), S[j].1 ≠ n) : spHas S n = false := by
  unfold spHas
  rw [List.any_eq_false]
  intro p hp
  obtain ⟨j, hj, rfl⟩ := List.getElem_of_mem hp
  simpa using h j hj
/-- what the document's Spare answers -/
def SpareAt (w : World) (kh sh : Hd) (L : List Kn) (S : List Sp) (k0 n0 n v : Int) (e : Ending) (w' : World) : Prop :=
  if cellB n && !spHas S n then ∃ a c, e = .returned (.tuple #[.agg (rvA kh ⟨a, c⟩ L.length (S ++ [(n, v)]).length k0 n0), .bool true]) ∧ Below w.heap.size w w' ∧ OwnS w' w.heap.size a c (S ++ [(n, v)])
  else e = .returned (.tuple #[.agg (rvA kh sh L.length S.length k0 n0), .bool false]) ∧ Below w.heap.size w w'
set_option maxRecDepth 100000 in
set_option maxHeartbeats 3200000 in
theorem rspare_any {w : World} {kh sh : Hd} {L : List Kn} {S : List Sp} (H : RV w kh sh L S) (k0 n0 n v : Int) (h0 : I64 n) (h1 : U64 v) : Calls Try.prog 27 #[.agg (rvA kh sh L.length S.length k0 n0), .agg #[.int .i64 n, .int .u64 v]] w fun e w' => SpareAt w kh sh L S k0 n0 n v e w' := by
  have hb : Below w.heap.size w (((w.alloc (.cells (rvA kh sh L.length S.length k0 n0) 58)).alloc (.cells #[.int .i64 n, .int .u64 v] 60)).alloc (.cells rz 58)) := by (repeat (first | exact Below.refl _ _ | assumption | refine below_alloc2 ?_ (by first | exact Nat.le_refl _ | omega) _ | refine Below.drew ?_ | refine below_drewN ?_ _ | refine below_push2 ?_ ‹_› (by first | exact Nat.le_refl _ | omega) | refine Below.setCell ?_ (by first | (simp; done) | (simp; omega) | omega) _))
  have BV := ((Blk.new w (rvA kh sh L.length S.length k0 n0) 58).alloc (.cells #[.int .i64 n, .int .u64 v] 60)).alloc (.cells rz 58)
  have BK := (Blk.new (w.alloc (.cells (rvA kh sh L.length S.length k0 n0) 58)) #[.int .i64 n, .int .u64 v] 60).alloc (.cells rz 58)
  have BR := Blk.new ((w.alloc (.cells (rvA kh sh L.length S.length k0 n0) 58)).alloc (.cells #[.int .i64 n, .int .u64 v] 60)) rz 58
  simp only [World.size_alloc] at BK BR
  go_enter Try.func27, Try.ntmps27
  go_upto_region 1 with (fail)
  generalize ((w.alloc (.cells (rvA kh sh L.length S.length k0 n0) 58)).alloc (.cells #[.int .i64 n, .int .u64 v] 60)).alloc (.cells rz 58) = w1 at hb BV BK BR ⊢
  have hz1 : w.heap.size + 2 < w1.heap.size := BR.lt
  have c0 := BK.at 0 rfl
  have H1 := H.below hb
  go_wp2_with fail
  refine (rcell_any _ n).mono ?_
  rintro e wx ⟨rfl, rfl⟩
  cases hc : cellB n
  · have hN : Hid (∀ e w', (e = .returned (.tuple #[.agg (rvA kh sh L.length S.length k0 n0), .bool false]) ∧ Below w.heap.size w w') → SpareAt w kh sh L S k0 n0 n v e w') := Lib.hid (fun e w' h => by unfold SpareAt; rw [hc]; exact h)
    clear hc
    go_wp2_with (first
      | (refine wpList_load_row rfl 58 _ rfl w.heap.size rfl 58 _ (0, 0) _ (BV).h Try.underlying58 rfl (by kernel_rfl) ?_)
      | (refine wpList_store_row rfl 58 _ _ rfl (w.heap.size + 1 + 1) _ rfl rfl 58 _ (BR).h (by kernel_rfl) (by rfl) (by kernel_rfl) ?_))
    refine bodyPost_ret (v := .tuple #[.agg (rvA kh sh L.length S.length k0 n0), .bool false]) (results_cell_tmp rfl _ _ (w.heap.size + 1 + 1) 58 (rvA kh sh L.length S.length k0 n0) (0, 0) _ (.bool false) rfl rfl (Blk.row BR _).h Try.underlying58 rfl (by kernel_rfl)) rfl ?_
    exact hN.out _ _ ⟨rfl, below_setRow hb (by omega) _⟩
  · replace hc := Lib.hid hc
    have hsl := H.sl
    go_wp2_with fail
    go_loopg [6] S.length (fun gg i wr => ∃ k : Nat, k ≤ S.length ∧ S.length ≤ k + gg ∧ i = .int .i64 k ∧ Below wx.heap.size wx wr ∧ Hid (∀ j (hj : j < S.length), j < k → S[j].1 ≠ n))
    case atStart => exact ⟨0, Nat.zero_le _, by omega, rfl, Below.refl _ _, Lib.hid fun j _ h => absurd h (by omega)⟩
    case round =>
      obtain ⟨k, hk, hkg, rfl, hb2, hall⟩ := hrel
      have BV2 := BV.below hb2
      have BK2 := BK.below hb2
      have BR2 := BR.below hb2
      have hbb := below_push2 hb hb2 (by omega)
      have x1 := BV2.at 1 rfl
      by_cases hlt : k < S.length
      · have hlt' : (k : Int) < (S.length : Int) := by omega
        obtain ⟨b, off, ha, hbl, hcs, _, y0, y1⟩ := sp_at (H1.below hb2).sp k hlt
        have a1 : wr.cell? ⟨w.heap.size, 1, none⟩ = some (.slice (some ⟨b, off, none⟩) S.length sh.c) := by rw [← ha]; exact x1
        have k0' := BK2.at 0 rfl
        clear x1 c0
        go_upto_region 6 with (fail)
        have a1d : wr.drew.cell? ⟨w.heap.size, 1, none⟩ = some (.slice (some ⟨b, off, none⟩) S.length sh.c) := a1
        have k0d : wr.drew.cell? ⟨w.heap.size + 1, 0, none⟩ = some (.int .i64 n) := k0'
        have hcd : wr.drew.cell? ⟨b, off + k * 2, none⟩ = some (.int .i64 S[k].1) := hcs
        go_region
        by_cases he : S[k].1 = n
        · have hE : Hid (∀ e w', (e = .returned (.tuple #[.agg (rvA kh sh L.length S.length k0 n0), .bool false]) ∧ Below w.heap.size w w') → SpareAt w kh sh L S k0 n0 n v e w') := Lib.hid (fun e w' h => by unfold SpareAt; rw [spHas_yes hlt he, hc.out]; exact h)
          have hbt : (S[k].1 == n) = true := by simpa using he
          rw [hbt]
          have BV3 := BV2.drew
          have BR3 := BR2.drew
          clear he hbt hcs hcd
          go_wp2_with (first
            | (refine wpList_load_row rfl 58 _ rfl w.heap.size rfl 58 _ (0, 0) _ (BV3).h Try.underlying58 rfl (by kernel_rfl) ?_)
            | (refine wpList_store_row rfl 58 _ _ rfl (w.heap.size + 1 + 1) _ rfl rfl 58 _ (BR3).h (by kernel_rfl) (by rfl) (by kernel_rfl) ?_))
          refine bodyPost_ret (v := .tuple #[.agg (rvA kh sh L.length S.length k0 n0), .bool false]) (results_cell_tmp rfl _ _ (w.heap.size + 1 + 1) 58 (rvA kh sh L.length S.length k0 n0) (0, 0) _ (.bool false) rfl rfl (Blk.row BR3 _).h Try.underlying58 rfl (by kernel_rfl)) rfl ?_
          exact hE.out _ _ ⟨rfl, below_setRow hbb.drew (by omega) _⟩
        · have hN : Hid (∀ j (hj : j < S.length), j < k + 1 → S[j].1 ≠ n) := Lib.hid fun j hj hjk => by
            by_cases e : j = k
            · subst e; exact he
            · exact hall.out j hj (by omega)
          have hbt : (S[k].1 == n) = false := by simpa using he
          rw [hbt]
          clear he hbt hcs hcd
          go_wp2_with fail
          go_roundg (S.length - (k + 1))
          case measure => omega
          case rel => exact ⟨k + 1, by omega, by omega, by go_num, hb2.drew, hN⟩
      · obtain rfl : k = S.length := by omega
        have hNo : Hid (∀ a c e w', (e = .returned (.tuple #[.agg (rvA kh ⟨a, c⟩ L.length (S.length + 1) k0 n0), .bool true]) ∧ Below w.heap.size w w' ∧ OwnS w' w.heap.size a c (S ++ [(n, v)])) → SpareAt w kh sh L S k0 n0 n v e w') := Lib.hid (fun a c e w' h => by
          unfold SpareAt
          rw [spHas_no (fun j hj => hall.out j hj hj), hc.out, List.length_append]
          exact ⟨a, c, h⟩)
        have HS := (H1.below hb2).sp
        have k0a := BK2.at 0 rfl
        have k1a := BK2.at 1 rfl
        have hlz : w.heap.size + 1 + 1 < wr.heap.size := BR2.lt
        have hl0 : w.heap.size < wr.heap.size := by omega
        have hl1 : w.heap.size + 1 < wr.heap.size := by omega
        clear H1 hall c0 H
        go_upto_region 8 with (fail)
        go_cut [] (fun W => ∃ g d, Blk W w.heap.size (rvA kh ⟨some ⟨g, 0, none⟩, d⟩ L.length (S.length + 1) k0 n0) 58 ∧ Blk W (w.heap.size + 1 + 1) rz 58 ∧ OwnS W wr.heap.size (some ⟨g, 0, none⟩) d (S ++ [(n, v)]) ∧ Below w.heap.size w W)
        case first =>
          have hA1 : Below wr.heap.size wr (wr.alloc (.cells #[] 60)) := (Below.refl _ _).alloc (Nat.le_refl _) _
          have hA2 : Below wr.heap.size wr (wr.alloc (.cells #[.int .i64 n, .int .u64 v] 60)) := (Below.refl _ _).alloc (Nat.le_refl _) _
          have hB1 : Below wr.heap.size wr (wr.alloc (.cells #[] 60)).drew := hA1.drew
          have hB3 : Below wr.heap.size wr ((wr.alloc (.cells #[] 60)).alloc (.cells #[.int .i64 n, .int .u64 v] 60)).drew := (hA1.alloc hA1.size _).drew
          have hB4 : Below wr.heap.size wr ((wr.alloc (.cells #[.int .i64 n, .int .u64 v] 60)).alloc (.cells #[] 60)).drew := (hA2.alloc hA2.size _).drew
          have hE0 : OwnS (wr.alloc (.cells #[] 60)) wr.heap.size (some ⟨wr.heap.size, 0, none⟩) 0 [] := OwnS.empty wr wr.heap.size (Nat.le_refl _)
          have hE1 : OwnS (wr.alloc (.cells #[] 60)).drew wr.heap.size (some ⟨wr.heap.size, 0, none⟩) 0 [] := OwnS.below hE0 (Below.refl _ _).drew
          have hE4 : OwnS ((wr.alloc (.cells #[.int .i64 n, .int .u64 v] 60)).alloc (.cells #[] 60)).drew wr.heap.size (some ⟨wr.heap.size + 1, 0, none⟩) 0 [] := by
            have := OwnS.empty (wr.alloc (.cells #[.int .i64 n, .int .u64 v] 60)) wr.heap.size hA2.size
            exact OwnS.below (by simpa using this) (Below.refl _ _).drew
          obtain ⟨a1, k1, q1, r1, o1, b1, f1⟩ := addFirstV wr _ hB1 wr.heap.size hE1 (HS.keep (Keeps.of_below hB1)) hsl
          have b1a : Below wr.heap.size wr (q1.alloc (.cells #[.int .i64 n, .int .u64 v] 60)) := b1.alloc b1.size _
          obtain ⟨g2, k2, q2, r2, o2, b2⟩ := addSecondV wr _ b1a a1 k1 q1.heap.size (OwnS.below o1 ((Below.refl _ _).alloc (Nat.le_refl _) _)) (Blk.new q1 _ _) h0 h1 hsl
          have e1a := (BK2.below b1).at 0 rfl
          have e1b := (BK2.below b1).at 1 rfl
          obtain ⟨a3, k3, q3, r3, o3, b3, f3⟩ := addFirstV wr _ hB3 wr.heap.size (OwnS.below hE0 (((Below.refl _ _).alloc (Nat.le_refl _) _).drew)) (HS.keep (Keeps.of_below hB3)) hsl
          have bx3 : Blk q3 (wr.heap.size + 1) #[.int .i64 n, .int .u64 v] 60 := by
            have B := (Blk.new (wr.alloc (.cells #[] 60)) #[.int .i64 n, .int .u64 v] 60).drew
            simp only [World.size_alloc] at B
            exact ⟨(f3.block _ B.lt (by simp)).trans B.h⟩
          obtain ⟨g4, k4, q4, r4, o4, b4⟩ := addSecondV wr _ b3 a3 k3 _ o3 bx3 h0 h1 hsl
          obtain ⟨a5, k5, q5, r5, o5, b5, f5⟩ := addFirstV wr _ hB4 (wr.heap.size + 1) hE4 (HS.keep (Keeps.of_below hB4)) hsl
          have bx5 : Blk q5 wr.heap.size #[.int .i64 n, .int .u64 v] 60 := by
            have B := ((Blk.new wr #[.int .i64 n, .int .u64 v] 60).alloc (.cells #[] 60)).drew
            exact ⟨(f5.block _ B.lt (by simp)).trans B.h⟩
          obtain ⟨g6, k6, q6, r6, o6, b6⟩ := addSecondV wr _ b5 a5 k5 _ o5 bx5 h0 h1 hsl
          have fin : ∀ q g d, OwnS q wr.heap.size (some ⟨g, 0, none⟩) d (S ++ [(n, v)]) → Below wr.heap.size wr q → ∃ g' d', Blk (q.setCell ⟨w.heap.size, 1, none⟩ (.slice (some ⟨g, 0, none⟩) (S.length + 1) d)) w.heap.size (rvA kh ⟨some ⟨g', 0, none⟩, d'⟩ L.length (S.length + 1) k0 n0) 58 ∧ Blk (q.setCell ⟨w.heap.size, 1, none⟩ (.slice (some ⟨g, 0, none⟩) (S.length + 1) d)) (w.heap.size + 1 + 1) rz 58 ∧ OwnS (q.setCell ⟨w.heap.size, 1, none⟩ (.slice (some ⟨g, 0, none⟩) (S.length + 1) d)) wr.heap.size (some ⟨g', 0, none⟩) d' (S ++ [(n, v)]) ∧ Below w.heap.size w (q.setCell ⟨w.heap.size, 1, none⟩ (.slice (some ⟨g, 0, none⟩) (S.length + 1) d)) := by
            intro q g d O B
            refine ⟨g, d, by simpa using (BV2.below B).set 1 (.slice (some ⟨g, 0, none⟩) (S.length + 1) d), (BR2.below B).far _ _ (by simp; try omega), OwnS.fr O ((Fr.refl [w.heap.size] _).set _ _ (.inl (by simp))) (fun p hp => ?_), (below_push2 hbb B (by omega)).setCell (Nat.le_refl _) _⟩
            have := (OwnV.lt O p hp).1
            simp; omega
          replace fin := Lib.hid fin
          have s2 := (BV2.below b2).at 1 rfl
          have t2 := (BV2.below b2).free 1
          have s4 := (BV2.below b4).at 1 rfl
          have t4 := (BV2.below b4).free 1
          have s6 := (BV2.below b6).at 1 rfl
          have t6 := (BV2.below b6).free 1
          clear hA1 hA2 hB1 hB3 hB4 hE0 hE1 hE4 b1a bx3 bx5 f1 f3 f5 o1 o3 o5 b1 b3 b5
          go_region_law ((first
            | ((with_reducible (show @ite _ _ _ (Oper.wp _ _ _ (World.drew (World.alloc wr (.cells #[] _))) _ _) _)); refine step_append_run r1.out rfl (by rfl) (by rfl) (by rfl) ?_)
            | ((with_reducible (show @ite _ _ _ (Oper.wp _ _ _ (World.alloc q1 _) _ _) _)); refine step_append_run r2.out rfl (by rfl) (by rfl) (by rfl) ?_)
            | ((with_reducible (show @ite _ _ _ (Oper.wp _ _ _ (World.drew (World.alloc (World.alloc wr (.cells #[] _)) _)) _ _) _)); refine step_append_run r3.out rfl (by rfl) (by rfl) (by rfl) ?_)
            | ((with_reducible (show @ite _ _ _ (Oper.wp _ _ _ q3 _ _) _)); refine step_append_run r4.out rfl (by rfl) (by rfl) (by rfl) ?_)
            | ((with_reducible (show @ite _ _ _ (Oper.wp _ _ _ (World.drew (World.alloc (World.alloc wr (.cells #[.int .i64 _, .int .u64 _] _)) _)) _ _) _)); refine step_append_run r5.out rfl (by rfl) (by rfl) (by rfl) ?_)
            | ((with_reducible (show @ite _ _ _ (Oper.wp _ _ _ q5 _ _) _)); refine step_append_run r6.out rfl (by rfl) (by rfl) (by rfl) ?_)))
          all_goals
            go_wp2_with fail
            go_meet
            first
              | exact fin.out _ _ _ o2 b2
              | exact fin.out _ _ _ o4 b4
              | exact fin.out _ _ _ o6 b6
        case rest =>
          obtain ⟨g, d, BV5, BR5, O5, hb5⟩ := hcut
          go_wp2_with (first
            | (refine wpList_load_row rfl 58 _ rfl w.heap.size rfl 58 _ (0, 0) _ (BV5).h Try.underlying58 rfl (by kernel_rfl) ?_)
            | (refine wpList_store_row rfl 58 _ _ rfl (w.heap.size + 1 + 1) _ rfl rfl 58 _ (BR5).h (by kernel_rfl) (by rfl) (by kernel_rfl) ?_))
          refine bodyPost_ret (v := .tuple #[.agg (rvA kh ⟨some ⟨g, 0, none⟩, d⟩ L.length (S.length + 1) k0 n0), .bool true]) (results_cell_tmp rfl _ _ (w.heap.size + 1 + 1) 58 (rvA kh ⟨some ⟨g, 0, none⟩, d⟩ L.length (S.length + 1) k0 n0) (0, 0) _ (.bool true) rfl rfl (Blk.row BR5 _).h Try.underlying58 rfl (by kernel_rfl)) rfl ?_
          refine hNo.out _ _ _ _ ⟨rfl, below_setRow hb5 (by omega) _, ?_⟩
          exact OwnV.lower (OwnS.fr O5 (Fr.row (S := [w.heap.size + 1 + 1]) _ _ (by simp)) (fun q hq => by have := (OwnV.lt O5 q hq).1; simp; omega)) (by omega)
end Go.Proofs.Ytbemgfpnoeogdaa.FoP
