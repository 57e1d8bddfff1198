/-
  bowerref26.New: the walk.
-/
import Derived.Test.YtpimifnibdjhfaaDocNew
import Derived.Test.YtpimifnibdjhfaaMemGetW
namespace Go.Proofs.Ytpimifnibdjhfaa.MemP
open Go.RowKit RefP CellP
set_option linter.unusedVariables false
set_option linter.unusedSimpArgs false
/-- an owned row that is not empty: its block -/
theorem own_block {α : Type} {k : Nat} {f : α → Nat → Value} {d : α} {w : World} {base : Nat} {e : TypeId} {a : Option Addr} {c : Nat} {l : List α} (h : OwnR k f d w base e a c l) (h0 : 0 < l.length) : ∃ g cur, a = some ⟨g, 0, none⟩ ∧ base ≤ g ∧ Blk w g cur e ∧ l.length * k ≤ cur.size := by
  rcases h.own.2 with q | ⟨g, cap, cur, e', hg, hh, hn, hm, hs, r⟩
  · have := q.2; omega
  · injection e' with e1 e2 e3
    refine ⟨g, cur, e1, hg, ⟨hh⟩, ?_⟩
    rw [hs]
    exact Nat.mul_le_mul_right _ hn
set_option maxRecDepth 100000 in
set_option maxHeartbeats 6400000 in
theorem dmnew (A T : Nat) (gen : Int) (w : World) (hA1 : 1 ≤ A) (hA2 : A ≤ 8192) (hT1 : 1 ≤ T) (hT2 : T ≤ 16) (g0 : 0 ≤ gen) (g1 : gen < 4294967295) :
    Calls Try.prog 9 #[.int .i64 A, .int .i64 T, .int .u64 gen] w fun e w' => (∃ a1 n1 c1 a2 n2 c2 a3 n3 c3, e = .returned (.agg (dmemA A T a1 n1 c1 a2 n2 c2 a3 n3 c3))) ∧ Below w.heap.size w w' := by
  go_enter Try.func9, Try.ntmps9
  go_wp2_with fail
  have R0 : DN w A T none 0 [] none 0 [] none 0 [] ((w.alloc (.cells (dmemA 0 0 none 0 0 none 0 0 none 0 0) 36)).alloc (.cells (dmemA A T none 0 0 none 0 0 none 0 0) 36)) := by
    refine ⟨by (repeat (first | exact Below.refl _ _ | assumption | refine below_alloc2 ?_ (by first | exact Nat.le_refl _ | omega) _ | refine Below.drew ?_ | refine below_drewN ?_ _ | refine below_push2 ?_ ‹_› (by first | exact Nat.le_refl _ | omega) | refine Below.setCell ?_ (by first | (simp; done) | (simp; omega) | omega) _)), (Blk.new w _ _).alloc _, ?_, OwnR.nil _ _ _ _ _ _, OwnR.nil _ _ _ _ _ _, OwnR.nil _ _ _ _ _ _, fun q q' h => by simp [Value.ownBlock] at h, fun q q' h => by simp [Value.ownBlock] at h, fun q q' h => by simp [Value.ownBlock] at h⟩
    have := Blk.new (w.alloc (.cells (dmemA 0 0 none 0 0 none 0 0 none 0 0) 36)) (dmemA A T none 0 0 none 0 0 none 0 0) 36
    simpa using this
  go_loopw [8] (fun i wr => ∃ k : Nat, k ≤ A ∧ i = .int .i64 k ∧ ∃ a1 c1 l1 a2 c2 l2, (k ≤ l1.length ∧ l1.length ≤ k) ∧ (k ≤ l2.length ∧ l2.length ≤ k) ∧ DN w A T a1 c1 l1 a2 c2 l2 none 0 [] wr) (fun i _ => A - (intOf i).toNat)
  case atStart => exact ⟨0, Nat.zero_le _, rfl, none, 0, [], none, 0, [], by simp, by simp, R0⟩
  case round =>
    clear R0
    obtain ⟨k, hk, rfl, a1, c1, l1, a2, c2, l2, hl1, hl2, R⟩ := hrel
    by_cases hlt : k < A
    · have hlt' : (k : Int) < (A : Int) := by omega
      have m2 : wr.cell? ⟨w.heap.size + 1, 2, none⟩ = some (.slice a1 l1.length c1) := R.m.at 2 rfl
      have hb1 : Below wr.heap.size wr (wr.alloc (.cells #[.int .u64 0, .int .u64 0] 85)) := (Below.refl _ wr).alloc (Nat.le_refl _) _
      have Ra1 := R.below hb1
      obtain ⟨gq1, cq1, wq1, K1⟩ := addCell (w.heap.size + 2) Ra1.o1 0 (Blk.new wr #[.int .u64 0, .int .u64 0] 85) (by omega) (by have := Ra1.m.lt; omega)
      have hrun1 := Lib.hid K1.run
      have Rb1 := Ra1.add1 K1
      have hlq1 := OwnR.lt Ra1.o1
      have Bq1 := Ra1.m.grown K1.grown (fun e => by have := (hlq1 _ e.symm).1; omega)
      have hml1 := R.m.lt
      clear K1 hlq1
      have x2 := Bq1.at 2 rfl
      have y2 := Bq1.free 2
      go_upto_region 6 with (at_builtin; refine wpList_append_run hrun1.out rfl (by rfl) (by rfl) (by rfl) ?_)
      generalize wq1.setCell ⟨w.heap.size + 1, 2, none⟩ (.slice (some ⟨gq1, 0, none⟩) (l1.length + 1) cq1) = wx at Rb1 ⊢
      clear hrun1 x2 y2 Bq1 Ra1 R m2 hb1 hml1
      have m3 : wx.cell? ⟨w.heap.size + 1, 3, none⟩ = some (.slice a2 l2.length c2) := Rb1.m.at 3 rfl
      have hb2 : Below wx.heap.size wx (wx.alloc (.cells zb.toArray 54)) := (Below.refl _ wx).alloc (Nat.le_refl _) _
      have Ra2 := Rb1.below hb2
      obtain ⟨gq2, cq2, wq2, K2⟩ := addBlk (w.heap.size + 2) Ra2.o2  (Blk.new wx zb.toArray 54) (by omega) (by have := Ra2.m.lt; omega)
      have hrun2 := Lib.hid K2.run
      have Rb2 := Ra2.add2 K2
      have hlq2 := OwnR.lt Ra2.o2
      have Bq2 := Ra2.m.grown K2.grown (fun e => by have := (hlq2 _ e.symm).1; omega)
      have hml2 := Rb1.m.lt
      clear K2 hlq2
      have x3 := Bq2.at 3 rfl
      have y3 := Bq2.free 3
      go_wp2_with (at_builtin; refine wpList_append_run hrun2.out rfl (by rfl) (by rfl) (by rfl) ?_)
      go_roundw
      case rel => exact ⟨k + 1, by omega, by go_num, _, _, _, _, _, _, by simp; omega, by simp; omega, Rb2⟩
      case measure => simp [intOf]; omega
    · obtain rfl : k = A := by omega
      clear hlt
      have hu : 0 ≤ useI 0 gen ∧ useI 0 gen ≤ 18446744073709551615 := by unfold useI topW; split <;> omega
      go_wp2_with fail
      go_loopw [9] (fun i wr => ∃ k' : Nat, k' ≤ k ∧ i = .int .i64 k' ∧ ∃ a1 c1 l1, (k + k' ≤ l1.length ∧ l1.length ≤ k + k') ∧ DN w k T a1 c1 l1 a2 c2 l2 none 0 [] wr) (fun i _ => k - (intOf i).toNat)
      case atStart => exact ⟨0, Nat.zero_le _, rfl, _, _, l1, by omega, R⟩
      case round =>
        clear R
        obtain ⟨k', hk', rfl, a1, c1, l1, hl1, R⟩ := hrel
        by_cases hlt : k' < k
        · have hlt' : (k' : Int) < (k : Int) := by omega
          have m2 : wr.cell? ⟨w.heap.size + 1, 2, none⟩ = some (.slice a1 l1.length c1) := R.m.at 2 rfl
          have hd : Below wr.heap.size wr wr.drew := (Below.refl _ _).drew
          have hb1 : Below wr.heap.size wr ((wr.alloc (.cells #[.int .u64 (useI 0 gen), .int .u64 0] 85)).drew) := ((Below.refl _ wr).alloc (Nat.le_refl _) _).drew
          have Ra := R.below hb1
          obtain ⟨gq, cq, wq, K⟩ := addCell (w.heap.size + 2) Ra.o1 (useI 0 gen) (Blk.new wr #[.int .u64 (useI 0 gen), .int .u64 0] 85).drew (by omega) (by have := Ra.m.lt; omega)
          have hrun := Lib.hid K.run
          have Rb := Ra.add1 K
          have hlq := OwnR.lt Ra.o1
          have Bq := Ra.m.grown K.grown (fun e => by have := (hlq _ e.symm).1; omega)
          have x2 := Bq.at 2 rfl
          have y2 := Bq.free 2
          have hml := R.m.lt
          have hus := duse_any 0 gen wr.drew (by omega) (by omega) (by omega) (by omega)
          clear K hlq Bq Ra hb1
          go_upto_region 10 with (fail)
          go_region_law (first
            | ((with_reducible (show @ite _ _ _ (Oper.wp _ _ _ ((wr.alloc (.cells #[.int .u64 (useI 0 gen), .int .u64 0] 85)).drew) _ _) _)); refine step_append_run hrun.out rfl (by rfl) (by rfl) (by rfl) ?_)
            | (go_simp; go_at_call 24; refine hus.mono ?_; rintro e wx ⟨rfl, rfl⟩))
          all_goals
            go_wp2_with fail
            go_roundw
            case rel => exact ⟨k' + 1, by omega, by go_num, _, _, _, by simp; omega, Rb⟩
            case measure => simp [intOf]; omega
        · obtain rfl : k' = k := by omega
          clear hlt hu
          have hw5 : IntKind.i64.wrap (5 * (T : Int)) = 5 * (T : Int) := by rw [IntKind.wrap_i64]; omega
          have hw6 : IntKind.i64.wrap (5 * (T : Int) + 1) = 5 * (T : Int) + 1 := by rw [IntKind.wrap_i64]; omega
          go_wp2_with fail
          go_loopw [10] (fun i wr => ∃ j : Nat, j ≤ 5 * T + 1 ∧ i = .int .i64 j ∧ ∃ a1 c1 l1, (k' + k' + j ≤ l1.length ∧ l1.length ≤ k' + k' + j) ∧ DN w k' T a1 c1 l1 a2 c2 l2 none 0 [] wr) (fun i _ => 5 * T + 1 - (intOf i).toNat)
          case atStart => exact ⟨0, Nat.zero_le _, rfl, _, _, l1, by omega, R⟩
          case round =>
            clear R
            obtain ⟨j, hj, rfl, a1, c1, l1, hl1, R⟩ := hrel
            by_cases hlt : j < 5 * T + 1
            · have hlt' : (j : Int) < 5 * (T : Int) + 1 := by omega
              have m2 : wr.cell? ⟨w.heap.size + 1, 2, none⟩ = some (.slice a1 l1.length c1) := R.m.at 2 rfl
              have hb1 : Below wr.heap.size wr (wr.alloc (.cells #[.int .u64 0, .int .u64 0] 85)) := (Below.refl _ wr).alloc (Nat.le_refl _) _
              have Ra1 := R.below hb1
              obtain ⟨gq1, cq1, wq1, K1⟩ := addCell (w.heap.size + 2) Ra1.o1 0 (Blk.new wr #[.int .u64 0, .int .u64 0] 85) (by omega) (by have := Ra1.m.lt; omega)
              have hrun1 := Lib.hid K1.run
              have Rb1 := Ra1.add1 K1
              have hlq1 := OwnR.lt Ra1.o1
              have Bq1 := Ra1.m.grown K1.grown (fun e => by have := (hlq1 _ e.symm).1; omega)
              have hml1 := R.m.lt
              clear K1 hlq1
              have x2 := Bq1.at 2 rfl
              have y2 := Bq1.free 2
              go_wp2_with (at_builtin; refine wpList_append_run hrun1.out rfl (by rfl) (by rfl) (by rfl) ?_)
              go_roundw
              case rel => exact ⟨j + 1, by omega, by go_num, _, _, _, by simp; omega, Rb1⟩
              case measure => simp [intOf]; omega
            · have hge : 5 * (T : Int) + 1 ≤ (j : Int) := by omega
              go_wp2_with fail
              clear hge
              go_loopw [11] (fun i wr => ∃ q : Nat, q ≤ T ∧ i = .int .i64 q ∧ ∃ a3 c3 l3, (q ≤ l3.length ∧ l3.length ≤ q) ∧ DN w k' T a1 c1 l1 a2 c2 l2 a3 c3 l3 wr) (fun i _ => T - (intOf i).toNat)
              case atStart => exact ⟨0, Nat.zero_le _, rfl, _, _, [], by simp, R⟩
              case round =>
                clear R
                obtain ⟨q, hq, rfl, a3, c3, l3, hl3, R⟩ := hrel
                by_cases hlt2 : q < T
                · have hlt' : (q : Int) < (T : Int) := by omega
                  have m4 : wr.cell? ⟨w.heap.size + 1, 4, none⟩ = some (.slice a3 l3.length c3) := R.m.at 4 rfl
                  have hb1 : Below wr.heap.size wr (wr.alloc (.cells zo.toArray 56)) := (Below.refl _ wr).alloc (Nat.le_refl _) _
                  have Ra1 := R.below hb1
                  obtain ⟨gq1, cq1, wq1, K1⟩ := addOp (w.heap.size + 2) Ra1.o3  (Blk.new wr zo.toArray 56) (by omega) (by have := Ra1.m.lt; omega)
                  have hrun1 := Lib.hid K1.run
                  have Rb1 := Ra1.add3 K1
                  have hlq1 := OwnR.lt Ra1.o3
                  have Bq1 := Ra1.m.grown K1.grown (fun e => by have := (hlq1 _ e.symm).1; omega)
                  have hml1 := R.m.lt
                  clear K1 hlq1
                  have x4 := Bq1.at 4 rfl
                  have y4 := Bq1.free 4
                  go_wp2_with (at_builtin; refine wpList_append_run hrun1.out rfl (by rfl) (by rfl) (by rfl) ?_)
                  go_roundw
                  case rel => exact ⟨q + 1, by omega, by go_num, _, _, _, by simp; omega, Rb1⟩
                  case measure => simp [intOf]; omega
                · have hge : (T : Int) ≤ (q : Int) := by omega
                  obtain ⟨b1, cur1, rfl, hb1, B1, hc1⟩ := own_block R.o1 (by omega)
                  obtain ⟨b2, cur2, rfl, hb2, B2, hc2⟩ := own_block R.o2 (by omega)
                  have hne12 : b1 ≠ b2 := R.n12 b1 b2 rfl rfl
                  have hB := R.b
                  have Z := R.z
                  have M := R.m
                  have m2 : wr.cell? ⟨w.heap.size + 1, 2, none⟩ = some (.slice (some ⟨b1, 0, none⟩) l1.length c1) := M.at 2 rfl
                  have hk1 : (k' : Int) < (l1.length : Int) := by omega
                  have hwg : IntKind.u64.wrap (gen + 1) = gen + 1 := by rw [IntKind.wrap_u64]; omega
                  have hus := duse_any 1 (gen + 1) wr.drew (by omega) (by omega) (by omega) (by omega)
                  have e1 := B1.at (k' * 2) (Array.getElem?_eq_getElem (show k' * 2 < cur1.size by omega))
                  have y1 := B1.free (k' * 2)
                  have hk0 : (0 : Int) ≤ (k' : Int) := by omega
                  clear R hge
                  go_upto_region 19 with (fail)
                  go_cut [] (fun wx => wx = (wr.setCell ⟨b1, k' * 2, none⟩ (.int .u64 (useI 1 (gen + 1)))).drew)
                  case first =>
                    go_region_with (go_at_call 24; refine hus.mono ?_; rintro e wx ⟨rfl, rfl⟩)
                    all_goals
                      go_wp2_with fail
                      go_meet
                      exact rfl
                  case rest =>
                    obtain rfl := hcut
                    have F1 : Fr [b1] wr (wr.setCell ⟨b1, k' * 2, none⟩ (.int .u64 (useI 1 (gen + 1)))).drew := ((Fr.refl [b1] wr).set _ _ (.inl (by simp))).trans (Fr.of_below (Below.refl _ _).drew)
                    replace hB := (hB.setCell (p := ⟨b1, k' * 2, none⟩) (by show w.heap.size ≤ b1; omega) (.int .u64 (useI 1 (gen + 1)))).drew
                    replace Z := F1.blk Z (by simp; omega)
                    replace M := F1.blk M (by simp; omega)
                    replace B2 := F1.blk B2 (by simp; omega)
                    replace B1 := (B1.set (k' * 2) (.int .u64 (useI 1 (gen + 1)))).drew
                    generalize (wr.setCell ⟨b1, k' * 2, none⟩ (.int .u64 (useI 1 (gen + 1)))).drew = wy at hB Z M B1 B2 ⊢
                    clear m2 e1 y1 F1 hus
                    have m2 : wy.cell? ⟨w.heap.size + 1, 2, none⟩ = some (.slice (some ⟨b1, 0, none⟩) l1.length c1) := M.at 2 rfl
                    have hpk := dpack_any 0 (gen + 1) wy.drew (by omega) (by omega) (by omega) (by omega)
                    have e1 := B1.at 0 (Array.getElem?_eq_getElem (show 0 < (cur1.setIfInBounds (k' * 2) (.int .u64 (useI 1 (gen + 1)))).size by simp; omega))
                    have y1 := B1.free 0
                    have hl0 : (0 : Int) < (l1.length : Int) := by omega
                    go_upto_region 20 with (fail)
                    go_cut [] (fun wx => wx = (wy.setCell ⟨b1, 0, none⟩ (.int .u64 (packI 0 (gen + 1)))).drew)
                    case first =>
                      go_region_with (go_at_call 25; refine hpk.mono ?_; rintro e wx ⟨rfl, rfl⟩)
                      all_goals
                        go_wp2_with fail
                        go_meet
                        exact rfl
                    case rest =>
                      obtain rfl := hcut
                      have F2 : Fr [b1] wy (wy.setCell ⟨b1, 0, none⟩ (.int .u64 (packI 0 (gen + 1)))).drew := ((Fr.refl [b1] wy).set _ _ (.inl (by simp))).trans (Fr.of_below (Below.refl _ _).drew)
                      replace hB := (hB.setCell (p := ⟨b1, 0, none⟩) (by show w.heap.size ≤ b1; omega) (.int .u64 (packI 0 (gen + 1)))).drew
                      replace Z := F2.blk Z (by simp; omega)
                      replace M := F2.blk M (by simp; omega)
                      replace B2 := F2.blk B2 (by simp; omega)
                      generalize (wy.setCell ⟨b1, 0, none⟩ (.int .u64 (packI 0 (gen + 1)))).drew = wz at hB Z M B2 ⊢
                      clear m2 e1 y1 F2 hpk B1 hl0
                      have m3 : wz.cell? ⟨w.heap.size + 1, 3, none⟩ = some (.slice (some ⟨b2, 0, none⟩) l2.length c2) := M.at 3 rfl
                      have hth := there_blk (o := 0) (n := 17) B2 (by omega)
                      have hl20 : (0 : Int) < (l2.length : Int) := by omega
                      have F3 := fr_sets (S := [b2]) (b := b2) (by simp) eb 0 wz
                      have hB3 := below_sets (b := b2) (show w.heap.size ≤ b2 by omega) eb 0 _ hB
                      have Z3 := F3.blk Z (by simp; omega)
                      have M3 := F3.blk M (by simp; omega)
                      generalize hX : wz.setCells b2 0 eb = wu at F3 hB3 Z3 M3
                      replace hX := Lib.hid hX
                      go_wp2_with (first
                        | (refine wpList_store_mid rfl 54 _ _ rfl b2 0 eb.toArray rfl rfl hth (by kernel_rfl) (by kernel_rfl) ?_; rw [show eb.toArray.toList = eb from rfl, hX.out])
                        | (refine wpList_load_row rfl 36 _ rfl (w.heap.size + 1) rfl 36 _ (0, 0) _ M3.h Try.underlying36 rfl (by kernel_rfl) ?_)
                        | (refine wpList_store_row rfl 36 _ _ rfl w.heap.size _ rfl rfl 36 _ Z3.h (by kernel_rfl) (by rfl) (by kernel_rfl) ?_))
                      refine bodyPost_ret (results_cell_row rfl _ _ w.heap.size 36 (dmemA k' T (some ⟨b1, 0, none⟩) l1.length c1 (some ⟨b2, 0, none⟩) l2.length c2 a3 l3.length c3) (0, 0) _ rfl (Blk.row Z3 _).h Try.underlying36 rfl (by kernel_rfl)) rfl ⟨⟨_, _, _, _, _, _, _, _, _, rfl⟩, below_setRow hB3 (by omega) _⟩
end Go.Proofs.Ytpimifnibdjhfaa.MemP
