/-
  ForestPlays: the walk.
-/
import Derived.Test.YtbemgfpnoeogdaaFPlayZ
namespace Go.Proofs.Ytbemgfpnoeogdaa.FoP
open Go.RowKit RefP Go.Maps Dp
set_option linter.unusedVariables false
set_option linter.unusedSimpArgs false
/-- an act's cells -/
abbrev actA (kd n : Int) (q : NodeH) (y : KnV) : Array Value := #[.int .i64 kd, .int .i64 n, .int .i64 y.1, .int .u64 y.2.1, .int .u64 y.2.2.1, .int .i64 y.2.2.2.1.level, .string y.2.2.2.1.low, .string y.2.2.2.1.high, .bool y.2.2.2.1.last, .int .i64 y.2.2.2.1.next, .slice q.keys.a y.2.2.2.1.keys.length q.keys.c, .slice q.vals.a y.2.2.2.1.vals.length q.vals.c, .slice q.kids.a y.2.2.2.1.kids.length q.kids.c]
theorem lt8' {r : Nat} (h : r < 8) : r = 0 ∨ r = 1 ∨ r = 2 ∨ r = 3 ∨ r = 4 ∨ r = 5 ∨ r = 6 ∨ r = 7 := by omega
theorem act_node {w : World} {X : Nat} {kd n : Int} {q : NodeH} {y : KnV} {T : TypeId} (B : Blk w X (actA kd n q y) T) : w.rangeAt X 5 (nodeA q y.2.2.2.1).toList := fun j v hv => by
  have hj : j < 8 := (List.getElem?_eq_some_iff.1 hv).1
  refine B.at (5 + j) ?_
  rcases lt8' hj with e | e | e | e | e | e | e | e <;> subst e <;> exact hv
theorem lt11' {r : Nat} (h : r < 11) : r = 0 ∨ r = 1 ∨ r = 2 ∨ r = 3 ∨ r = 4 ∨ r = 5 ∨ r = 6 ∨ r = 7 ∨ r = 8 ∨ r = 9 ∨ r = 10 := by omega
theorem act_kn {w : World} {X : Nat} {kd n : Int} {q : NodeH} {y : KnV} {T : TypeId} (B : Blk w X (actA kd n q y) T) : w.rangeAt X 2 (knA q y).toList := fun j v hv => by
  have hj : j < 11 := (List.getElem?_eq_some_iff.1 hv).1
  refine B.at (2 + j) ?_
  rcases lt11' hj with e | e | e | e | e | e | e | e | e | e | e <;> subst e <;> exact hv
/-- what the law has between two acts, k of them done -/
structure PK (w0 wr : World) (o m B k : Nat) : Prop where
  ex : ∃ L a c S k0 n0 kh sh, PS w0 wr o m B L a c S k0 n0 kh sh ∧ L.length ≤ k ∧ S.length ≤ k
theorem PK.start {w w1 : World} {o m : Nat} (V : VwAt w1 w.heap.size o m [] none 0 [] 0 0) (hb : Below w.heap.size w w1) : PK w (w1.alloc (.cells rz 58)) o m w1.heap.size 0 := by
  have hx : Below w1.heap.size w1 (w1.alloc (.cells rz 58)) := (Below.refl _ _).alloc (Nat.le_refl _) _
  obtain ⟨h1, h2, _⟩ := V.lts
  refine ⟨[], none, 0, [], 0, 0, Hd.nil, Hd.nil, ⟨below_push2 hb hx (Nat.le_refl _), V.under hx, Blk.new w1 rz _, HRow.nil _ _ _, HRow.nil _ _ _, by simp, by simp, by simp, hb.size, by omega, by omega, by simp [ob]⟩, by simp, by simp⟩
set_option maxRecDepth 100000 in
set_option maxHeartbeats 6400000 in
theorem fplay_walk {w : World} (h : Hd) (xs : List ActV) (H : HRow actT w [] h xs) : Calls Try.prog 5 #[.slice h.a xs.length h.c] w fun e w' => e = .returned (.bool true) ∧ Below w.heap.size w w' := by
  by_cases h60 : xs.length ≤ 60
  case neg =>
    have h60' : 60 < (xs.length : Int) := by omega
    go_enter Try.func5, Try.ntmps5
    go_wp2_with fail
    refine (fLives_any _).mono ?_
    rintro e w5 ⟨rfl, hb5⟩
    go_wp2_with fail
    go_ret
    exact ⟨rfl, hb5⟩
  have h60' : ¬ 60 < (xs.length : Int) := by omega
  go_enter Try.func5, Try.ntmps5
  go_wp2_with fail
  refine (fNew_any _).mono ?_
  rintro e w1 ⟨o, m, rfl, V1, hb1⟩
  go_wp2_with fail
  have P0 := PK.start V1 hb1
  obtain ⟨B, hB⟩ : ∃ b, b = w1.heap.size := ⟨_, rfl⟩
  rw [← hB] at P0 ⊢
  generalize w1.alloc (.cells rz 58) = w2 at P0 ⊢
  clear V1 hb1 hB
  go_loopg [21] xs.length (fun gg i wr => ∃ k : Nat, k ≤ xs.length ∧ xs.length ≤ k + gg ∧ i = .int .i64 k ∧ PK w wr o m B k)
  case atStart => exact ⟨0, Nat.zero_le _, by omega, rfl, P0⟩
  case round =>
    clear P0
    obtain ⟨k, hk, hkg, rfl, ⟨L, a, c, S, k0, n0, kh, sh, P, hLk, hSk⟩⟩ := hrel
    by_cases hlt : k < xs.length
    · have hlt' : (k : Int) < (xs.length : Int) := by omega
      obtain ⟨b, off, q, ha, hbl, hcs0, hi0, hi1, hok⟩ := act_at H k hlt
      have hcs : wr.rangeAt b (off + k * 13) (actA xs[k].1 xs[k].2.1 q xs[k].2.2.1).toList := raw_keep hcs0 P.b hbl
      obtain ⟨ha', hc'⟩ := h
      simp only at ha
      subst ha
      generalize xs[k].1 = kd at hcs hi0
      generalize xs[k].2.1 = n at hcs hi1
      generalize xs[k].2.2.1 = y at hcs hok
      clear hcs0
      have hbx : Below wr.heap.size wr (wr.alloc (.cells (actA kd n q y) 68)) := (Below.refl _ _).alloc (Nat.le_refl _) _
      have BX := Blk.new wr (actA kd n q y) 68
      obtain ⟨X, hX⟩ : ∃ x, x = wr.heap.size := ⟨_, rfl⟩
      go_upto_region 8 with (first
        | (refine wpList_load_mid rfl 68 _ rfl b (off + k * 13) rfl (actA kd n q y).toList _ hcs Try.underlying68 rfl (by kernel_rfl) ?_)
        | (refine wpList_store_row rfl 68 _ _ rfl _ _ rfl rfl 68 _ (Blk.new wr _ _).h (by kernel_rfl) (by rfl) (by kernel_rfl) ?_; rw [World.setRow_alloc_new]))
      rw [← hX] at BX ⊢
      have P3 := P.under hbx
      have hzX : X < (wr.alloc (.cells (actA kd n q y) 68)).heap.size := BX.lt
      have hXA : X ∉ avo o m B a := fun h => by have := P.old X h; omega
      replace hX := Lib.hid hX
      clear hcs hbx P
      generalize wr.alloc (.cells (actA kd n q y) 68) = w3 at BX P3 hzX ⊢
      go_wp2_with (refine wpList_load_mid rfl 26 _ rfl X 5 rfl (nodeA q y.2.2.2.1).toList _ (act_node BX) Try.underlying26 rfl (by kernel_rfl) ?_)
      have hn3 := hok.node.keep (Keeps.of_below P3.b)
      refine (light10_any _ q y.2.2.2.1 w3 hn3).mono ?_
      rintro e w4 ⟨rfl, hb4⟩
      have P4 := P3.under hb4
      have BX4 := BX.below hb4
      have hzX4 := BX4.lt
      clear P3 BX hzX hn3 hb4
      cases hL : lightN y.2.2.2.1
      · go_wp2_with fail
        refine (fLives_any _).mono ?_
        rintro e w5 ⟨rfl, hb5⟩
        go_wp2_with fail
        go_ret
        exact ⟨rfl, below_push2 P4.b hb5 (Nat.le_refl _)⟩
      · clear hL
        go_upto_region 11 with (fail)
        go_cut [32] (fun v32 W => v32 = .int .i64 kd ∧ W = w4)
        case first =>
          have x0 := BX4.at 0 rfl
          go_wp2_with fail
          go_meet
          exact ⟨rfl, rfl⟩
        case rest =>
          obtain ⟨rfl, rfl⟩ := hcut
          apply_assumption
          go_cut [7, 8] (fun v7 v8 W => ∃ bit : Bool, v7 = .bool bit ∧ v8 = .bool bit ∧ PK w W o m B (k + 1))
          case first =>
            by_cases h5 : kd = 5
            · subst h5
              go_wp2_with fail
              refine (giveup_any P4.V).mono ?_
              rintro e w5 ⟨rfl, V5, F5⟩
              have A5 := P4.after F5 (by simp)
              go_wp2_with (refine wpList_load_row rfl 58 _ rfl B rfl 58 _ (0, 0) _ A5.blk.h Try.underlying58 rfl (by kernel_rfl) ?_)
              refine (rlack_any kh sh L.length S.length k0 n0 3 0 _).mono ?_
              rintro e w6 ⟨rfl, hb6⟩
              have A6 := A5.under hb6
              have P6 := PS.store A6.b (V5.under hb6) A6.blk A6.kn A6.sp P4.node P4.ll P4.sl P4.ge
              go_wp2_with (refine wpList_store_row rfl 58 _ _ rfl B _ rfl rfl 58 _ A6.blk.h (by kernel_rfl) (by rfl) (by kernel_rfl) ?_)
              go_meet
              exact ⟨true, rfl, rfl, ⟨L, a, c, S, _, _, kh, sh, P6, by omega, by omega⟩⟩
            · by_cases h6 : kd = 6
              · subst h6
                clear h5
                go_wp2_with fail
                refine (again_any P4.V).mono ?_
                rintro e w5 ⟨rfl, V5, F5⟩
                have A5 := P4.after F5 (by simp)
                have f2 := A5.blk.free 2
                have f3 := A5.blk.free 3
                have b2 := A5.blk.at 2 rfl
                have b3 := A5.blk.at 3 rfl
                have P6 := PS.need A5 0 0 V5 P4.node P4.ll P4.sl P4.ge
                go_wp2_with fail
                go_meet
                exact ⟨true, rfl, rfl, ⟨L, a, c, S, _, _, kh, sh, P6, by omega, by omega⟩⟩
              · by_cases h2 : kd = 2
                · subst h2
                  clear h5 h6
                  have x1 := BX4.at 1 rfl
                  go_wp2_with fail
                  refine (forget_any P4.V n ⟨hi1.1, hi1.2⟩).mono ?_
                  rintro e w5 ⟨rfl, V5, F5⟩
                  have A5 := P4.after F5 (by simp)
                  have BX5 := F5.blk BX4 (fun h => hXA (by simp only [List.mem_cons, List.not_mem_nil, or_false] at h; subst h; simp))
                  have x5 := BX5.at 1 rfl
                  clear x1
                  go_wp2_with (refine wpList_load_row rfl 58 _ rfl B rfl 58 _ (0, 0) _ A5.blk.h Try.underlying58 rfl (by kernel_rfl) ?_)
                  refine (rfind_any (A5.rv P4.rv) k0 n0 n).mono ?_
                  rintro e w6 ⟨r, rfl, hr, hb6⟩
                  have hE := Lib.hid (found_has hr)
                  clear hr x5
                  have A6 := A5.under hb6
                  have x6 := (BX5.below hb6).at 1 rfl
                  go_wp2_with (refine wpList_load_row rfl 58 _ rfl B rfl 58 _ (0, 0) _ A6.blk.h Try.underlying58 rfl (by kernel_rfl) ?_)
                  refine (rforget_any (A6.rv P4.rv) k0 n0 n).mono ?_
                  rintro e w7 ⟨a7, c7, rfl, hb7, O7⟩
                  have A7 := A6.under hb7
                  have hz6 := Nat.le_trans F5.size hb6.size
                  have hll := knDel_le L n
                  have P7 := PS.store A7.b ((V5.under hb6).under hb7) A7.blk (own_avo O7 (by decide) (fun _ _ h => h) (fun b hb => Nat.lt_of_lt_of_le (P4.old b hb) hz6)) A7.sp (fun p hp => P4.node p (List.mem_filter.1 hp).1) (Nat.le_trans hll P4.ll) P4.sl P4.ge
                  go_wp2_with (refine wpList_store_row rfl 58 _ _ rfl B _ rfl rfl 58 _ A7.blk.h (by kernel_rfl) (by rfl) (by kernel_rfl) ?_)
                  go_meet
                  exact ⟨_, rfl, by rw [hE.out], ⟨knDel L n, a, c, S, _, _, ⟨a7, c7⟩, sh, P7, by omega, by omega⟩⟩
                · by_cases h4 : kd = 4
                  · subst h4
                    clear h5 h6 h2
                    obtain ⟨hbb, BS, BK⟩ := two_boxes wc sz 60
                    have Z0 := (P4.opened [wc.heap.size, wc.heap.size + 1] two_free).under hbb
                    have BX5 := BX4.below hbb
                    have x1 := BX5.at 1 rfl
                    have hXz : X ∉ [wc.heap.size, wc.heap.size + 1] := fun h => by simp at h; omega
                    by_cases hm : cellB n = true ∧ n < (S.length : Int)
                    · obtain ⟨i, rfl⟩ : ∃ i : Nat, n = i := ⟨n.toNat, by have := hm.1; simp [cellB] at this; omega⟩
                      have hi : i < S.length := by omega
                      clear hm
                      go_wp2_with fail
                      generalize (wc.alloc (.cells sz 60)).alloc (.cells sz 60) = w5 at hbb BS BK Z0 BX5 x1 ⊢
                      refine (take_hit Z0.V i hi P4.sl).mono ?_
                      rintro e w6 ⟨rfl, hb6⟩
                      have Z1 := Z0.under hb6
                      have BX6 := BX5.below hb6
                      have BS6 := BS.below hb6
                      have BK6 := BK.below hb6
                      clear x1 hbb hb6 BS BK BX5 Z0
                      have Z2 := Z1.row (s := wc.heap.size) (by simp) #[.int .i64 S[i].1, .int .u64 S[i].2]
                      have BX7 := Blk.rowFar BX6 (s := wc.heap.size) (by omega) #[.int .i64 S[i].1, .int .u64 S[i].2]
                      have BS7 := Blk.row BS6 #[.int .i64 S[i].1, .int .u64 S[i].2]
                      have BK7 := Blk.rowFar BK6 (s := wc.heap.size) (by omega) #[.int .i64 S[i].1, .int .u64 S[i].2]
                      have x1 := BX7.at 1 rfl
                      go_wp2_with (first
                        | (refine wpList_store_row rfl 60 _ _ rfl wc.heap.size _ rfl rfl 60 _ BS6.h (by kernel_rfl) (by rfl) (by kernel_rfl) ?_)
                        | (refine wpList_load_row rfl 58 _ rfl B rfl 58 _ (0, 0) _ Z2.blk.h Try.underlying58 rfl (by kernel_rfl) ?_))
                      clear Z1 BX6 BS6 BK6 x1
                      generalize w6.setRow wc.heap.size #[.int .i64 S[i].1, .int .u64 S[i].2] = w7 at Z2 BX7 BS7 BK7 ⊢
                      refine (rtake_hit Z2.rv k0 n0 i hi).mono ?_
                      rintro e w8 ⟨rfl, hb8⟩
                      have Z3 := Z2.under hb8
                      have BS8 := BS7.below hb8
                      have BK8 := BK7.below hb8
                      have Z4 := Z3.ref k0 n0
                      have hBz := (Z3.z (wc.heap.size) (by simp)).2.2.2.1
                      have hBz1 := (Z3.z (wc.heap.size + 1) (by simp)).2.2.2.1
                      have BS9 := Blk.rowFar BS8 hBz (rvA kh sh L.length S.length k0 n0)
                      have BK9 := Blk.rowFar BK8 hBz1 (rvA kh sh L.length S.length k0 n0)
                      have Z5 := Z4.row (s := wc.heap.size + 1) (by simp) #[.int .i64 S[i].1, .int .u64 S[i].2]
                      have BK10 := Blk.row BK9 #[.int .i64 S[i].1, .int .u64 S[i].2]
                      have BS10 := Blk.rowFar BS9 (s := wc.heap.size + 1) (by omega) #[.int .i64 S[i].1, .int .u64 S[i].2]
                      clear BX7 hb8 Z2 BS7 BK7 BS8
                      go_wp2_with (first
                        | (refine wpList_store_row rfl 58 _ _ rfl B _ rfl rfl 58 _ Z3.blk.h (by kernel_rfl) (by rfl) (by kernel_rfl) ?_)
                        | (refine wpList_store_row rfl 60 _ _ rfl (wc.heap.size + 1) _ rfl rfl 60 _ BK9.h (by kernel_rfl) (by rfl) (by kernel_rfl) ?_)
                        | (refine wpList_load_row rfl 60 _ rfl wc.heap.size rfl 60 _ (0, 0) _ BS10.h Try.underlying60 rfl (by kernel_rfl) ?_)
                        | (refine wpList_load_row rfl 60 _ rfl (wc.heap.size + 1) rfl 60 _ (0, 0) _ BK10.h Try.underlying60 rfl (by kernel_rfl) ?_))
                      go_meet
                      exact ⟨true, rfl, rfl, ⟨L, a, c, S, _, _, kh, sh, Z5.closed, by omega, by omega⟩⟩
                    · have hm' : cellB n = false ∨ (S.length : Int) ≤ n := by
                        cases hc : cellB n
                        · exact .inl rfl
                        · exact .inr (Int.not_lt.1 fun h => hm ⟨hc, h⟩)
                      clear hm
                      go_wp2_with fail
                      generalize (wc.alloc (.cells sz 60)).alloc (.cells sz 60) = w5 at hbb BS BK Z0 BX5 x1 ⊢
                      refine (take_miss Z0.V n hm' P4.sl).mono ?_
                      rintro e w6 ⟨rfl, V6, F6⟩
                      have Z1 := Z0.call F6 V6
                      have hso := (Z0.z (wc.heap.size) (by simp)).2.1
                      have hso1 := (Z0.z (wc.heap.size + 1) (by simp)).2.1
                      have BX6 := F6.blk BX5 (fun h => hXA (by simp only [List.mem_cons, List.not_mem_nil, or_false] at h; subst h; simp))
                      have BS6 := F6.blk BS (by simpa using hso)
                      have BK6 := F6.blk BK (by simpa using hso1)
                      clear x1 hbb BS BK BX5 Z0 V6 F6
                      have Z2 := Z1.row (s := wc.heap.size) (by simp) sz
                      have BX7 := Blk.rowFar BX6 (s := wc.heap.size) (by omega) sz
                      have BS7 := Blk.row BS6 sz
                      have BK7 := Blk.rowFar BK6 (s := wc.heap.size) (by omega) sz
                      have x1 := BX7.at 1 rfl
                      go_wp2_with (first
                        | (refine wpList_store_row rfl 60 _ _ rfl wc.heap.size _ rfl rfl 60 _ BS6.h (by kernel_rfl) (by rfl) (by kernel_rfl) ?_)
                        | (refine wpList_load_row rfl 58 _ rfl B rfl 58 _ (0, 0) _ Z2.blk.h Try.underlying58 rfl (by kernel_rfl) ?_))
                      clear Z1 BX6 BS6 BK6 x1
                      generalize w6.setRow wc.heap.size sz = w7 at Z2 BX7 BS7 BK7 ⊢
                      refine (rtake_miss Z2.rv k0 n0 n hm').mono ?_
                      rintro e w8 ⟨rfl, hb8⟩
                      have Z3 := Z2.under hb8
                      have BS8 := BS7.below hb8
                      have BK8 := BK7.below hb8
                      have Z4 := Z3.ref (tmissK k0 n) (tmissN k0 n0 n)
                      have hBz := (Z3.z (wc.heap.size) (by simp)).2.2.2.1
                      have hBz1 := (Z3.z (wc.heap.size + 1) (by simp)).2.2.2.1
                      have BS9 := Blk.rowFar BS8 hBz (rvA kh sh L.length S.length (tmissK k0 n) (tmissN k0 n0 n))
                      have BK9 := Blk.rowFar BK8 hBz1 (rvA kh sh L.length S.length (tmissK k0 n) (tmissN k0 n0 n))
                      have Z5 := Z4.row (s := wc.heap.size + 1) (by simp) sz
                      have BK10 := Blk.row BK9 sz
                      have BS10 := Blk.rowFar BS9 (s := wc.heap.size + 1) (by omega) sz
                      clear BX7 hb8 Z2 BS7 BK7 BS8
                      go_wp2_with (first
                        | (refine wpList_store_row rfl 58 _ _ rfl B _ rfl rfl 58 _ Z3.blk.h (by kernel_rfl) (by rfl) (by kernel_rfl) ?_)
                        | (refine wpList_store_row rfl 60 _ _ rfl (wc.heap.size + 1) _ rfl rfl 60 _ BK9.h (by kernel_rfl) (by rfl) (by kernel_rfl) ?_)
                        | (refine wpList_load_row rfl 60 _ rfl wc.heap.size rfl 60 _ (0, 0) _ BS10.h Try.underlying60 rfl (by kernel_rfl) ?_)
                        | (refine wpList_load_row rfl 60 _ rfl (wc.heap.size + 1) rfl 60 _ (0, 0) _ BK10.h Try.underlying60 rfl (by kernel_rfl) ?_))
                      go_meet
                      exact ⟨false, rfl, rfl, ⟨L, a, c, S, _, _, kh, sh, Z5.closed, by omega, by omega⟩⟩
                  · by_cases h3 : kd = 3
                    · subst h3
                      clear h5 h6 h2 h4
                      obtain ⟨hbb, BS, BK⟩ := two_boxes wc kz 53
                      have Z0 := (P4.opened [wc.heap.size, wc.heap.size + 1] two_free).under hbb
                      have BX5 := BX4.below hbb
                      have x1 := BX5.at 1 rfl
                      obtain ⟨qn, yn, hcs, hnd⟩ := P4.found n
                      go_wp2_with fail
                      generalize (wc.alloc (.cells kz 53)).alloc (.cells kz 53) = w5 at hbb BS BK Z0 BX5 x1 ⊢
                      refine (at_all Z0.V n ⟨hi1.1, hi1.2⟩).mono ?_
                      rintro e w6 ⟨rfl, V6, F6⟩
                      rw [hcs]
                      have Z1 := Z0.call F6 V6
                      have hso := (Z0.z (wc.heap.size) (by simp)).2.1
                      have hso1 := (Z0.z (wc.heap.size + 1) (by simp)).2.1
                      have BX6 := F6.blk BX5 (fun h => hXA (by simp only [List.mem_cons, List.not_mem_nil, or_false] at h; subst h; simp))
                      have BS6 := F6.blk BS (by simpa using hso)
                      have BK6 := F6.blk BK (by simpa using hso1)
                      clear x1 hbb BS BK BX5 Z0 V6 F6
                      have Z2 := Z1.row (s := wc.heap.size) (by simp) (knA qn yn)
                      have BX7 := Blk.rowFar BX6 (s := wc.heap.size) (by omega) (knA qn yn)
                      have BS7 := Blk.row BS6 (knA qn yn)
                      have BK7 := Blk.rowFar BK6 (s := wc.heap.size) (by omega) (knA qn yn)
                      have x1 := BX7.at 1 rfl
                      go_wp2_with (first
                        | (refine wpList_store_row rfl 53 _ _ rfl wc.heap.size _ rfl rfl 53 _ BS6.h (by kernel_rfl) (by rfl) (by kernel_rfl) ?_)
                        | (refine wpList_load_row rfl 58 _ rfl B rfl 58 _ (0, 0) _ Z2.blk.h Try.underlying58 rfl (by kernel_rfl) ?_))
                      clear Z1 BX6 BS6 BK6 x1
                      generalize w6.setRow wc.heap.size (knA qn yn) = w7 at Z2 BX7 BS7 BK7 ⊢
                      refine (rat_all Z2.rv k0 n0 n).mono ?_
                      rintro e w8 ⟨rfl, hb8⟩
                      rw [hcs]
                      have Z3 := Z2.under hb8
                      have BS8 := BS7.below hb8
                      have BK8 := BK7.below hb8
                      have Z4 := Z3.ref (atK L k0 n) (atN L k0 n0 n)
                      have hBz := (Z3.z (wc.heap.size) (by simp)).2.2.2.1
                      have hBz1 := (Z3.z (wc.heap.size + 1) (by simp)).2.2.2.1
                      have BS9 := Blk.rowFar BS8 hBz (rvA kh sh L.length S.length (atK L k0 n) (atN L k0 n0 n))
                      have BK9 := Blk.rowFar BK8 hBz1 (rvA kh sh L.length S.length (atK L k0 n) (atN L k0 n0 n))
                      have Z5 := Z4.row (s := wc.heap.size + 1) (by simp) (knA qn yn)
                      have BK10 := Blk.row BK9 (knA qn yn)
                      have BS10 := Blk.rowFar BS9 (s := wc.heap.size + 1) (by omega) (knA qn yn)
                      clear BX7 hb8 Z2 BS7 BK7 BS8
                      have s0 := BS10.at 0 rfl
                      have s1 := BS10.at 1 rfl
                      have s2 := BS10.at 2 rfl
                      have y0 := BK10.at 0 rfl
                      have y1 := BK10.at 1 rfl
                      have y2 := BK10.at 2 rfl
                      generalize (knAt L n).isSome = bit
                      go_wp2_with (first
                        | (refine wpList_store_row rfl 58 _ _ rfl B _ rfl rfl 58 _ Z3.blk.h (by kernel_rfl) (by rfl) (by kernel_rfl) ?_)
                        | (refine wpList_store_row rfl 53 _ _ rfl (wc.heap.size + 1) _ rfl rfl 53 _ BK9.h (by kernel_rfl) (by rfl) (by kernel_rfl) ?_)
                        | (refine wpList_load_midw (by rfl) 26 _ rfl wc.heap.size 3 rfl (nodeA qn yn.2.2.2.1).toList _ (kn_node BS10) Try.underlying26 rfl (by kernel_rfl) ?_)
                        | (refine wpList_load_midw (by rfl) 26 _ rfl (wc.heap.size + 1) 3 rfl (nodeA qn yn.2.2.2.1).toList _ (kn_node BK10) Try.underlying26 rfl (by kernel_rfl) ?_))
                      refine (same10_any [] [] qn qn yn.2.2.2.1 yn.2.2.2.1 _ (hnd.keep (Keeps.of_below Z5.b)) (hnd.keep (Keeps.of_below Z5.b))).mono ?_
                      rw [decide_eq_true (rfl : yn.2.2.2.1 = yn.2.2.2.1)]
                      rintro e w9 ⟨rfl, hb9⟩
                      have P9 := Z5.closed.under hb9
                      go_wp2_with fail
                      go_meet
                      exact ⟨bit, rfl, rfl, ⟨L, a, c, S, _, _, kh, sh, P9, by omega, by omega⟩⟩
                    · by_cases h1 : kd = 1
                      · subst h1
                        clear h5 h6 h2 h4 h3
                        have x2 := BX4.at 2 rfl
                        have x4 := BX4.at 4 rfl
                        have hb5 : Below wc.heap.size wc (wc.alloc (.cells #[.int .i64 y.1, .int .u64 y.2.2.1] 60)) := (Below.refl _ _).alloc (Nat.le_refl _) _
                        have P5 := P4.under hb5
                        have BS5 := Blk.new wc #[.int .i64 y.1, .int .u64 y.2.2.1] 60
                        obtain ⟨s, hs⟩ : ∃ s, s = wc.heap.size := ⟨_, rfl⟩
                        have hsA : s ∉ avo o m B a := fun h => by have := P4.old s h; omega
                        go_upto_region 17 with (first
                          | (refine wpList_store_row rfl 60 _ _ rfl _ _ rfl rfl 60 _ (Blk.new wc _ _).h (by kernel_rfl) (by rfl) (by kernel_rfl) ?_; rw [World.setRow_alloc_new]))
                        rw [← hs] at BS5 ⊢
                        replace hs := Lib.hid hs
                        clear hb5 x2 x4
                        generalize wc.alloc (.cells #[.int .i64 y.1, .int .u64 y.2.2.1] 60) = w5 at BS5 P5 ⊢
                        cases hc : cellB y.1 && !spHas S y.1
                        · replace hc := Lib.hid hc
                          go_wp2_with (refine wpList_load_row rfl 60 _ rfl s rfl 60 _ (0, 0) _ BS5.h Try.underlying60 rfl (by kernel_rfl) ?_)
                          refine (vspare_no P5.V y.1 y.2.2.1 P5.sl hc.out).mono ?_
                          rintro e w6 ⟨rfl, hb6⟩
                          have P6 := P5.under hb6
                          have BS6 := BS5.below hb6
                          go_wp2_with (first
                            | (refine wpList_load_row rfl 58 _ rfl B rfl 58 _ (0, 0) _ P6.blk.h Try.underlying58 rfl (by kernel_rfl) ?_)
                            | (refine wpList_load_row rfl 60 _ rfl s rfl 60 _ (0, 0) _ BS6.h Try.underlying60 rfl (by kernel_rfl) ?_))
                          refine (rspare_no P6.rv k0 n0 y.1 y.2.2.1 hok.cell hok.ver hc.out).mono ?_
                          rintro e w7 ⟨rfl, hb7⟩
                          have P7 := P6.under hb7
                          have P8 := PS.store P7.b P7.V P7.blk P7.kn P7.sp P7.node P7.ll P7.sl P7.ge
                          go_wp2_with (refine wpList_store_row rfl 58 _ _ rfl B _ rfl rfl 58 _ P7.blk.h (by kernel_rfl) (by rfl) (by kernel_rfl) ?_)
                          go_meet
                          exact ⟨false, rfl, rfl, ⟨L, a, c, S, _, _, kh, sh, P8, by omega, by omega⟩⟩
                        · replace hc := Lib.hid hc
                          go_wp2_with (refine wpList_load_row rfl 60 _ rfl s rfl 60 _ (0, 0) _ BS5.h Try.underlying60 rfl (by kernel_rfl) ?_)
                          refine (vspare_yes P5.V y.1 y.2.2.1 P5.sl hc.out).mono ?_
                          rintro e w6 ⟨a6, c6, rfl, V6, F6, hg6⟩
                          obtain ⟨A6, hB6⟩ := P5.spared F6 hg6
                          have BS6 := F6.blk BS5 (fun h => hsA (by
                            simp only [List.mem_cons] at h ⊢
                            rcases h with e | e
                            · exact .inl e
                            · exact .inr (.inr (.inr e))))
                          go_wp2_with (first
                            | (refine wpList_load_row rfl 58 _ rfl B rfl 58 _ (0, 0) _ A6.blk.h Try.underlying58 rfl (by kernel_rfl) ?_)
                            | (refine wpList_load_row rfl 60 _ rfl s rfl 60 _ (0, 0) _ BS6.h Try.underlying60 rfl (by kernel_rfl) ?_))
                          refine (rspare_yes (A6.rv P5.rv) k0 n0 y.1 y.2.2.1 hok.cell hok.ver hc.out).mono ?_
                          rintro e w7 ⟨a7, c7, rfl, hb7, O7⟩
                          have A7 := A6.under hb7
                          have hz6 : ∀ b ∈ avo o m B a6, b < w6.heap.size := fun b hb => by
                            obtain ⟨h1, h2, h3⟩ := V6.lts
                            simp only [List.mem_cons] at hb
                            rcases hb with e | e | e | e
                            · omega
                            · omega
                            · rw [e]; exact A6.blk.lt
                            · exact h3 b (own_ob e)
                          have P7 := PS.store (kh := kh) (sh := ⟨a7, c7⟩) A7.b (V6.under hb7) A7.blk A7.kn (own_avo O7 (by decide) (fun _ _ h => sp_any h) hz6) P5.node P5.ll (by rw [List.length_append]; simp; omega) ⟨P5.ge.1, P5.ge.2.1, P5.ge.2.2.1, hB6⟩
                          rw [show (S ++ [(y.1, y.2.2.1)]).length = S.length + 1 by rw [List.length_append]; rfl] at P7
                          go_wp2_with (refine wpList_store_row rfl 58 _ _ rfl B _ rfl rfl 58 _ A7.blk.h (by kernel_rfl) (by rfl) (by kernel_rfl) ?_)
                          go_meet
                          exact ⟨true, rfl, rfl, ⟨L, a6, _, _, _, _, kh, ⟨a7, c7⟩, P7, by omega, by rw [List.length_append]; simp; omega⟩⟩
                      · by_cases h0 : kd = 0
                        · subst h0
                          clear h1 h2 h3 h4 h5 h6
                          cases hc : cellB y.1
                          · replace hc := Lib.hid hc
                            go_wp2_with (refine wpList_load_mid rfl 53 _ rfl X 2 rfl (knA q y).toList _ (act_kn BX4) Try.underlying53 rfl (by kernel_rfl) ?_)
                            refine (learn_out P4.V y.1 (knA q y) rfl hc.out).mono ?_
                            rintro e w5 ⟨rfl, hb5⟩
                            have P5 := P4.under hb5
                            have BX5 := BX4.below hb5
                            go_wp2_with (first
                              | (refine wpList_load_row rfl 58 _ rfl B rfl 58 _ (0, 0) _ P5.blk.h Try.underlying58 rfl (by kernel_rfl) ?_)
                              | (refine wpList_load_mid rfl 53 _ rfl X 2 rfl (knA q y).toList _ (act_kn BX5) Try.underlying53 rfl (by kernel_rfl) ?_))
                            refine (rlearn_out (L := L) (S := S) k0 n0 y.1 _ _ _ _ _ _ _ _ _ _ hc.out).mono ?_
                            rintro e w6 ⟨rfl, hb6⟩
                            have P6 := P5.under hb6
                            have P7 := PS.store P6.b P6.V P6.blk P6.kn P6.sp P6.node P6.ll P6.sl P6.ge
                            go_wp2_with (refine wpList_store_row rfl 58 _ _ rfl B _ rfl rfl 58 _ P6.blk.h (by kernel_rfl) (by rfl) (by kernel_rfl) ?_)
                            go_meet
                            exact ⟨false, rfl, rfl, ⟨L, a, c, S, _, _, kh, sh, P7, by omega, by omega⟩⟩
                          · replace hc := Lib.hid hc
                            go_wp2_with (refine wpList_load_mid rfl 53 _ rfl X 2 rfl (knA q y).toList _ (act_kn BX4) Try.underlying53 rfl (by kernel_rfl) ?_)
                            refine (learn_any P4.V y.1 (knA q y) rfl (knA_one q y) hc.out (by omega)).mono ?_
                            rintro e w5 ⟨rfl, V5, F5⟩
                            have A5 := P4.after F5 (by simp)
                            have BX5 := F5.blk BX4 (fun h => hXA (by simp only [List.mem_cons, List.not_mem_nil, or_false] at h; subst h; simp))
                            go_wp2_with (first
                              | (refine wpList_load_row rfl 58 _ rfl B rfl 58 _ (0, 0) _ A5.blk.h Try.underlying58 rfl (by kernel_rfl) ?_)
                              | (refine wpList_load_mid rfl 53 _ rfl X 2 rfl (knA q y).toList _ (act_kn BX5) Try.underlying53 rfl (by kernel_rfl) ?_))
                            refine (rlearn_any (A5.rv P4.rv) k0 n0 y.1 _ _ _ _ _ _ _ _ _ _ (knA_one q y).2 hc.out).mono ?_
                            rintro e w7 ⟨a7, c7, rfl, hb7, O7⟩
                            have A7 := A5.under hb7
                            have hz6 := F5.size
                            have hll := knDel_le L y.1
                            have hl1 : (knDel L y.1 ++ [(y.1, knA q y)]).length ≤ k + 1 := by rw [List.length_append]; simp; omega
                            have P7 := PS.store A7.b (V5.under hb7) A7.blk (own_avo O7 (by decide) (fun _ _ h => h) (fun b hb => Nat.lt_of_lt_of_le (P4.old b hb) hz6)) A7.sp (fun p hp => by
                              rcases List.mem_append.1 hp with h | h
                              · exact P4.node p (List.mem_filter.1 h).1
                              · obtain rfl := List.mem_singleton.1 h
                                exact ⟨q, y, rfl, rfl, hok, hc.out⟩) (by omega) P4.sl P4.ge
                            rw [show (knDel L y.1 ++ [(y.1, knA q y)]).length = (knDel L y.1).length + 1 by rw [List.length_append]; rfl] at P7
                            go_wp2_with (refine wpList_store_row rfl 58 _ _ rfl B _ rfl rfl 58 _ A7.blk.h (by kernel_rfl) (by rfl) (by kernel_rfl) ?_)
                            go_meet
                            exact ⟨true, rfl, rfl, ⟨_, a, c, S, _, _, ⟨a7, c7⟩, sh, P7, hl1, by omega⟩⟩
                        · have e0 : (kd == 0) = false := by simpa using h0
                          have e1 : (kd == 1) = false := by simpa using h1
                          have e2 : (kd == 2) = false := by simpa using h2
                          have e3 : (kd == 3) = false := by simpa using h3
                          have e4 : (kd == 4) = false := by simpa using h4
                          have e5 : (kd == 5) = false := by simpa using h5
                          have e6 : (kd == 6) = false := by simpa using h6
                          clear h0 h1 h2 h3 h4 h5 h6
                          go_wp2_with fail
                          go_meet
                          exact ⟨true, rfl, rfl, ⟨L, a, c, S, _, _, kh, sh, P4, by omega, by omega⟩⟩
          case rest =>
            obtain ⟨bit, rfl, rfl, ⟨L2, a2, c2, S2, k2, n2, kh2, sh2, P, hL2, hS2⟩⟩ := hcut
            have hbb : (bit != bit) = false := by cases bit <;> rfl
            have b0 := P.blk.at 0 rfl
            have b1 := P.blk.at 1 rfl
            have b2 := P.blk.at 2 rfl
            have b3 := P.blk.at 3 rfl
            apply_assumption
            go_wp2_with fail
            refine (like_any P.V P.rv P.cells).mono ?_
            rintro e w6 ⟨rfl, hb6⟩
            go_wp2_with fail
            go_roundg (xs.length - (k + 1))
            case measure => omega
            case rel => exact ⟨k + 1, by omega, by omega, by go_num, ⟨L2, a2, c2, S2, k2, n2, kh2, sh2, P.under hb6, hL2, hS2⟩⟩
    · obtain rfl : k = xs.length := by omega
      go_wp2_with fail
      refine (fLives_any _).mono ?_
      rintro e w5 ⟨rfl, hb5⟩
      go_wp2_with fail
      go_ret
      exact ⟨rfl, below_push2 P.b hb5 (Nat.le_refl _)⟩
end Go.Proofs.Ytbemgfpnoeogdaa.FoP
