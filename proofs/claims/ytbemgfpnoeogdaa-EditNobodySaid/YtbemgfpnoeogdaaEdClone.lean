/-
  node.Clone of any node: contract.
-/
import Derived.Test.YtbemgfpnoeogdaaEdCopy
namespace Go.Proofs.Ytbemgfpnoeogdaa.Dp
open Go.RowKit RefP FoP
set_option linter.unusedVariables false
set_option linter.unusedSimpArgs false
abbrev ndZ : Array Value := #[.int .i64 0, .string ⟨#[]⟩, .string ⟨#[]⟩, .bool false, .int .i64 0, .slice none 0 0, .slice none 0 0, .slice none 0 0]
theorem splice_all' {α : Type} (L cs : List α) (h : L.length = cs.length) : splice L 0 cs = cs := by simp [splice, ← h]
/-- what makes three rows leaves -/
structure Made3 (w0 w w' : World) (h : NodeH) (x : NodeV) (b1 b2 b3 : Nat) : Prop where
  below : Below w0.heap.size w0 w'
  n : Blk w' w0.heap.size (nodeA h x) 26
  r : Blk w' (w0.heap.size + 1) ndZ 26
  k : Blk w' b1 (zrow (.string ⟨#[]⟩) x.keys.length) 9
  v : Blk w' b2 (zrow (.int .u64 0) x.vals.length) 51
  d : Blk w' b3 (zrow (.int .i64 0) x.kids.length) 3
  ge : w0.heap.size + 2 ≤ b1 ∧ w0.heap.size + 2 ≤ b2 ∧ w0.heap.size + 2 ≤ b3
  ne : b1 ≠ b2 ∧ b1 ≠ b3 ∧ b2 ≠ b3
set_option maxRecDepth 100000 in
set_option maxHeartbeats 3200000 in
theorem nclone_any (S : List Nat) (h : NodeH) (x : NodeV) (w : World) (H : NodeOk w S h x) (hk : x.keys.length ≤ 1000) (hv : x.vals.length ≤ 1000) (hd : x.kids.length ≤ 1000) :
    Calls Try.prog 45 #[.agg (nodeA h x)] w fun e w' => (∃ h', e = .returned (.agg (nodeA h' x)) ∧ NodeOk w' (List.range w.heap.size) h' x) ∧ Below w.heap.size w w' := by
  have hb0 : Below w.heap.size w ((w.alloc (.cells (nodeA h x) 26)).alloc (.cells ndZ 26)) := by (repeat (first | exact Below.refl _ _ | assumption | refine below_alloc2 ?_ (by first | exact Nat.le_refl _ | omega) _ | refine Below.drew ?_ | refine below_drewN ?_ _ | refine below_push2 ?_ ‹_› (by first | exact Nat.le_refl _ | omega) | refine Below.setCell ?_ (by first | (simp; done) | (simp; omega) | omega) _))
  have BN := (Blk.new w (nodeA h x) 26).alloc (.cells ndZ 26)
  have BR : Blk ((w.alloc (.cells (nodeA h x) 26)).alloc (.cells ndZ 26)) (w.heap.size + 1) ndZ 26 := by
    have := Blk.new (w.alloc (.cells (nodeA h x) 26)) ndZ 26
    simpa using this
  have m1 := mk_u (P := Try.prog) 22 9 _ _ Try.underlying22 infoS (by simp [Value.cells]) x.keys.length (by omega) (by omega)
  have m2 := mk_u (P := Try.prog) 23 51 _ _ Try.underlying23 infoU (by simp [Value.cells]) x.vals.length (by omega) (by omega)
  have m3 := mk_u (P := Try.prog) 24 3 _ _ Try.underlying24 infoI (by simp [Value.cells]) x.kids.length (by omega) (by omega)
  have hs : ((w.alloc (.cells (nodeA h x) 26)).alloc (.cells ndZ 26)).heap.size = w.heap.size + 2 := by simp
  go_enter Try.func45, Try.ntmps45
  go_wp2_with fail
  generalize ((w.alloc (.cells (nodeA h x) 26)).alloc (.cells ndZ 26)) = w1 at hb0 BN BR hs ⊢
  have c5 := BN.at 5 rfl
  have c6 := BN.at 6 rfl
  have c7 := BN.at 7 rfl
  go_upto_region 1 with (fail)
  have f1 : ∀ (c : Array Value) (T : TypeId) (Y Z : Obj), Blk (((w1.alloc (.cells c T)).alloc Y).alloc Z).drew (w.heap.size + 2) c T := fun c T Y Z => by
    have := (((Blk.new w1 c T).alloc Y).alloc Z).drew
    rwa [hs] at this
  have f2 : ∀ (c : Array Value) (T : TypeId) (Y Z : Obj), Blk (((w1.alloc Y).alloc (.cells c T)).alloc Z).drew (w.heap.size + 2 + 1) c T := fun c T Y Z => by
    have := ((Blk.new (w1.alloc Y) c T).alloc Z).drew
    rwa [World.size_alloc, hs] at this
  have f3 : ∀ (c : Array Value) (T : TypeId) (Y Z : Obj), Blk (((w1.alloc Y).alloc Z).alloc (.cells c T)).drew (w.heap.size + 2 + 1 + 1) c T := fun c T Y Z => by
    have := (Blk.new ((w1.alloc Y).alloc Z) c T).drew
    rwa [World.size_alloc, World.size_alloc, hs] at this
  go_cut [3, 4, 5] (fun u3 u4 u5 wx => ∃ b1 b2 b3, u3 = hd1 b1 x.keys.length ∧ u4 = hd1 b2 x.vals.length ∧ u5 = hd1 b3 x.kids.length ∧ Made3 w w1 wx h x b1 b2 b3)
  case first =>
    go_region_held (fun w' => w'.cell? ⟨w.heap.size, 5, none⟩ = some (.slice h.keys.a x.keys.length h.keys.c) ∧ w'.cell? ⟨w.heap.size, 6, none⟩ = some (.slice h.vals.a x.vals.length h.vals.c) ∧ w'.cell? ⟨w.heap.size, 7, none⟩ = some (.slice h.kids.a x.kids.length h.kids.c)) (first | exact ⟨BN.drew.at 5 rfl, BN.drew.at 6 rfl, BN.drew.at 7 rfl⟩ | exact ⟨(BN.alloc _).drew.at 5 rfl, (BN.alloc _).drew.at 6 rfl, (BN.alloc _).drew.at 7 rfl⟩ | exact ⟨((BN.alloc _).alloc _).drew.at 5 rfl, ((BN.alloc _).alloc _).drew.at 6 rfl, ((BN.alloc _).alloc _).drew.at 7 rfl⟩ | exact ⟨(((BN.alloc _).alloc _).alloc _).drew.at 5 rfl, (((BN.alloc _).alloc _).alloc _).drew.at 6 rfl, (((BN.alloc _).alloc _).alloc _).drew.at 7 rfl⟩) (fail)
    all_goals
      go_wp2_with fail
      go_meet
      refine ⟨_, _, _, rfl, rfl, rfl, (((hb0.alloc (by omega) _).alloc (by simp; omega) _).alloc (by simp; omega) _).drew, (((BN.alloc _).alloc _).alloc _).drew, (((BR.alloc _).alloc _).alloc _).drew, ?_, ?_, ?_, ⟨by omega, by omega, by omega⟩, ⟨by omega, by omega, by omega⟩⟩ <;>
        first
          | exact f1 _ _ _ _
          | exact f2 _ _ _ _
          | exact f3 _ _ _ _
  case rest =>
    obtain ⟨b1, b2, b3, rfl, rfl, rfl, M⟩ := hcut
    clear hb0 BN BR c5 c6 c7 hs m1 m2 m3 f1 f2 f3
    have c5 := M.n.at 5 rfl
    have c6 := M.n.at 6 rfl
    have c7 := M.n.at 7 rfl
    have hkk := Keeps.of_below (S := S) M.below
    have kH := H.keep hkk
    have z1 : (Try.prog.info? 9).map (·.size) = some 1 := by kernel_rfl
    have z2 : (Try.prog.info? 51).map (·.size) = some 1 := by kernel_rfl
    have z3 : (Try.prog.info? 3).map (·.size) = some 1 := by kernel_rfl
    have l1 : (zrow (.string ⟨#[]⟩) x.keys.length).toList.length = (x.keys.map Value.string).length := by simp [size_madeCells]
    have l2 : (zrow (.int .u64 0) x.vals.length).toList.length = (x.vals.map (Value.int .u64)).length := by simp [size_madeCells]
    have l3 : (zrow (.int .i64 0) x.kids.length).toList.length = (x.kids.map (Value.int .i64)).length := by simp [size_madeCells]
    have n1 : (x.keys.map Value.string).length = Nat.min x.keys.length x.keys.length := by simp
    have n2 : (x.vals.map (Value.int .u64)).length = Nat.min x.vals.length x.vals.length := by simp
    have n3 : (x.kids.map (Value.int .i64)).length = Nat.min x.kids.length x.kids.length := by simp
    have h1 : wc.heap[b1]? = some (.cells (zrow (.string ⟨#[]⟩) x.keys.length).toList.toArray 9 (0, 0)) := by simpa using M.k.h
    have hl := M.below.size
    obtain ⟨ge1, ge2, ge3⟩ := M.ge
    obtain ⟨ne1, ne2, ne3⟩ := M.ne
    go_upto_region 2 with (fail)
    go_upto_region 3 with (refine copy_fr (o := ⟨some _, _, _, _, _, _⟩) rfl _ _ 22 22 rfl 9 Try.underlying22 z1 _ _ _ _ _ _ (by rfl) (by rfl) b1 0 (zrow (.string ⟨#[]⟩) x.keys.length).toList 9 h1 (x.keys.map Value.string) n1 (fun h0 => ⟨rfl, src1 Value.string flat_str kH.keys h0⟩) (by omega) (fun v hv => by simp at hv; obtain ⟨s, _, rfl⟩ := hv; rfl) ?_; intro w2 hg2 hF2)
    have hg2' := hg2.out
    rw [splice_all' _ _ l1] at hg2'
    have BK : Blk w2 b1 (x.keys.map Value.string).toArray 9 := ⟨hg2'⟩
    have hB2 := hF2.below M.below (Nat.le_refl _) (by simp; omega)
    have N2 := hF2.blk M.n (by simp; omega)
    have R2 := hF2.blk M.r (by simp; omega)
    have V2 := hF2.blk M.v (by simp; omega)
    have D2 := hF2.blk M.d (by simp; omega)
    have kH2 := H.keep (Keeps.of_below (S := S) hB2)
    clear hg2 hg2' hF2 c5 c6 c7 kH hkk h1 M
    have h2 : w2.heap[b2]? = some (.cells (zrow (.int .u64 0) x.vals.length).toList.toArray 51 (0, 0)) := by simpa using V2.h
    have c6 := N2.at 6 rfl
    go_upto_region 4 with (refine copy_fr (o := ⟨some _, _, _, _, _, _⟩) rfl _ _ 23 23 rfl 51 Try.underlying23 z2 _ _ _ _ _ _ (by rfl) (by rfl) b2 0 (zrow (.int .u64 0) x.vals.length).toList 51 h2 (x.vals.map (Value.int .u64)) n2 (fun h0 => ⟨rfl, src1 (Value.int .u64) flat_u64 kH2.vals h0⟩) (by omega) (fun v hv => by simp at hv; obtain ⟨s, _, rfl⟩ := hv; rfl) ?_; intro w3 hg3 hF3)
    have hg3' := hg3.out
    rw [splice_all' _ _ l2] at hg3'
    have BV : Blk w3 b2 (x.vals.map (Value.int .u64)).toArray 51 := ⟨hg3'⟩
    have hB3 := hF3.below hB2 (Nat.le_refl _) (by simp; omega)
    have N3 := hF3.blk N2 (by simp; omega)
    have R3 := hF3.blk R2 (by simp; omega)
    have K3 := hF3.blk BK (by simp; omega)
    have D3 := hF3.blk D2 (by simp; omega)
    have kH3 := H.keep (Keeps.of_below (S := S) hB3)
    clear hg3 hg3' hF3 c6 kH2 h2 N2 R2 V2 D2 BK hB2
    have h3 : w3.heap[b3]? = some (.cells (zrow (.int .i64 0) x.kids.length).toList.toArray 3 (0, 0)) := by simpa using D3.h
    have c7 := N3.at 7 rfl
    go_upto_region 5 with (refine copy_fr (o := ⟨some _, _, _, _, _, _⟩) rfl _ _ 24 24 rfl 3 Try.underlying24 z3 _ _ _ _ _ _ (by rfl) (by rfl) b3 0 (zrow (.int .i64 0) x.kids.length).toList 3 h3 (x.kids.map (Value.int .i64)) n3 (fun h0 => ⟨rfl, src1 (Value.int .i64) flat_i64 kH3.kids h0⟩) (by omega) (fun v hv => by simp at hv; obtain ⟨s, _, rfl⟩ := hv; rfl) ?_; intro w4 hg4 hF4)
    have hg4' := hg4.out
    rw [splice_all' _ _ l3] at hg4'
    have D4 : Blk w4 b3 (x.kids.map (Value.int .i64)).toArray 3 := ⟨hg4'⟩
    have hB4 := hF4.below hB3 (Nat.le_refl _) (by simp; omega)
    have N4 := hF4.blk N3 (by simp; omega)
    have R4 := hF4.blk R3 (by simp; omega)
    have K4 := hF4.blk K3 (by simp; omega)
    have V4 := hF4.blk BV (by simp; omega)
    clear hg4 hg4' hF4 c7 kH3 h3 N3 R3 D3 K3 BV hB3
    have f5 := N4.free 5
    have f6 := N4.free 6
    have f7 := N4.free 7
    have c5 := N4.at 5 rfl
    have c6 := N4.at 6 rfl
    have c7 := N4.at 7 rfl
    generalize hh : (⟨⟨some ⟨b1, 0, none⟩, x.keys.length⟩, ⟨some ⟨b2, 0, none⟩, x.vals.length⟩, ⟨some ⟨b3, 0, none⟩, x.kids.length⟩⟩ : NodeH) = h'
    have BF : Blk (((w4.setCell ⟨w.heap.size, 5, none⟩ (hd1 b1 x.keys.length)).setCell ⟨w.heap.size, 6, none⟩ (hd1 b2 x.vals.length)).setCell ⟨w.heap.size, 7, none⟩ (hd1 b3 x.kids.length)) w.heap.size (nodeA h' x) 26 := by
      subst hh
      simpa [nodeA] using ((N4.set 5 (hd1 b1 x.keys.length)).set 6 (hd1 b2 x.vals.length)).set 7 (hd1 b3 x.kids.length)
    have far : ∀ {b : Nat} {cs : Array Value} {T : TypeId}, Blk w4 b cs T → b ≠ w.heap.size → Blk (((w4.setCell ⟨w.heap.size, 5, none⟩ (hd1 b1 x.keys.length)).setCell ⟨w.heap.size, 6, none⟩ (hd1 b2 x.vals.length)).setCell ⟨w.heap.size, 7, none⟩ (hd1 b3 x.kids.length)) b cs T := fun B hn =>
      ((B.far ⟨w.heap.size, 5, none⟩ _ hn).far ⟨w.heap.size, 6, none⟩ _ hn).far ⟨w.heap.size, 7, none⟩ _ hn
    have RF := far R4 (by omega)
    have KF := far K4 (by omega)
    have VF := far V4 (by omega)
    have DF := far D4 (by omega)
    have hbF := ((hB4.setCell (p := ⟨w.heap.size, 5, none⟩) (Nat.le_refl _) (hd1 b1 x.keys.length)).setCell (p := ⟨w.heap.size, 6, none⟩) (Nat.le_refl _) (hd1 b2 x.vals.length)).setCell (p := ⟨w.heap.size, 7, none⟩) (Nat.le_refl _) (hd1 b3 x.kids.length)
    go_wp2_with (first
      | (refine wpList_load_row rfl 26 _ rfl w.heap.size rfl 26 _ (0, 0) _ BF.h Try.underlying26 rfl (by kernel_rfl) ?_)
      | (refine wpList_store_row rfl 26 _ _ rfl (w.heap.size + 1) _ rfl rfl 26 _ RF.h (by kernel_rfl) (by rfl) (by kernel_rfl) ?_))
    refine bodyPost_ret (results_cell_row rfl _ _ (w.heap.size + 1) 26 (nodeA h' x) (0, 0) _ rfl (Blk.row RF (nodeA h' x)).h Try.underlying26 rfl (by kernel_rfl)) rfl ⟨⟨h', rfl, ?_⟩, below_setRow hbF (by omega) _⟩
    have hm : (maxLen : Nat) = 9223372036854775807 := by unfold maxLen; rfl
    have FR := Fr.row (S := [w.heap.size + 1]) (w := (((w4.setCell ⟨w.heap.size, 5, none⟩ (hd1 b1 x.keys.length)).setCell ⟨w.heap.size, 6, none⟩ (hd1 b2 x.vals.length)).setCell ⟨w.heap.size, 7, none⟩ (hd1 b3 x.kids.length))) (w.heap.size + 1) (nodeA h' x) (by simp)
    have K5 := FR.blk KF (by simp; omega)
    have V5 := FR.blk VF (by simp; omega)
    have D5 := FR.blk DF (by simp; omega)
    subst hh
    exact ⟨H.level, H.low, H.high, H.next, row1 Value.string flat_str K5 H.keys.all (by simp; omega) (by omega), row1 (Value.int .u64) flat_u64 V5 H.vals.all (by simp; omega) (by omega), row1 (Value.int .i64) flat_i64 D5 H.kids.all (by simp; omega) (by omega)⟩
end Go.Proofs.Ytbemgfpnoeogdaa.Dp
