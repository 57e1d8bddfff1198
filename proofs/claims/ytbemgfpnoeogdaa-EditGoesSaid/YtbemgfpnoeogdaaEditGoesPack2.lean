/-
  A view: what lies in memory; GiveUp, Again, At, Need, Learn, Forget, Take, Spares: contracts.
-/
import Derived.Maps.OwnSet
import Derived.Maps.OwnOps
import Derived.Maps.AppendAt
import Derived.Deep.DeepCutAuto
import Derived.WideMake
import Derived.Lib.QuietBelow
import Derived.BigQuiet
import Derived.Deep.MidRow
import Derived.StillTailTactics
import Derived.BigRegion
import Derived.Deep.LoopGhost
import Derived.Deep.RegionLaw
import Derived.Shelf.Sort.Plain
import Derived.Maps.RangeWalk
import Derived.Lib.SlKeysI
import Derived.Sort.OwnSortedInts
import Derived.Shelf.Slices.In.SortNone
import Derived.Test.YtbemgfpnoeogdaaEditGoesPack1

namespace Go.Proofs.Ytbemgfpnoeogdaa.FoP
open Go.RowKit RefP Go.Maps
set_option linter.unusedVariables false
set_option linter.unusedSimpArgs false
abbrev Sp := Int × Int
abbrev spF (x : Sp) (j : Nat) : Value := if j = 0 then .int .i64 x.1 else .int .u64 x.2
abbrev OwnSp (w : World) (base : Nat) (a : Option Addr) (c : Nat) (l : List Sp) : Prop := OwnR 2 spF (0, 0) w base 60 a c l
/-- a cell's number, and its cells -/
abbrev Kn := Int × Array Value
def knAt (L : List Kn) (n : Int) : Option (Array Value) := (L.find? (fun p => p.1 == n)).map (·.2)
def knB (L : List Kn) (n : Int) : Bool := L.any (fun p => p.1 == n)
/-- an element is what it is -/
def Rk (v : Value) : Option (DataW Value × List MemPlace) := some (.held v, [])
theorem lawI : Keyed Try.prog 3 := int_keyed Try.underlying3
theorem zeroK (w : World) : (zeroValue 53).run Try.prog w = .ok (.agg kz) w := by kernel_rfl
structure MapOk (D : DataW Value) (L : List Kn) : Prop where
  at_ : ∀ i z, D.atKey (.int .i64 i) z = match knAt L i with | some c => .held (.agg c) | none => z
  size : Maps.size D = L.length
  nodup : L.Pairwise (fun p q => p.1 ≠ q.1)
  cells : ∀ p ∈ L, p.2.size = 11 ∧ p.2.all (·.oneCell') = true
theorem knAt_some {L : List Kn} {n : Int} {c : Array Value} (h : knAt L n = some c) : (n, c) ∈ L := by
  unfold knAt at h
  cases e : L.find? (fun p => p.1 == n) with
  | none => simp [e] at h
  | some p =>
    simp [e] at h
    have h1 := List.mem_of_find?_eq_some e
    have h2 := List.find?_some e
    simp at h2
    subst h; subst h2
    exact h1
theorem knB_at (L : List Kn) (n : Int) : knB L n = (knAt L n).isSome := by
  unfold knB knAt
  rw [Option.isSome_map, Bool.eq_iff_iff, List.find?_isSome, List.any_eq_true]
theorem MapOk.has {D : DataW Value} {L : List Kn} (h : MapOk D L) (i : Int) : Maps.has D (.int .i64 i) = (knAt L i).isSome := by
  cases e : knAt L i with
  | none => exact Maps.has_false_of_atKey (fun z => by rw [h.at_, e])
  | some c => exact Maps.has_true_of_atKey (y := .held (.agg c)) (fun z => by rw [h.at_, e])
theorem MapOk.nil : MapOk (.map []) [] := ⟨fun i z => rfl, rfl, List.Pairwise.nil, by simp⟩
/-- what is left when a cell is forgotten -/
def knDel (L : List Kn) (n : Int) : List Kn := L.filter (fun p => p.1 != n)
theorem knAt_del (L : List Kn) (n i : Int) : knAt (knDel L n) i = if i = n then none else knAt L i := by
  unfold knAt knDel
  rw [List.find?_filter]
  by_cases e : i = n
  · subst e
    rw [if_pos rfl]
    have : L.find? (fun a => decide ((a.1 != i) = true ∧ (a.1 == i) = true)) = none := by
      rw [List.find?_eq_none]
      intro x _
      by_cases q : x.1 = i <;> simp [q]
    rw [this]; rfl
  · rw [if_neg e]
    congr 1
    congr 1
    funext p
    by_cases q : p.1 = i
    · have : p.1 ≠ n := fun h => e (q.symm.trans h)
      simp [q, e]
    · simp [q]
theorem knAt_put (L : List Kn) (n : Int) (c : Array Value) (i : Int) : knAt (knDel L n ++ [(n, c)]) i = if i = n then some c else knAt L i := by
  have h1 := knAt_del L n i
  unfold knAt at h1 ⊢
  rw [List.find?_append]
  by_cases e : i = n
  · subst e
    rw [if_pos rfl] at h1 ⊢
    have : (knDel L i).find? (fun p => p.1 == i) = none := by
      cases q : (knDel L i).find? (fun p => p.1 == i) with
      | none => rfl
      | some p => simp [q] at h1
    rw [this]; simp
  · rw [if_neg e] at h1 ⊢
    have : [(n, c)].find? (fun p => p.1 == i) = none := by
      rw [List.find?_eq_none]; intro x hx; simp at hx; subst hx; simp; exact fun h => e h.symm
    rw [this]; simpa using h1
theorem knDel_len {L : List Kn} (h : L.Pairwise (fun p q => p.1 ≠ q.1)) (n : Int) : (knDel L n).length + (if (knAt L n).isSome then 1 else 0) = L.length := by
  induction L with
  | nil => rfl
  | cons x L ih =>
    obtain ⟨h1, h2⟩ := List.pairwise_cons.1 h
    by_cases e : x.1 = n
    · have h3 : ∀ p ∈ L, (p.1 != n) = true := fun p hp => by simp; exact fun q => h1 p hp (e.trans q.symm)
      have h4 : knDel (x :: L) n = L := by simp [knDel, e]; exact fun a b hp => by have := h3 _ hp; simpa using this
      rw [h4]
      simp [knAt, e]
    · have h4 : knDel (x :: L) n = x :: knDel L n := by simp [knDel, e]
      have h5 : knAt (x :: L) n = knAt L n := by simp [knAt, e]
      rw [h4, h5]
      have := ih h2
      simp only [List.length_cons]; omega
theorem keyI (i : Int) : WideAt.IsKeyLit (.int .i64 i) := by simp [WideAt.IsKeyLit]
theorem lit_ne {i n : Int} (h : i ≠ n) : (Lit.int .i64 i) ≠ Lit.int .i64 n := fun e => h (by injection e)
theorem MapOk.del {D : DataW Value} {L : List Kn} (h : MapOk D L) (T : Tidy D) (n : Int) : MapOk (D.del (.int .i64 n)) (knDel L n) := by
  refine ⟨fun i z => ?_, ?_, h.nodup.filter _, fun p hp => h.cells p (List.mem_filter.1 hp).1⟩
  · rw [knAt_del]
    by_cases e : i = n
    · subst e
      rw [if_pos rfl, Maps.atKey_del_same]
    · rw [if_neg e, Maps.atKey_del_other (lit_ne e), h.at_]
  · have h1 := Maps.size_del T (k := .int .i64 n)
    rw [h.has] at h1
    have h2 := knDel_len h.nodup n
    have h3 := h.size
    omega
theorem MapOk.put {D : DataW Value} {L : List Kn} (h : MapOk D L) (T : Tidy D) (n : Int) (c : Array Value) (hc : c.size = 11 ∧ c.all (·.oneCell') = true) : MapOk (D.put (.int .i64 n) (.held (.agg c))) (knDel L n ++ [(n, c)]) := by
  refine ⟨fun i z => ?_, ?_, ?_, fun p hp => ?_⟩
  · rw [knAt_put]
    by_cases e : i = n
    · subst e
      rw [if_pos rfl, Maps.atKey_put_same T.isMap (keyI _)]
    · rw [if_neg e, Maps.atKey_put_other (lit_ne e), h.at_]
  · rw [Maps.size_put T, h.has]
    have h2 := knDel_len h.nodup n
    have h3 := h.size
    rw [List.length_append]
    simp only [List.length_singleton]
    split at h2 <;> rename_i q <;> simp [q] <;> omega
  · rw [List.pairwise_append]
    refine ⟨h.nodup.filter _, by simp, fun p hp q hq => ?_⟩
    simp at hq
    subst hq
    have := (List.mem_filter.1 hp).2
    simpa using this
  · rcases List.mem_append.1 hp with q | q
    · exact h.cells p (List.mem_filter.1 q).1
    · simp at q; subst q; exact hc
/-- a view in memory -/
structure VwAt (w : World) (base o m : Nat) (L : List Kn) (a : Option Addr) (c : Nat) (S : List Sp) (k n : Int) : Prop where
  head : Blk w o (vwA (some m) a S.length c k n) 88
  map : ∃ D, w.ownsMap Try.prog 3 Rk m L.length D ∧ MapOk D L
  spares : OwnSp w base a c S
  lo : base ≤ o ∧ base ≤ m ∧ o ≠ m ∧ (Value.slice a S.length c).ownBlock ≠ some o ∧ (Value.slice a S.length c).ownBlock ≠ some m
theorem ownsMap_tight {w : World} {m N : Nat} {D : DataW Value} (h : w.ownsMap Try.prog 3 Rk m N D) : w.ownsMap Try.prog 3 Rk m (Maps.size D) D := by
  obtain ⟨es, clock, hb, F, hs, e⟩ := h
  refine ⟨es, clock, hb, F, ?_, e⟩
  subst e
  simp [Maps.size, length_sorted]
theorem VwAt.fr {w w' : World} {base o m : Nat} {L : List Kn} {a : Option Addr} {c : Nat} {S : List Sp} {k n : Int} {T : List Nat} (V : VwAt w base o m L a c S k n) (F : Fr T w w') (h1 : o ∉ T) (h2 : m ∉ T) (h3 : ∀ g, (Value.slice a S.length c).ownBlock = some g → g ∉ T) : VwAt w' base o m L a c S k n := by
  obtain ⟨D, hD, hL⟩ := V.map
  obtain ⟨es, clock, hb, r⟩ := hD
  exact ⟨F.blk V.head h1, ⟨D, ⟨es, clock, (F.block m (lt_of_block hb) h2).trans hb, r⟩, hL⟩, OwnR.heap V.spares (fun g hg => F.block g (OwnR.lt V.spares g hg).2 (h3 g hg)), V.lo⟩
theorem VwAt.under {w w' : World} {base o m : Nat} {L : List Kn} {a : Option Addr} {c : Nat} {S : List Sp} {k n : Int} (V : VwAt w base o m L a c S k n) (hb : Below w.heap.size w w') : VwAt w' base o m L a c S k n :=
  V.fr (Fr.of_below (S := []) hb) (by simp) (by simp) (by simp)
theorem VwAt.need {w : World} {base o m : Nat} {L : List Kn} {a : Option Addr} {c : Nat} {S : List Sp} {k n : Int} (V : VwAt w base o m L a c S k n) (k' n' : Int) :
    VwAt ((w.setCell ⟨o, 2, none⟩ (.int .i64 k')).setCell ⟨o, 3, none⟩ (.int .i64 n')) base o m L a c S k' n' ∧ Fr [o] w ((w.setCell ⟨o, 2, none⟩ (.int .i64 k')).setCell ⟨o, 3, none⟩ (.int .i64 n')) := by
  have F : Fr [o] w ((w.setCell ⟨o, 2, none⟩ (.int .i64 k')).setCell ⟨o, 3, none⟩ (.int .i64 n')) := ((Fr.refl [o] w).set ⟨o, 2, none⟩ (.int .i64 k') (.inl (by simp))).set ⟨o, 3, none⟩ (.int .i64 n') (.inl (by simp))
  obtain ⟨D, ⟨es, clock, hb, r⟩, hL⟩ := V.map
  have B := (V.head.set 2 (.int .i64 k')).set 3 (.int .i64 n')
  refine ⟨⟨B, ⟨D, ⟨es, clock, (F.block m (lt_of_block hb) (by simp; exact fun e => V.lo.2.2.1 e.symm)).trans hb, r⟩, hL⟩, OwnR.heap V.spares (fun g hg => F.block g (OwnR.lt V.spares g hg).2 (fun e => ?_)), V.lo⟩, F⟩
  simp at e
  subst e
  exact V.lo.2.2.2.1 hg
def lackK (k0 k : Int) : Int := if k0 = 0 then k else k0
def lackN (k0 n0 n : Int) : Int := if k0 = 0 then n else n0
theorem lack_any {w : World} {base o m : Nat} {L : List Kn} {a : Option Addr} {c : Nat} {S : List Sp} {k0 n0 : Int} (V : VwAt w base o m L a c S k0 n0) (k n : Int) :
    Calls Try.prog 56 #[.pointer (some ⟨o, 0, none⟩), .int .i64 k, .int .i64 n] w fun e w' => e = .returned (.tuple #[]) ∧ VwAt w' base o m L a c S (lackK k0 k) (lackN k0 n0 n) ∧ Fr [o] w w' := by
  have c0 := V.head.at 0 rfl
  have c1 := V.head.at 1 rfl
  have c2 := V.head.at 2 rfl
  have c3 := V.head.at 3 rfl
  have f2 := V.head.free 2
  have f3 := V.head.free 3
  by_cases h : k0 = 0
  · subst h
    have hV := V.need k n
    go_enter Try.func56, Try.ntmps56
    go_wp2_with fail
    refine (none_some V.head).mono ?_
    rintro e w1 ⟨rfl, rfl⟩
    go_wp2_with fail
    go_end0
    exact ⟨rfl, by simpa [lackK, lackN] using hV.1, hV.2⟩
  · have hk : (k0 == 0) = false := by simpa using h
    go_enter Try.func56, Try.ntmps56
    go_wp2_with fail
    refine (none_some V.head).mono ?_
    rintro e w1 ⟨rfl, rfl⟩
    go_wp2_with fail
    go_end0
    exact ⟨rfl, by simpa [lackK, lackN, h] using V, Fr.refl _ _⟩
theorem giveup_any {w : World} {base o m : Nat} {L : List Kn} {a : Option Addr} {c : Nat} {S : List Sp} {k0 n0 : Int} (V : VwAt w base o m L a c S k0 n0) :
    Calls Try.prog 34 #[.pointer (some ⟨o, 0, none⟩)] w fun e w' => e = .returned (.tuple #[]) ∧ VwAt w' base o m L a c S (lackK k0 3) (lackN k0 n0 0) ∧ Fr [o] w w' := by
  go_enter Try.func34, Try.ntmps34
  go_wp2_with fail
  refine (lack_any V 3 0).mono ?_
  rintro e w1 ⟨rfl, hV, hF⟩
  go_wp2_with fail
  go_end0
  exact ⟨rfl, hV, hF⟩
theorem again_any {w : World} {base o m : Nat} {L : List Kn} {a : Option Addr} {c : Nat} {S : List Sp} {k0 n0 : Int} (V : VwAt w base o m L a c S k0 n0) :
    Calls Try.prog 36 #[.pointer (some ⟨o, 0, none⟩)] w fun e w' => e = .returned (.tuple #[]) ∧ VwAt w' base o m L a c S 0 0 ∧ Fr [o] w w' := by
  have c0 := V.head.at 0 rfl
  have c1 := V.head.at 1 rfl
  have c2 := V.head.at 2 rfl
  have c3 := V.head.at 3 rfl
  have f2 := V.head.free 2
  have f3 := V.head.free 3
  have hV := V.need 0 0
  go_enter Try.func36, Try.ntmps36
  go_wp2_with fail
  refine (none_some V.head).mono ?_
  rintro e w1 ⟨rfl, rfl⟩
  go_wp2_with fail
  go_end0
  exact ⟨rfl, hV.1, hV.2⟩
theorem spares_any {w : World} {base o m : Nat} {L : List Kn} {a : Option Addr} {c : Nat} {S : List Sp} {k0 n0 : Int} (V : VwAt w base o m L a c S k0 n0) :
    Calls Try.prog 39 #[.pointer (some ⟨o, 0, none⟩)] w fun e w' => e = .returned (.int .i64 S.length) ∧ w' = w := by
  have c0 := V.head.at 0 rfl
  have c1 := V.head.at 1 rfl
  have c2 := V.head.at 2 rfl
  have c3 := V.head.at 3 rfl
  have f2 := V.head.free 2
  have f3 := V.head.free 3
  go_enter Try.func39, Try.ntmps39
  go_wp2_with fail
  refine (none_some V.head).mono ?_
  rintro e w1 ⟨rfl, rfl⟩
  go_wp2_with fail
  go_ret
  exact ⟨rfl, rfl⟩
theorem need_any {w : World} {base o m : Nat} {L : List Kn} {a : Option Addr} {c : Nat} {S : List Sp} {k0 n0 : Int} (V : VwAt w base o m L a c S k0 n0) :
    Calls Try.prog 40 #[.pointer (some ⟨o, 0, none⟩)] w fun e w' => e = .returned (.agg (nz k0 n0)) ∧ Below w.heap.size w w' := by
  have hb := (Below.refl w.heap.size w).alloc (Nat.le_refl _) (.cells (nz 0 0) 56)
  have V' := V.under hb
  have BR := Blk.new w (nz 0 0) 56
  generalize hW : w.alloc (.cells (nz 0 0) 56) = w1 at hb V' BR
  replace hW := Lib.hid hW
  have c2 := V'.head.at 2 rfl
  have c3 := V'.head.at 3 rfl
  go_enter Try.func40, Try.ntmps40
  go_wp2_with (first | (refine wpList_store_row rfl 56 _ _ rfl w.heap.size _ rfl rfl 56 _ BR.h (by kernel_rfl) (by rfl) (by kernel_rfl) ?_) | fail)
  rw [hW.out]
  refine (none_some V'.head).mono ?_
  rintro e w2 ⟨rfl, rfl⟩
  go_wp2_with (first | (refine wpList_store_row rfl 56 _ _ rfl w.heap.size _ rfl rfl 56 _ BR.h (by kernel_rfl) (by rfl) (by kernel_rfl) ?_))
  refine bodyPost_ret (results_cell_row rfl _ _ w.heap.size 56 (nz k0 n0) (0, 0) _ rfl (Blk.row BR (nz k0 n0)).h Try.underlying56 rfl (by kernel_rfl)) rfl ?_
  exact ⟨rfl, below_setRow hb (Nat.le_refl _) _⟩
theorem rk_hit {D : DataW Value} {L : List Kn} {n : Int} {c : Array Value} {v : Value} {ps : List MemPlace} {zd : DataW Value} (h : MapOk D L) (e : knAt L n = some c) (hv : Rk v = some (D.atKey (.int .i64 n) zd, ps)) : v = .agg c := by
  rw [h.at_, e] at hv
  simp [Rk] at hv
  exact hv.1
theorem rk_miss {D : DataW Value} {L : List Kn} {n : Int} {c : Array Value} {v : Value} {ps : List MemPlace} (h : MapOk D L) (e : knAt L n = none) (hv : Rk v = some (D.atKey (.int .i64 n) (.held (.agg c)), ps)) : v = .agg c := by
  rw [h.at_, e] at hv
  simp [Rk] at hv
  exact hv.1
theorem wfI {n : Int} (h : -9223372036854775808 ≤ n ∧ n ≤ 9223372036854775807) : (Lit.int .i64 n).wf = true := by
  simp [Lit.wf, IntKind.min, IntKind.max, IntKind.bits, IntKind.signed]
  omega
theorem keyOfI {n : Int} (h : -9223372036854775808 ≤ n ∧ n ≤ 9223372036854775807) : keyOf Try.prog 3 (.int .i64 n) = some (.int .i64 n) := keyOf_int_mk Try.underlying3 (wfI h)
set_option maxHeartbeats 1600000 in
theorem at_hit {w : World} {base o m : Nat} {L : List Kn} {a : Option Addr} {c : Nat} {S : List Sp} {k0 n0 : Int} (V : VwAt w base o m L a c S k0 n0) (n : Int) (hr : -9223372036854775808 ≤ n ∧ n ≤ 9223372036854775807) {cs : Array Value} (hn : knAt L n = some cs) :
    Calls Try.prog 30 #[.pointer (some ⟨o, 0, none⟩), .int .i64 n] w fun e w' => e = .returned (.tuple #[.agg cs, .bool true]) ∧ Below w.heap.size w w' := by
  have hb := (Below.refl w.heap.size w).alloc (Nat.le_refl _) (.cells kz 53)
  have V1 := V.under hb
  have BR := Blk.new w kz 53
  have hz1 := World.size_alloc w (.cells kz 53)
  obtain ⟨D, hD, hM⟩ := V1.map
  have hcs := hM.cells _ (knAt_some hn)
  have hhas := hM.has n
  have hkey := keyOfI hr
  generalize hW : w.alloc (.cells kz 53) = w1 at hb V1 BR hz1 hD
  replace hW := Lib.hid hW
  have c0 := V1.head.at 0 rfl
  have BX : Blk (w1.alloc (.cells kz 53)) (w.heap.size + 1) kz 53 := by have := Blk.new w1 kz 53; rwa [hz1] at this
  have hset : (w1.alloc (.cells kz 53)).setRow (w.heap.size + 1) cs = w1.alloc (.cells cs 53) := by rw [← hz1]; exact World.setRow_alloc_new _ _ _ _
  have BC : Blk (w1.alloc (.cells cs 53)) (w.heap.size + 1) cs 53 := by have := Blk.new w1 cs 53; rwa [hz1] at this
  have BR2 := BR.alloc (.cells cs 53)
  have hb2 := hb.alloc (by omega) (.cells cs 53)
  have hsz : (Try.prog.info? 53).map (·.size) = some cs.size := by rw [hcs.1]; kernel_rfl
  go_enter Try.func30, Try.ntmps30
  go_wp2_with fail
  rw [hW.out]
  refine (none_some V1.head).mono ?_
  rintro e w2 ⟨rfl, rfl⟩
  go_upto_region 3 with (fail)
  go_wp2_with (first
    | (at_lookup; refine wpList_lookup_own_ok _ rfl _ _ 86 rfl 3 53 lawI Try.underlying86 Rk (zeroK _) (.held (.agg kz)) [] rfl m L.length D rfl hD _ (.int .i64 n) rfl hkey ?_; intro v ps hv; rw [hhas, hn]; obtain rfl := rk_hit hM hn hv)
    | (refine wpList_store_row rfl 53 _ _ rfl _ _ rfl rfl 53 _ BX.h hsz (by rw [hcs.1]; rfl) hcs.2 ?_; rw [hset])
    | (refine wpList_load_row rfl 53 _ rfl (w.heap.size + 1) rfl 53 _ (0, 0) _ BC.h Try.underlying53 rfl hsz ?_)
    | (refine wpList_store_row rfl 53 _ _ rfl _ _ rfl rfl 53 _ BR2.h hsz (by rw [hcs.1]; rfl) hcs.2 ?_))
  refine bodyPost_ret (v := .tuple #[.agg cs, .bool true]) (results_cell_tmp rfl _ _ w.heap.size 53 cs (0, 0) _ (.bool true) rfl rfl (Blk.row BR2 cs).h Try.underlying53 rfl hsz) rfl ?_
  exact ⟨rfl, below_setRow hb2 (Nat.le_refl _) _⟩
theorem VwAt.lts {w : World} {base o m : Nat} {L : List Kn} {a : Option Addr} {c : Nat} {S : List Sp} {k n : Int} (V : VwAt w base o m L a c S k n) : o < w.heap.size ∧ m < w.heap.size ∧ ∀ g, (Value.slice a S.length c).ownBlock = some g → g < w.heap.size := by
  obtain ⟨D, ⟨es, clock, hb, r⟩, hL⟩ := V.map
  exact ⟨V.head.lt, lt_of_block hb, fun g hg => (OwnR.lt V.spares g hg).2⟩
theorem VwAt.row {w w' : World} {base o m : Nat} {L : List Kn} {a : Option Addr} {c : Nat} {S : List Sp} {k n k' n' : Int} (V : VwAt w base o m L a c S k n) (V' : VwAt w' base o m L a c S k' n') (b : Nat) (cs : Array Value) (hb : w.heap.size ≤ b) : VwAt (w'.setRow b cs) base o m L a c S k' n' := by
  obtain ⟨l1, l2, l3⟩ := V.lts
  refine V'.fr (Fr.row (S := [b]) b cs (by simp)) (by simp; omega) (by simp; omega) (fun g hg => ?_)
  have := l3 g hg
  simp; omega
theorem Fr.rowNew {S : List Nat} {a w : World} (h : Fr S a w) (b : Nat) (cs : Array Value) (hb : a.heap.size ≤ b) : Fr S a (w.setRow b cs) := by
  have F := Fr.row (S := [b]) (w := w) b cs (by simp)
  exact ⟨F.os.trans h.os, F.tape.trans h.tape, F.output.trans h.output, Nat.le_trans h.size F.size, fun x hx hn => (F.block x (Nat.lt_of_lt_of_le hx h.size) (by simp; omega)).trans (h.block x hx hn)⟩
def missK (k0 n : Int) : Int := lackK k0 (if cellB n then 1 else 3)
def missN (k0 n0 n : Int) : Int := lackN k0 n0 (if cellB n then n else 0)
set_option maxRecDepth 20000 in
set_option maxHeartbeats 1600000 in
theorem at_miss {w : World} {base o m : Nat} {L : List Kn} {a : Option Addr} {c : Nat} {S : List Sp} {k0 n0 : Int} (V : VwAt w base o m L a c S k0 n0) (n : Int) (hr : -9223372036854775808 ≤ n ∧ n ≤ 9223372036854775807) (hn : knAt L n = none) :
    Calls Try.prog 30 #[.pointer (some ⟨o, 0, none⟩), .int .i64 n] w fun e w' => e = .returned (.tuple #[.agg kz, .bool false]) ∧ VwAt w' base o m L a c S (missK k0 n) (missN k0 n0 n) ∧ Fr [o] w w' := by
  have hb := (Below.refl w.heap.size w).alloc (Nat.le_refl _) (.cells kz 53)
  have V1 := V.under hb
  have BR := Blk.new w kz 53
  have hz1 := World.size_alloc w (.cells kz 53)
  obtain ⟨D, hD, hM⟩ := V1.map
  have hhas := hM.has n
  have hkey := keyOfI hr
  have hlo := V.lts
  generalize hW : w.alloc (.cells kz 53) = w1 at hb V1 BR hz1 hD
  replace hW := Lib.hid hW
  have c0 := V1.head.at 0 rfl
  have BX : Blk (w1.alloc (.cells kz 53)) (w.heap.size + 1) kz 53 := by have := Blk.new w1 kz 53; rwa [hz1] at this
  have hset : (w1.alloc (.cells kz 53)).setRow (w.heap.size + 1) kz = w1.alloc (.cells kz 53) := by rw [← hz1]; exact World.setRow_alloc_new _ _ _ _
  have BR2 := BR.alloc (.cells kz 53)
  have hb2 := hb.alloc (by omega) (.cells kz 53)
  have V2 := V1.under ((Below.refl _ w1).alloc (Nat.le_refl _) (.cells kz 53))
  have hsz : (Try.prog.info? 53).map (·.size) = some kz.size := by kernel_rfl
  go_enter Try.func30, Try.ntmps30
  go_wp2_with fail
  rw [hW.out]
  refine (none_some V1.head).mono ?_
  rintro e w2 ⟨rfl, rfl⟩
  go_upto_region 3 with (fail)
  go_wp2_with (first
    | (at_lookup; refine wpList_lookup_own_ok _ rfl _ _ 86 rfl 3 53 lawI Try.underlying86 Rk (zeroK _) (.held (.agg kz)) [] rfl m L.length D rfl hD _ (.int .i64 n) rfl hkey ?_; intro v ps hv; rw [hhas, hn]; obtain rfl := rk_miss hM hn hv)
    | (refine wpList_store_row rfl 53 _ _ rfl _ _ rfl rfl 53 _ BX.h hsz (by rfl) (by kernel_rfl) ?_; rw [hset]))
  clear hD BX hset V1 BR c0 hb
  refine (cell_any _ n).mono ?_
  rintro e w3 ⟨rfl, rfl⟩
  have hF2 : Fr [o] w _ := Fr.of_below hb2
  cases hc : cellB n
  · go_wp2_with fail
    refine (giveup_any V2).mono ?_
    rintro e w4 ⟨rfl, V4, F4⟩
    have BR4 := F4.blk BR2 (by simp; omega)
    go_wp2_with (refine wpList_store_row rfl 53 _ _ rfl w.heap.size _ rfl rfl 53 _ BR4.h hsz (by rfl) (by kernel_rfl) ?_)
    refine bodyPost_ret (v := .tuple #[.agg kz, .bool false]) (results_cell_tmp rfl _ _ w.heap.size 53 kz (0, 0) _ (.bool false) rfl rfl (Blk.row BR4 kz).h Try.underlying53 rfl hsz) rfl ?_
    refine ⟨rfl, ?_, (hF2.trans F4).rowNew _ _ (Nat.le_refl _)⟩
    have := V.row V4 w.heap.size kz (Nat.le_refl _)
    simpa [missK, missN, hc] using this
  · go_wp2_with fail
    refine (lack_any V2 1 n).mono ?_
    rintro e w4 ⟨rfl, V4, F4⟩
    have BR4 := F4.blk BR2 (by simp; omega)
    go_wp2_with (refine wpList_store_row rfl 53 _ _ rfl w.heap.size _ rfl rfl 53 _ BR4.h hsz (by rfl) (by kernel_rfl) ?_)
    refine bodyPost_ret (v := .tuple #[.agg kz, .bool false]) (results_cell_tmp rfl _ _ w.heap.size 53 kz (0, 0) _ (.bool false) rfl rfl (Blk.row BR4 kz).h Try.underlying53 rfl hsz) rfl ?_
    refine ⟨rfl, ?_, (hF2.trans F4).rowNew _ _ (Nat.le_refl _)⟩
    have := V.row V4 w.heap.size kz (Nat.le_refl _)
    simpa [missK, missN, hc] using this
end Go.Proofs.Ytbemgfpnoeogdaa.FoP

/-
  A view: Learn, Forget, New; the chapter's example.
-/
namespace Go.Proofs.Ytbemgfpnoeogdaa.FoP
open Go.RowKit RefP Go.Maps
set_option linter.unusedVariables false
set_option linter.unusedSimpArgs false
theorem mapTurned_fr {w w' : World} {m : Nat} (h : w.mapTurned w' m) : Fr [m] w w' := Fr.of_grown h.grown (fun g hg => by cases hg; simp)
theorem VwAt.turned {w w' : World} {base o m : Nat} {L L' : List Kn} {a : Option Addr} {c : Nat} {S : List Sp} {k n : Int} (V : VwAt w base o m L a c S k n) (h : w.mapTurned w' m) {N : Nat} {D : DataW Value} (hD : w'.ownsMap Try.prog 3 Rk m N D) (hM : MapOk D L') : VwAt w' base o m L' a c S k n := by
  have F := mapTurned_fr h
  refine ⟨F.blk V.head (by simp; exact V.lo.2.2.1), ⟨D, ?_, hM⟩, OwnR.heap V.spares (fun g hg => F.block g (OwnR.lt V.spares g hg).2 (fun e => ?_)), V.lo⟩
  · rw [← hM.size]; exact ownsMap_tight hD
  · simp at e; subst e; exact V.lo.2.2.2.2 hg
section
variable {P : Program}
theorem wpStill_load_row {ops : Array Oper} {rest : List Oper} {o : Oper} {a : Act} {w : World} {Q : Act → Prop} (hgd : o.guard = none) (ty : TypeId) (x : Operand) (ho : o.op = .load ty x)
    (g : Nat) (hx : a.eval x = .pointer (some ⟨g, 0, none⟩)) (t : TypeId) (cs : Array Value) (fr : Nat × Nat) (d : TypeDesc) (hg : w.heap[g]? = some (.cells cs t fr))
    (hu : P.underlying ty = some d) (hd : (match d with | .struct _ | .array _ _ => true | _ => false) = true) (hi : (P.info? ty).map (·.size) = some cs.size)
    (h : wpStill P ops w Q rest (a.put o.dst (.agg cs))) : wpStill P ops w Q (o :: rest) a := by
  refine wpStill_step fun K hK => ?_
  have hw : Region.wanted o (yielded ops a.tmps) = true := by simp [Region.wanted, hgd]
  rw [if_pos hw]
  have hl := run_loadVar_row (P := P) w g t ty cs fr d hg hu hd hi
  unfold Oper.still
  simp only [execOp, ho, hx, Instr.loadAt, Instr.sureAddr, Sem.run_bind, Sem.run_pure, Result.andThen_ok, hl, Oper.stillUpon]
  exact ⟨trivial, hK _ h⟩
end
theorem learn_out {w : World} {base o m : Nat} {L : List Kn} {a : Option Addr} {c : Nat} {S : List Sp} {k0 n0 : Int} (V : VwAt w base o m L a c S k0 n0) (n : Int) (cs : Array Value) (h0 : cs[0]? = some (.int .i64 n)) (hc : cellB n = false) :
    Calls Try.prog 24 #[.pointer (some ⟨o, 0, none⟩), .agg cs] w fun e w' => e = .returned (.bool false) ∧ Below w.heap.size w w' := by
  have hb := (Below.refl w.heap.size w).alloc (Nat.le_refl _) (.cells cs 53)
  have V1 := V.under hb
  have BK := Blk.new w cs 53
  have c0 := BK.at 0 h0
  go_enter Try.func24, Try.ntmps24
  go_wp2_with fail
  refine (none_some V1.head).mono ?_
  rintro e w2 ⟨rfl, rfl⟩
  go_wp2_with fail
  refine (cell_any _ n).mono ?_
  rintro e w3 ⟨rfl, rfl⟩
  rw [hc]
  go_wp2_with fail
  go_ret
  exact ⟨rfl, hb⟩
set_option maxRecDepth 20000 in
set_option maxHeartbeats 1600000 in
theorem learn_any {w : World} {base o m : Nat} {L : List Kn} {a : Option Addr} {c : Nat} {S : List Sp} {k0 n0 : Int} (V : VwAt w base o m L a c S k0 n0) (n : Int) (cs : Array Value) (h0 : cs[0]? = some (.int .i64 n)) (hcs : cs.size = 11 ∧ cs.all (·.oneCell') = true) (hc : cellB n = true) (hL : L.length < 100000) :
    Calls Try.prog 24 #[.pointer (some ⟨o, 0, none⟩), .agg cs] w fun e w' => e = .returned (.bool true) ∧ VwAt w' base o m (knDel L n ++ [(n, cs)]) a c S k0 n0 ∧ Fr [m] w w' := by
  have hb := (Below.refl w.heap.size w).alloc (Nat.le_refl _) (.cells cs 53)
  have V1 := V.under hb
  have BK := Blk.new w cs 53
  generalize hW : w.alloc (.cells cs 53) = w1 at hb V1 BK
  replace hW := Lib.hid hW
  have k0' := BK.at 0 h0
  have hr : -9223372036854775808 ≤ n ∧ n ≤ 9223372036854775807 := by simp [cellB] at hc; omega
  obtain ⟨D, hD, hM⟩ := V1.map
  have hkey := keyOfI hr
  have hsz : (Try.prog.info? 53).map (·.size) = some cs.size := by rw [hcs.1]; kernel_rfl
  have c0 := V1.head.at 0 rfl
  have hmax : L.length < maxLen := by simp only [maxLen]; omega
  have hP := hM.put (hD.tidy lawI) n cs hcs
  go_enter Try.func24, Try.ntmps24
  go_wp2_with fail
  rw [hW.out]
  refine (none_some V1.head).mono ?_
  rintro e w2 ⟨rfl, rfl⟩
  go_wp2_with fail
  refine (cell_any _ n).mono ?_
  rintro e w3 ⟨rfl, rfl⟩
  rw [hc]
  go_upto_region 3 with (fail)
  refine wp_region_still_tail 7 (by kernel_rfl) (by kernel_rfl) ?_
  simp only [List.take_succ_cons, List.take_zero, List.drop_succ_cons, List.drop_zero]
  still_step
  still_step
  still_step
  still_step
  still_step
  still_step
  refine wpStill_load_row rfl 53 _ rfl w.heap.size rfl 53 _ (0, 0) _ BK.h Try.underlying53 rfl hsz ?_
  refine wpStill_nil ?_
  have hD := hD.drew
  refine wpList_mapUpdate_in _ rfl _ _ _ 86 rfl 3 53 lawI Try.underlying86 Rk m L.length D rfl hD hmax _ _ (.int .i64 n) rfl rfl hkey (.held (.agg cs)) [] rfl ?_
  intro w4 hD4 hT4
  go_wp2_with fail
  go_ret
  have hT5 : w3.drew.mapTurned w4 m := hT4
  exact ⟨rfl, (V1.under (Below.refl _ _).drew).turned hT5 hD4 hP, (Fr.of_below hb.drew).trans (mapTurned_fr hT5)⟩
theorem rk_any {D : DataW Value} {L : List Kn} {n : Int} {v : Value} {ps : List MemPlace} (h : MapOk D L) (hv : Rk v = some (D.atKey (.int .i64 n) (.held (.agg kz)), ps)) : ∃ cx : Array Value, v = .agg cx ∧ cx.size = 11 ∧ cx.all (·.oneCell') = true := by
  cases e : knAt L n with
  | none => exact ⟨kz, rk_miss h e hv, rfl, by kernel_rfl⟩
  | some cx => exact ⟨cx, rk_hit h e hv, h.cells _ (knAt_some e)⟩
set_option maxRecDepth 20000 in
set_option maxHeartbeats 1600000 in
theorem forget_any {w : World} {base o m : Nat} {L : List Kn} {a : Option Addr} {c : Nat} {S : List Sp} {k0 n0 : Int} (V : VwAt w base o m L a c S k0 n0) (n : Int) (hr : -9223372036854775808 ≤ n ∧ n ≤ 9223372036854775807) :
    Calls Try.prog 28 #[.pointer (some ⟨o, 0, none⟩), .int .i64 n] w fun e w' => e = .returned (.bool (knAt L n).isSome) ∧ VwAt w' base o m (knDel L n) a c S k0 n0 ∧ Fr [m] w w' := by
  obtain ⟨D, hD, hM⟩ := V.map
  have hkey := keyOfI hr
  have hhas := hM.has n
  have c0 := V.head.at 0 rfl
  have hP := hM.del (hD.tidy lawI) n
  have hDa := fun ob : Obj => hD.alloc ob
  have hlt := V.head.lt
  go_enter Try.func28, Try.ntmps28
  go_wp2_with fail
  refine (none_some V.head).mono ?_
  rintro e w2 ⟨rfl, rfl⟩
  go_wp2_with (first
    | (at_lookup; refine wpList_lookup_own_ok _ rfl _ _ 86 rfl 3 53 lawI Try.underlying86 Rk (zeroK _) (.held (.agg kz)) [] rfl m L.length D rfl hD _ (.int .i64 n) rfl hkey ?_; intro v ps hv; rw [hhas]; obtain ⟨cx, rfl, hcx⟩ := rk_any hM hv; have hsz : (Try.prog.info? 53).map (·.size) = some cx.size := by rw [hcx.1]; kernel_rfl)
    | (refine wpList_store_row rfl 53 _ _ rfl _ _ rfl rfl 53 _ (Blk.new w2 kz 53).h hsz (by rw [hcx.1]; rfl) hcx.2 ?_; rw [World.setRow_alloc_new])
    | (at_delete; refine wpList_delete_own _ rfl _ _ 86 3 rfl 53 lawI Try.underlying86 Rk m L.length D rfl (hDa _) _ (.int .i64 n) rfl hkey ?_; intro w4 hD4 hT4))
  go_ret
  exact ⟨rfl, (V.under ((Below.refl _ _).alloc (Nat.le_refl _) _)).turned hT4 hD4 hP, (Fr.of_below ((Below.refl _ _).alloc (Nat.le_refl _) _)).trans (mapTurned_fr hT4)⟩
theorem fNew_any (w : World) : Calls Try.prog 23 #[] w fun e w' => ∃ o m, e = .returned (.pointer (some ⟨o, 0, none⟩)) ∧ VwAt w' w.heap.size o m [] none 0 [] 0 0 ∧ Below w.heap.size w w' := by
  have hm := run_makeMap (P := Try.prog) 86 w
  go_enter Try.func23, Try.ntmps23
  go_wp2_with fail
  go_ret
  have hb : Below w.heap.size w ((w.alloc (.map #[] 0)).alloc (.cells (vwA (some w.heap.size) none 0 0 0 0) 88)) := by (repeat (first | exact Below.refl _ _ | assumption | refine below_alloc2 ?_ (by first | exact Nat.le_refl _ | omega) _ | refine Below.drew ?_ | refine below_drewN ?_ _ | refine below_push2 ?_ ‹_› (by first | exact Nat.le_refl _ | omega) | refine Below.setCell ?_ (by first | (simp; done) | (simp; omega) | omega) _))
  have B := Blk.new (w.alloc (.map #[] 0)) (vwA (some w.heap.size) none 0 0 0 0) 88
  have hz := World.size_alloc w (.map #[] 0)
  refine ⟨w.heap.size + 1, w.heap.size, rfl, ⟨by rw [← hz]; exact B, ⟨_, (World.ownsMap_made w Try.prog 3 Rk).alloc _, MapOk.nil⟩, OwnR.nil _ _ _ _ _ _, by omega, Nat.le_refl _, by omega, by simp [Value.ownBlock], by simp [Value.ownBlock]⟩, hb⟩
abbrev k39 : Array Value := #[.int .i64 3, .int .u64 9, .int .u64 0, .int .i64 0, .string ⟨#[]⟩, .string ⟨#[]⟩, .bool false, .int .i64 0, .slice none 0 0, .slice none 0 0, .slice none 0 0]
set_option maxRecDepth 20000 in
set_option maxHeartbeats 1600000 in
theorem fLives_any (w : World) : Calls Try.prog 22 #[] w fun e w' => e = .returned (.bool true) ∧ Below w.heap.size w w' := by
  go_enter Try.func22, Try.ntmps22
  go_wp2_with fail
  refine (fNew_any w).mono ?_
  rintro e w1 ⟨o, m, rfl, V1, hb1⟩
  go_wp2_with fail
  refine (at_miss V1 3 (by omega) rfl).mono ?_
  rintro e w2 ⟨rfl, V2, F2⟩
  go_wp2_with fail
  have hb2 := F2.below hb1 (Nat.le_refl _) (by simp; exact V1.lo.1)
  have hb3 := below_alloc2 hb2 (Nat.le_refl _) (.cells kz 53)
  have V3 := V2.under ((Below.refl _ w2).alloc (Nat.le_refl _) (.cells kz 53))
  generalize w2.alloc (.cells kz 53) = w3 at V3 hb3 ⊢
  clear V1 V2 F2 hb1 hb2
  refine (at_miss V3 4 (by omega) rfl).mono ?_
  rintro e w4 ⟨rfl, V4, F4⟩
  have hb4 := F4.below hb3 (Nat.le_refl _) (by simp; exact V3.lo.1)
  have hb5 := below_alloc2 hb4 (Nat.le_refl _) (.cells kz 53)
  have V5 := V4.under ((Below.refl _ w4).alloc (Nat.le_refl _) (.cells kz 53))
  clear V3 V4 F4 hb3 hb4
  go_wp2_with fail
  generalize w4.alloc (.cells kz 53) = w5 at V5 hb5 ⊢
  refine (need_any V5).mono ?_
  rintro e w6 ⟨rfl, hb6⟩
  have V6 := V5.under hb6
  have hb7 := below_push2 hb5 hb6 (Nat.le_refl _)
  clear V5 hb5 hb6
  have hN : nz (missK (missK 0 3) 4) (missN (missK 0 3) (missN 0 0 3) 4) = nz 1 3 := rfl
  rw [hN]
  go_wp2_with fail
  refine (learn_any V6 3 k39 rfl ⟨rfl, by kernel_rfl⟩ rfl (by decide)).mono ?_
  rintro e w8 ⟨rfl, V8, F8⟩
  have hb8 := F8.below hb7 (Nat.le_refl _) (by simp; exact V6.lo.2.1)
  go_wp2_with fail
  refine (forget_any V8 3 (by omega)).mono ?_
  rintro e w9 ⟨rfl, V9, F9⟩
  have hb9 := F9.below hb8 (Nat.le_refl _) (by simp; exact V6.lo.2.1)
  rw [show (knAt (knDel ([] : List Kn) 3 ++ [(3, k39)]) 3).isSome = true from rfl]
  go_wp2_with fail
  refine (forget_any V9 3 (by omega)).mono ?_
  rintro e w10 ⟨rfl, V10, F10⟩
  have hb10 := F10.below hb9 (Nat.le_refl _) (by simp; exact V6.lo.2.1)
  rw [show (knAt (knDel (knDel ([] : List Kn) 3 ++ [(3, k39)]) 3) 3).isSome = false from rfl]
  go_wp2_with fail
  go_ret
  exact ⟨rfl, hb10⟩
end Go.Proofs.Ytbemgfpnoeogdaa.FoP

/-
  Rows that a call owns and appends to, of any things in depth (a codec). No program in sight.
-/
namespace Go.Proofs.Ytbemgfpnoeogdaa.Dp
open Go.RowKit RefP FoP
set_option linter.unusedVariables false
set_option linter.unusedSimpArgs false
def ob (a : Option Addr) : List Nat := match a with | some p => [p.block] | none => []
theorem ob_own {a : Option Addr} {n c g : Nat} (h : (Value.slice a n c).ownBlock = some g) : g ∈ ob a := by
  cases a with
  | none => simp [Value.ownBlock] at h
  | some p => simp [Value.ownBlock] at h; simp [ob, h]
theorem own_ob {a : Option Addr} {n c g : Nat} (h : g ∈ ob a) : (Value.slice a n c).ownBlock = some g := by
  cases a with
  | none => simp [ob] at h
  | some p => simp [ob] at h; simp [Value.ownBlock, h]
/-- a cell of some cells -/
def rawF (cs : List Value) (j : Nat) : Value := if (cs.getD j (.bool false)).oneCell' = true then cs.getD j (.bool false) else .bool false
theorem rawF_one (cs : List Value) (j : Nat) : (rawF cs j).oneCell' = true := by
  unfold rawF
  split
  · assumption
  · rfl
theorem rawF_at {cs : List Value} {j : Nat} {v : Value} (h : cs[j]? = some v) (h1 : ∀ u ∈ cs, u.oneCell' = true) : rawF cs j = v := by
  have e : cs.getD j (.bool false) = v := by rw [List.getD_eq_getElem?_getD, h]; rfl
  unfold rawF
  rw [e, if_pos (h1 v (List.mem_of_getElem? h))]
/-- what a type's row wants to be known of -/
structure TIn (P : Program) (t e : TypeId) (k bytes : Nat) : Prop where
  und : P.underlying t = some (.slice e)
  inf : ∃ i z, P.info? e = some i ∧ i.zero = some z ∧ i.size = k ∧ i.bytes = bytes ∧ z.cells.size = k
theorem tin_mk {P : Program} {t e : TypeId} {z : Value} {k bytes : Nat} (ht : P.underlying t = some (.slice e)) (hi : (P.info? e).map (fun i => (i.zero, i.size, i.bytes)) = some (some z, k, bytes)) (hz : z.cells.size = k) : TIn P t e k bytes := by
  refine ⟨ht, ?_⟩
  cases h : P.info? e with
  | none => rw [h] at hi; cases hi
  | some i =>
    rw [h] at hi
    simp only [Option.map_some, Option.some.injEq, Prod.mk.injEq] at hi
    exact ⟨i, z, rfl, hi.1, hi.2.1, hi.2.2, hz⟩
/-- a row that the call owns, of things in depth -/
structure OwnV {α : Type} (C : Cod α) (wr : World) (S : List Nat) (w : World) (base : Nat) (e : TypeId) (a : Option Addr) (c : Nat) (xs : List α) : Prop where
  raw : ∃ raws : List (List Value), raws.length = xs.length ∧ OwnR C.k rawF [] w base e a c raws ∧ ∀ i x, xs[i]? = some x → C.rep wr S (raws.getD i []) x
variable {α : Type} {C : Cod α}
theorem OwnV.nil (wr : World) (S : List Nat) (w : World) (base : Nat) (e : TypeId) : OwnV C wr S w base e none 0 [] := ⟨[], rfl, OwnR.nil _ _ _ _ _ _, by simp⟩
theorem OwnV.heap {wr : World} {S : List Nat} {w w' : World} {base : Nat} {e : TypeId} {a : Option Addr} {c : Nat} {xs : List α} (h : OwnV C wr S w base e a c xs) (hk : ∀ g ∈ ob a, w'.heap[g]? = w.heap[g]?) : OwnV C wr S w' base e a c xs := by
  obtain ⟨raws, hl, hr, hx⟩ := h.raw
  exact ⟨raws, hl, FoP.OwnR.heap hr (fun g hg => hk g (ob_own hg)), hx⟩
theorem OwnV.lt {wr : World} {S : List Nat} {w : World} {base : Nat} {e : TypeId} {a : Option Addr} {c : Nat} {xs : List α} (h : OwnV C wr S w base e a c xs) : ∀ g ∈ ob a, base ≤ g ∧ g < w.heap.size := by
  obtain ⟨raws, hl, hr, hx⟩ := h.raw
  exact fun g hg => hr.lt g (own_ob hg)
theorem OwnV.below {wr : World} {S : List Nat} {w w' : World} {base : Nat} {e : TypeId} {a : Option Addr} {c : Nat} {xs : List α} (h : OwnV C wr S w base e a c xs) (hb : Below w.heap.size w w') : OwnV C wr S w' base e a c xs :=
  h.heap fun g hg => hb.block g (h.lt g hg).2
theorem OwnV.fr {T : List Nat} {wr : World} {S : List Nat} {w w' : World} {base : Nat} {e : TypeId} {a : Option Addr} {c : Nat} {xs : List α} (h : OwnV C wr S w base e a c xs) (F : Fr T w w') (hT : ∀ g ∈ ob a, g ∉ T) : OwnV C wr S w' base e a c xs :=
  h.heap fun g hg => F.block g (h.lt g hg).2 (hT g hg)
theorem OwnV.keep {wr wr' : World} {S : List Nat} {w : World} {base : Nat} {e : TypeId} {a : Option Addr} {c : Nat} {xs : List α} (h : OwnV C wr S w base e a c xs) (k : Keeps S wr wr') : OwnV C wr' S w base e a c xs := by
  obtain ⟨raws, hl, hr, hx⟩ := h.raw
  exact ⟨raws, hl, hr, fun i x hi => C.keep (hx i x hi) k⟩
theorem OwnV.more {wr : World} {S S' : List Nat} {w : World} {base : Nat} {e : TypeId} {a : Option Addr} {c : Nat} {xs : List α} (h : OwnV C wr S w base e a c xs) (k : ∀ b ∈ S', b ∈ S ∨ wr.heap.size ≤ b) : OwnV C wr S' w base e a c xs := by
  obtain ⟨raws, hl, hr, hx⟩ := h.raw
  exact ⟨raws, hl, hr, fun i x hi => C.more (hx i x hi) k⟩
theorem OwnV.rep {wr wr' : World} {S S' : List Nat} {w : World} {base : Nat} {e : TypeId} {a : Option Addr} {c : Nat} {xs : List α} (h : OwnV C wr S w base e a c xs) (k : ∀ cs x, C.rep wr S cs x → C.rep wr' S' cs x) : OwnV C wr' S' w base e a c xs := by
  obtain ⟨raws, hl, hr, hx⟩ := h.raw
  exact ⟨raws, hl, hr, fun i x hi => k _ _ (hx i x hi)⟩
theorem OwnV.lower {wr : World} {S : List Nat} {w : World} {base b' : Nat} {e : TypeId} {a : Option Addr} {c : Nat} {xs : List α} (h : OwnV C wr S w base e a c xs) (hb : b' ≤ base) : OwnV C wr S w b' e a c xs := by
  obtain ⟨raws, hl, hr, hx⟩ := h.raw
  exact ⟨raws, hl, hr.lower hb, hx⟩
theorem ownR_cap {β : Type} {k : Nat} {f : β → Nat → Value} {d : β} {w : World} {base : Nat} {e : TypeId} {a : Option Addr} {c : Nat} {l : List β} (h : OwnR k f d w base e a c l) : l.length ≤ c ∧ c ≤ maxLen := by
  rcases h.own.2 with q | ⟨g, cap, cur, e', hg, hh, hn, hm, hs, r⟩
  · have := q.1
    injection this with e1 e2 e3
    subst e3
    exact ⟨by omega, Nat.zero_le _⟩
  · injection e' with e1 e2 e3
    subst e3
    exact ⟨hn, hm⟩
/-- read as a row -/
theorem OwnV.hrow {S : List Nat} {w : World} {base : Nat} {e : TypeId} {a : Option Addr} {c : Nat} {xs : List α} (h : OwnV C w S w base e a c xs) (hk : 0 < C.k) (hS : ∀ g ∈ ob a, g ∉ S) : HRow C w S ⟨a, c⟩ xs := by
  obtain ⟨raws, hl, hr, hx⟩ := h.raw
  have hcap := ownR_cap hr
  refine ⟨by show xs.length ≤ c; omega, hcap.2, fun h0 => ?_⟩
  obtain ⟨b, off, ha, hb, _⟩ := hr.read.cell 0 (by omega) hk
  refine ⟨b, off, ha, hb, hS b (by show b ∈ ob a; rw [ha]; simp [ob]), fun i x hi => ?_⟩
  have hix : i < xs.length := (List.getElem?_eq_some_iff.1 hi).1
  obtain ⟨b', off', ha', _, hc⟩ := hr.read.cell i (by omega) hk
  rw [ha] at ha'
  simp only [Option.some.injEq, Addr.mk.injEq, and_true] at ha'
  obtain ⟨rfl, rfl⟩ := ha'
  have hrep := hx i x hi
  refine ⟨_, hrep, fun j v hj => ?_⟩
  have hj' : j < C.k := by rw [← C.len hrep]; exact (List.getElem?_eq_some_iff.1 hj).1
  rw [hc j hj', rawF_at hj (C.one hrep)]
/-- the cells of a row -/
theorem HRow.raws {w : World} {S : List Nat} {h : Hd} {xs : List α} (H : HRow C w S h xs) (hk : 0 < C.k) : ∃ raws : List (List Value), raws.length = xs.length ∧ RecS C.k rawF [] w h.a raws ∧ ∀ i x, xs[i]? = some x → C.rep w S (raws.getD i []) x := by
  by_cases h0 : 0 < xs.length
  · obtain ⟨b, off, ha, hb, hs, hc⟩ := H.row h0
    obtain ⟨raws, hl, hp⟩ := list_of_get xs.length (fun i cs => ∀ x, xs[i]? = some x → C.rep w S cs x ∧ ∀ j v, cs[j]? = some v → w.cell? ⟨b, off + i * C.k + j, none⟩ = some v) (fun i hi => by
      obtain ⟨cs, hr, hv⟩ := hc i xs[i] (List.getElem?_eq_getElem hi)
      refine ⟨cs, fun x hx => ?_⟩
      rw [List.getElem?_eq_getElem hi] at hx
      cases hx
      exact ⟨hr, hv⟩)
    have hat : ∀ i, i < xs.length → raws[i]? = some (raws.getD i []) := fun i hi => by
      rw [List.getD_eq_getElem?_getD, List.getElem?_eq_getElem (by omega)]; rfl
    refine ⟨raws, hl, ⟨⟨fun _ => ⟨b, off, ha, hb, fun m hm => ?_⟩⟩⟩, fun i x hx => ?_⟩
    · have hi := rec_div hm
      rw [hl] at hi
      have hj := Nat.mod_lt m hk
      obtain ⟨hr, hv⟩ := hp _ _ (hat _ hi) _ (List.getElem?_eq_getElem hi)
      have hcl := C.len hr
      have hget : (raws.getD (m / C.k) [])[m % C.k]? = some (raws.getD (m / C.k) [])[m % C.k] := List.getElem?_eq_getElem (by omega)
      have e : off + m = off + m / C.k * C.k + m % C.k := by
        have := Nat.div_add_mod m C.k
        rw [Nat.mul_comm] at this; omega
      rw [e, hv _ _ hget]
      unfold recF
      rw [rawF_at hget (C.one hr)]
    · have hi : i < xs.length := (List.getElem?_eq_some_iff.1 hx).1
      exact (hp _ _ (hat _ hi) x hx).1
  · have e : xs = [] := List.eq_nil_of_length_eq_zero (by omega)
    subst e
    exact ⟨[], rfl, RecS.nil _ _ _ _ _, by simp⟩
/-- what appending tells -/
structure AddedV (P : Program) (C : Cod α) (wr : World) (S : List Nat) (w : World) (base : Nat) (t e : TypeId) (a : Option Addr) (c n : Nat) (v : Value) (m : Nat) (xs' : List α) (g cap : Nat) (w' : World) : Prop where
  run : ∀ ty, (Builtin.append_ #[t, t] ty #[.slice a n c, v]).run P w = .ok (.slice (some ⟨g, 0, none⟩) (n + m) cap) w'
  own : OwnV C wr S w' base e (some ⟨g, 0, none⟩) cap xs'
  fr : Fr (ob a) w w'
  lt : g < w'.heap.size
  ge : base ≤ g
  at' : g ∈ ob a ∨ g = w.heap.size
theorem OwnV.addRaw {P : Program} {t e : TypeId} {bytes : Nat} (T : TIn P t e C.k bytes) (hk : 0 < C.k) {wr : World} {S : List Nat} {w : World} {base : Nat} {a : Option Addr} {c : Nat} {xs : List α} (h : OwnV C wr S w base e a c xs)
    {b : Option Addr} {c' : Nat} {ys : List α} {raws2 : List (List Value)} (hl2 : raws2.length = ys.length) (hr2 : RecS C.k rawF [] w b raws2) (hx2 : ∀ i x, ys[i]? = some x → C.rep wr S (raws2.getD i []) x) (h0 : 0 < ys.length) (hm : xs.length + ys.length ≤ maxLen) (hn : (xs.length + ys.length) * bytes ≤ 140737488355328) (hbase : base ≤ w.heap.size) :
    ∃ g cap w', AddedV P C wr S w base t e a c xs.length (.slice b ys.length c') ys.length (xs ++ ys) g cap w' := by
  obtain ⟨raws, hl, hr, hx⟩ := h.raw
  obtain ⟨i, z, hi, hz, hsize, hby, hzs⟩ := T.inf
  obtain ⟨g, cap, w', A⟩ := addRecs (P := P) (c' := c') base t e i z bytes T.und hi hz hsize hby hzs hk (fun x j _ => rawF_one x j) hr hr2 (by omega) (by rw [hl, hl2]; exact hm) (by rw [hl, hl2]; exact hn) hbase
  refine ⟨g, cap, w', ⟨fun ty => ?_, ⟨raws ++ raws2, by simp [hl, hl2], A.own, fun i x hi => ?_⟩, Fr.of_grown A.grown (fun q hq => ob_own hq), A.lt, A.ge, ?_⟩⟩
  · have := A.run ty
    rw [hl, hl2] at this
    exact this
  · by_cases hlt : i < xs.length
    · rw [List.getElem?_append_left hlt] at hi
      rw [List.getD_eq_getElem?_getD, List.getElem?_append_left (by omega), ← List.getD_eq_getElem?_getD]
      exact hx i x hi
    · rw [List.getElem?_append_right (by omega)] at hi
      rw [List.getD_eq_getElem?_getD, List.getElem?_append_right (by omega), ← List.getD_eq_getElem?_getD, hl]
      exact hx2 _ x hi
  · rcases A.at' with q | q
    · exact .inl (ob_own q)
    · exact .inr q
/-- one is appended: its block is made ahead -/
theorem OwnV.addLit {P : Program} {t e : TypeId} {bytes : Nat} (T : TIn P t e C.k bytes) (hk : 0 < C.k) {wr : World} {S : List Nat} {w : World} {base : Nat} {a : Option Addr} {c : Nat} {xs : List α} (h : OwnV C wr S w base e a c xs)
    {b : Nat} {cs : Array Value} {T' : TypeId} (B : Blk w b cs T') {x : α} (hr : C.rep wr S cs.toList x) (hm : xs.length + 1 ≤ 60000) (hby : bytes ≤ 1000) (hbase : base ≤ w.heap.size) :
    ∃ g cap w', AddedV P C wr S w base t e a c xs.length (.slice (some ⟨b, 0, none⟩) 1 1) 1 (xs ++ [x]) g cap w' := by
  have hlen := C.len hr
  have hR : RecS C.k rawF [] w (some ⟨b, 0, none⟩) [cs.toList] := rec_lit B cs.toList (fun j hj => by
    have hj' : j < cs.size := by rw [← Array.length_toList]; omega
    have e : cs.toList[j]? = some cs[j] := by simp [hj']
    rw [rawF_at e (C.one hr)]
    simp [hj'])
  have hmul : (xs.length + 1) * bytes ≤ 60000 * 1000 := Nat.mul_le_mul hm hby
  exact h.addRaw T hk (ys := [x]) (c' := 1) rfl hR (fun i y hi => by
    cases i with
    | zero => simp at hi; subst hi; simpa using hr
    | succ i => simp at hi) (by simp) (by simp [maxLen]; omega) (by simp only [List.length_singleton]; omega) hbase
/-- what appending any row tells -/
structure AddsV (P : Program) (C : Cod α) (wr : World) (S : List Nat) (w : World) (base : Nat) (t e : TypeId) (a : Option Addr) (c n : Nat) (v : Value) (xs' : List α) (a' : Option Addr) (cap : Nat) (w' : World) : Prop where
  run : ∀ ty, (Builtin.append_ #[t, t] ty #[.slice a n c, v]).run P w = .ok (.slice a' xs'.length cap) w'
  own : OwnV C wr S w' base e a' cap xs'
  fr : Fr (ob a) w w'
  at' : ∀ g ∈ ob a', g ∈ ob a ∨ g = w.heap.size
theorem OwnV.addRow {P : Program} {t e : TypeId} {bytes : Nat} (T : TIn P t e C.k bytes) (hk : 0 < C.k) {wr : World} {S : List Nat} {w : World} {base : Nat} {a : Option Addr} {c : Nat} {xs : List α} (h : OwnV C wr S w base e a c xs)
    {S2 : List Nat} {q : Hd} {ys : List α} (H : HRow C w S2 q ys) (hx2 : ∀ cs x, C.rep w S2 cs x → C.rep wr S cs x) (hm : xs.length + ys.length ≤ 60000) (hby : bytes ≤ 1000) (hbase : base ≤ w.heap.size) :
    ∃ a' cap w', AddsV P C wr S w base t e a c xs.length (.slice q.a ys.length q.c) (xs ++ ys) a' cap w' := by
  by_cases h0 : 0 < ys.length
  · obtain ⟨raws2, hl2, hr2, hp2⟩ := H.raws hk
    have hmul : (xs.length + ys.length) * bytes ≤ 60000 * 1000 := Nat.mul_le_mul hm hby
    obtain ⟨g, cap, w', A⟩ := h.addRaw T hk (c' := q.c) hl2 hr2 (fun i x hi => hx2 _ _ (hp2 i x hi)) h0 (by simp [maxLen]; omega) (by omega) hbase
    refine ⟨_, cap, w', fun ty => ?_, A.own, A.fr, fun g' hg' => ?_⟩
    · rw [List.length_append]; exact A.run ty
    · simp [ob] at hg'; subst hg'; exact A.at'
  · have e : ys = [] := List.eq_nil_of_length_eq_zero (by omega)
    subst e
    obtain ⟨i, z, hi, hz, hsize, hby, hzs⟩ := T.inf
    obtain ⟨raws, hl, hr, hx⟩ := h.raw
    refine ⟨a, c, w, fun ty => ?_, by simpa using h, Fr.refl _ _, fun g hg => .inl hg⟩
    have := append_none (P := P) t ty e i C.k T.und hi _ _ _ hr.own q.a q.c
    rw [hl] at this
    simpa using this
end Go.Proofs.Ytbemgfpnoeogdaa.Dp

/-
  A struct of many cells, loaded in a region that draws its order and whose calls make memory: one step, whatever its number of cells.
-/
namespace Go.Proofs.Ytbemgfpnoeogdaa.QuietRow
open Go.Sort Go.RowKit
theorem quiet_load_mid {P : Program} {C : World → Prop} {K : Act → Prop} {op : Oper} {a : Act} (ty : TypeId) (x : Operand) (ho : op.op = .load ty x)
    (b o : Nat) (hx : a.eval x = .pointer (some ⟨b, o, none⟩)) (cs : List Value) (d : TypeDesc) (hc : ∀ w, C w → w.rangeAt b o cs)
    (hu : P.underlying ty = some d) (hd : d.isRow = true) (hi : (P.info? ty).map (·.size) = some cs.length)
    (h : K (a.put op.dst (.agg cs.toArray))) : op.quiet P a C K :=
  ⟨_, fun w hw => by
    unfold Oper.quietAt execOp
    simp only [ho, hx, Instr.loadAt, Instr.sureAddr, Sem.run_bind, Sem.run_pure, Result.andThen_ok, run_loadVar_mid w b o ty cs d (hc w hw) hu hd hi]
    exact ⟨rfl, rfl⟩, h⟩
theorem quiet_load_arr {P : Program} {C : World → Prop} {K : Act → Prop} {op : Oper} {a : Act} (ty : TypeId) (x : Operand) (ho : op.op = .load ty x)
    (b o : Nat) (hx : a.eval x = .pointer (some ⟨b, o, none⟩)) (cs : Array Value) (d : TypeDesc) (hc : ∀ w, C w → w.rangeAt b o cs.toList)
    (hu : P.underlying ty = some d) (hd : d.isRow = true) (hi : (P.info? ty).map (·.size) = some cs.size)
    (h : K (a.put op.dst (.agg cs))) : op.quiet P a C K :=
  quiet_load_mid ty x ho b o hx cs.toList d hc hu hd (by simpa using hi) (by simpa using h)
theorem range_regrown {w : World} {b o : Nat} {cs : List Value} (h : w.rangeAt b o cs) : ∀ w', (∃ p : Regrown, w' = grow (redrawn w p.d) p.os) → w'.rangeAt b o cs := by
  rintro w' ⟨p, rfl⟩ j v hj
  exact cell_regrown (h j v hj) p.d p.os
/-- one world alone -/
theorem still_of_quiet {P : Program} {ops : Array Oper} {w : World} {Q : Act → Prop} : ∀ (l : List Oper) (a : Act), wpQuiet P ops (fun w' => w' = w) Q l a → wpStill P ops w Q l a
  | [], a, h => h
  | o :: rest, a, h => by
    unfold wpQuiet at h
    unfold wpStill
    by_cases hw : Region.wanted o (yielded ops a.tmps) = true
    · rw [if_pos hw] at h ⊢
      obtain ⟨v, h1, h2⟩ := h
      have h3 := h1 w rfl
      have h4 := still_of_quiet rest _ h2
      unfold Oper.quietAt at h3
      unfold Oper.still
      generalize (execOp a.eval o).run P w = r at h3 ⊢
      cases r with
      | ok n w' =>
        cases n with
        | value u =>
          obtain ⟨rfl, rfl⟩ := h3
          exact ⟨rfl, h4⟩
        | skip =>
          obtain ⟨rfl, rfl⟩ := h3
          exact ⟨rfl, h4⟩
        | enter f args =>
          obtain ⟨rfl, h5⟩ := h3
          exact ⟨rfl, v, h5, h4⟩
        | _ => exact h3.elim
      | _ => exact h3.elim
    · rw [if_neg hw] at h ⊢
      exact still_of_quiet rest _ h
theorem tail_quiet {P : Program} {id : Nat} {Q : Exit → Act → World → Prop} {a : Act} {w : World} {l : List Oper} (n : Nat) (hm : P.follows .mixedOrders = true) (hB : Region.lexTailB .any l.toArray n = true)
    (h : wpQuiet P l.toArray (fun w' => w' = w.drew) (fun a' => wpList P l.toArray Q (l.drop n) a' w.drew) (l.take n) a) : (Code.region id l.toArray true).wp P Q a w :=
  wp_region_still_tail n hm hB (still_of_quiet _ _ h)
end Go.Proofs.Ytbemgfpnoeogdaa.QuietRow

/-
  The document's views: what lies in memory; Cell, Lack, Find: contracts.
-/
namespace Go.Proofs.Ytbemgfpnoeogdaa.FoP
open Go.RowKit RefP Go.Maps Dp
set_option linter.unusedVariables false
set_option linter.unusedSimpArgs false
/-- cells as they are -/
def rawC (k : Nat) : Cod (List Value) where
  k := k
  rep _ _ cs x := cs = x ∧ x.length = k ∧ ∀ v ∈ x, v.oneCell' = true
  len h := by rw [h.1]; exact h.2.1
  one h := by rw [h.1]; exact h.2.2
  keep h _ := h
  more h _ := h
theorem raw_at {k : Nat} {w : World} {S : List Nat} {h : Hd} {xs : List (List Value)} (H : HRow (rawC k) w S h xs) (i : Nat) (hi : i < xs.length) : ∃ b off, h.a = some ⟨b, off, none⟩ ∧ b < w.heap.size ∧ w.rangeAt b (off + i * k) xs[i] := by
  obtain ⟨b, off, e, hb, _, hc⟩ := H.row (by omega)
  obtain ⟨cs, ⟨rfl, _⟩, hv⟩ := hc i xs[i] (List.getElem?_eq_getElem hi)
  exact ⟨b, off, e, hb, hv⟩
def spC : Cod Sp := isoC (pairC i64C (pairC u64C unitC)) (fun p => (p.1, p.2, ()))
abbrev spL (x : Sp) : List Value := [.int .i64 x.1, .int .u64 x.2]
theorem spC_of {w : World} {S : List Nat} {cs : List Value} {x : Sp} (h : spC.rep w S cs x) : cs = spL x ∧ I64 x.1 ∧ U64 x.2 := by
  obtain ⟨_, _, rfl, ⟨rfl, h0⟩, _, _, rfl, ⟨rfl, h1⟩, rfl⟩ := h
  exact ⟨rfl, I64.of h0, U64.of h1⟩
theorem spC_mk {w : World} {S : List Nat} {x : Sp} (h0 : I64 x.1) (h1 : U64 x.2) : spC.rep w S (spL x) x := ⟨[_], _, rfl, ⟨rfl, wf_i64 h0⟩, [_], [], rfl, ⟨rfl, wf_u64 h1⟩, rfl⟩
theorem sp_at {w : World} {S : List Nat} {h : Hd} {xs : List Sp} (H : HRow spC w S h xs) (i : Nat) (hi : i < xs.length) : ∃ b off, h.a = some ⟨b, off, none⟩ ∧ b < w.heap.size ∧ w.cell? ⟨b, off + i * 2, none⟩ = some (.int .i64 xs[i].1) ∧ w.cell? ⟨b, off + i * 2 + 1, none⟩ = some (.int .u64 xs[i].2) ∧ I64 xs[i].1 ∧ U64 xs[i].2 := by
  obtain ⟨b, off, e, hb, _, hc⟩ := H.row (by omega)
  obtain ⟨cs, hr, hv⟩ := hc i xs[i] (List.getElem?_eq_getElem hi)
  obtain ⟨rfl, h0, h1⟩ := spC_of hr
  exact ⟨b, off, e, hb, hv 0 _ rfl, hv 1 _ rfl, h0, h1⟩
/-- the cells of a known -/
abbrev knL (L : List Kn) : List (List Value) := L.map (·.2.toList)
abbrev rvA (kh sh : Hd) (ln sn : Nat) (k n : Int) : Array Value := #[.slice kh.a ln kh.c, .slice sh.a sn sh.c, .int .i64 k, .int .i64 n]
structure RV (w : World) (kh sh : Hd) (L : List Kn) (S : List Sp) : Prop where
  kn : HRow (rawC 11) w [] kh (knL L)
  sp : HRow spC w [] sh S
  hd : ∀ p ∈ L, p.2[0]? = some (.int .i64 p.1)
  ok : ∀ p ∈ L, p.2.size = 11 ∧ p.2.all (·.oneCell') = true
  ll : L.length ≤ 100
  sl : S.length ≤ 100
theorem RV.below {w w' : World} {kh sh : Hd} {L : List Kn} {S : List Sp} (h : RV w kh sh L S) (hb : Below w.heap.size w w') : RV w' kh sh L S := ⟨h.kn.keep (Keeps.of_below hb), h.sp.keep (Keeps.of_below hb), h.hd, h.ok, h.ll, h.sl⟩
theorem RV.at {w : World} {kh sh : Hd} {L : List Kn} {S : List Sp} (h : RV w kh sh L S) (i : Nat) (hi : i < L.length) : ∃ b off, kh.a = some ⟨b, off, none⟩ ∧ b < w.heap.size ∧ w.rangeAt b (off + i * 11) L[i].2.toList ∧ w.cell? ⟨b, off + i * 11, none⟩ = some (.int .i64 L[i].1) := by
  obtain ⟨b, off, e, hb, hr⟩ := raw_at h.kn i (by simpa using hi)
  simp only [List.getElem_map] at hr
  refine ⟨b, off, e, hb, hr, hr 0 _ ?_⟩
  have := h.hd L[i] (List.getElem_mem hi)
  simpa using this
theorem rcell_any (w : World) (n : Int) : Calls Try.prog 17 #[.int .i64 n] w fun e w' => e = .returned (.bool (cellB n)) ∧ w' = w := by
  by_cases h0 : 0 ≤ n
  · by_cases h1 : n < 8192
    · have hE : Hid (cellB n = true) := Lib.hid (by simp [cellB, h0, h1])
      go_enter Try.func17, Try.ntmps17
      go_wp2_with fail
      go_ret
      exact ⟨by rw [hE.out]; rfl, rfl⟩
    · have hE : Hid (cellB n = false) := Lib.hid (by simp [cellB, h1])
      have h1' : 8192 ≤ n := by omega
      go_enter Try.func17, Try.ntmps17
      go_wp2_with fail
      go_ret
      exact ⟨by rw [hE.out]; rfl, rfl⟩
  · have hE : Hid (cellB n = false) := Lib.hid (by simp [cellB, h0])
    have h0' : n < 0 := by omega
    go_enter Try.func17, Try.ntmps17
    go_wp2_with fail
    go_ret
    exact ⟨by rw [hE.out]; rfl, rfl⟩
abbrev rz : Array Value := #[.slice none 0 0, .slice none 0 0, .int .i64 0, .int .i64 0]
set_option maxHeartbeats 1600000 in
theorem rlack_any (kh sh : Hd) (ln sn : Nat) (k0 n0 k n : Int) (w : World) : Calls Try.prog 35 #[.agg (rvA kh sh ln sn k0 n0), .int .i64 k, .int .i64 n] w fun e w' => e = .returned (.agg (rvA kh sh ln sn (lackK k0 k) (lackN k0 n0 n))) ∧ Below w.heap.size w w' := by
  have hb : Below w.heap.size w ((w.alloc (.cells (rvA kh sh ln sn k0 n0) 58)).alloc (.cells rz 58)) := by (repeat (first | exact Below.refl _ _ | assumption | refine below_alloc2 ?_ (by first | exact Nat.le_refl _ | omega) _ | refine Below.drew ?_ | refine below_drewN ?_ _ | refine below_push2 ?_ ‹_› (by first | exact Nat.le_refl _ | omega) | refine Below.setCell ?_ (by first | (simp; done) | (simp; omega) | omega) _))
  have BV := (Blk.new w (rvA kh sh ln sn k0 n0) 58).alloc (.cells rz 58)
  have BR := Blk.new (w.alloc (.cells (rvA kh sh ln sn k0 n0) 58)) rz 58
  rw [World.size_alloc] at BR
  go_enter Try.func35, Try.ntmps35
  go_upto_region 1 with (fail)
  generalize (w.alloc (.cells (rvA kh sh ln sn k0 n0) 58)).alloc (.cells rz 58) = w1 at hb BV BR ⊢
  have c0 := BV.at 0 rfl
  have c1 := BV.at 1 rfl
  have c2 := BV.at 2 rfl
  have c3 := BV.at 3 rfl
  have f2 := BV.free 2
  have f3 := BV.free 3
  by_cases h : k0 = 0
  · subst h
    have B2 : Blk ((w1.setCell ⟨w.heap.size, 2, none⟩ (.int .i64 k)).setCell ⟨w.heap.size, 3, none⟩ (.int .i64 n)) (w.heap.size + 1) rz 58 := (BR.far _ _ (by simp)).far _ _ (by simp)
    go_wp2_with (refine wpList_store_row rfl 58 _ _ rfl (w.heap.size + 1) _ rfl rfl 58 _ B2.h (by kernel_rfl) (by rfl) (by kernel_rfl) ?_)
    refine bodyPost_ret (results_cell_row rfl _ _ (w.heap.size + 1) 58 (rvA kh sh ln sn k n) (0, 0) _ rfl (Blk.row B2 _).h Try.underlying58 rfl (by kernel_rfl)) rfl ⟨by simp [lackK, lackN], below_setRow ((hb.setCell (Nat.le_refl _) _).setCell (Nat.le_refl _) _) (by omega) _⟩
  · have hk : (k0 == 0) = false := by simpa using h
    have hE : Hid (lackK k0 k = k0 ∧ lackN k0 n0 n = n0) := Lib.hid ⟨by simp [lackK, h], by simp [lackN, h]⟩
    clear h
    go_wp2_with (refine wpList_store_row rfl 58 _ _ rfl (w.heap.size + 1) _ rfl rfl 58 _ BR.h (by kernel_rfl) (by rfl) (by kernel_rfl) ?_)
    refine bodyPost_ret (results_cell_row rfl _ _ (w.heap.size + 1) 58 (rvA kh sh ln sn k0 n0) (0, 0) _ rfl (Blk.row BR _).h Try.underlying58 rfl (by kernel_rfl)) rfl ⟨by rw [hE.out.1, hE.out.2], below_setRow hb (by omega) _⟩
def FoundAt (L : List Kn) (n r : Int) : Prop := (r = -1 ∧ knAt L n = none) ∨ ∃ (i : Nat) (h : i < L.length), r = i ∧ L[i].1 = n ∧ knAt L n = some L[i].2
theorem found_no {L : List Kn} {n : Int} (h : ∀ j (hj : j < L.length), L[j].1 ≠ n) : FoundAt L n (-1) := by
  refine .inl ⟨rfl, ?_⟩
  unfold knAt
  rw [Option.map_eq_none_iff, List.find?_eq_none]
  intro p hp
  obtain ⟨j, hj, rfl⟩ := List.getElem_of_mem hp
  simpa using h j hj
theorem found_yes {L : List Kn} {n : Int} {i : Nat} (hi : i < L.length) (h : ∀ j (hj : j < L.length), j < i → L[j].1 ≠ n) (he : L[i].1 = n) : FoundAt L n i := by
  refine .inr ⟨i, hi, rfl, he, ?_⟩
  unfold knAt
  rw [show L.find? (fun p => p.1 == n) = some L[i] from ?_]
  · rfl
  rw [List.find?_eq_some_iff_getElem]
  refine ⟨by simpa using he, i, hi, rfl, fun j hj => ?_⟩
  simpa using h j (by omega) hj
set_option maxHeartbeats 1600000 in
theorem rfind_any {w : World} {kh sh : Hd} {L : List Kn} {S : List Sp} (H : RV w kh sh L S) (k0 n0 n : Int) : Calls Try.prog 18 #[.agg (rvA kh sh L.length S.length k0 n0), .int .i64 n] w fun e w' => ∃ r, e = .returned (.int .i64 r) ∧ FoundAt L n r ∧ Below w.heap.size w w' := by
  have hb : Below w.heap.size w (w.alloc (.cells (rvA kh sh L.length S.length k0 n0) 58)) := by (repeat (first | exact Below.refl _ _ | assumption | refine below_alloc2 ?_ (by first | exact Nat.le_refl _ | omega) _ | refine Below.drew ?_ | refine below_drewN ?_ _ | refine below_push2 ?_ ‹_› (by first | exact Nat.le_refl _ | omega) | refine Below.setCell ?_ (by first | (simp; done) | (simp; omega) | omega) _))
  have BV := Blk.new w (rvA kh sh L.length S.length k0 n0) 58
  go_enter Try.func18, Try.ntmps18
  go_upto_region 1 with (fail)
  generalize w.alloc (.cells (rvA kh sh L.length S.length k0 n0) 58) = w1 at hb BV ⊢
  have H1 := H.below hb
  have c0 := BV.at 0 rfl
  have hll := H.ll
  go_wp2_with fail
  go_loop [5] (fun i => ∃ k : Nat, k ≤ L.length ∧ i = .int .i64 k ∧ Hid (∀ j (hj : j < L.length), j < k → L[j].1 ≠ n)) (fun i => L.length - (intOf i).toNat)
  case atStart => exact ⟨0, Nat.zero_le _, rfl, Lib.hid fun j _ h => absurd h (by omega)⟩
  case round =>
    obtain ⟨k, hk, rfl, hall⟩ := hrel
    by_cases hlt : k < L.length
    · have hlt' : (k : Int) < (L.length : Int) := by omega
      obtain ⟨b, off, ha, hbl, hcs, x0⟩ := H1.at k hlt
      have a0 : w1.cell? ⟨w.heap.size, 0, none⟩ = some (.slice (some ⟨b, off, none⟩) L.length kh.c) := by rw [← ha]; exact c0
      clear c0 hcs
      by_cases he : L[k].1 = n
      · have hE := Lib.hid (found_yes hlt hall.out he)
        rw [he] at x0
        clear he
        go_wp2_with fail
        go_ret
        exact ⟨_, rfl, hE.out, hb⟩
      · have hN : Hid (∀ j (hj : j < L.length), j < k + 1 → L[j].1 ≠ n) := Lib.hid fun j hj hjk => by
          by_cases e : j = k
          · subst e; exact he
          · exact hall.out j hj (by omega)
        have hne : (L[k].1 == n) = false := by simpa using he
        generalize L[k].1 = x at x0 hne
        clear he
        go_wp2_with fail
        go_round
        case rel => exact ⟨k + 1, by omega, by go_num, hN⟩
        case measure => simp [intOf]; omega
    · obtain rfl : k = L.length := by omega
      have hE := Lib.hid (found_no fun j hj => hall.out j hj hj)
      go_wp2_with fail
      go_ret
      exact ⟨_, rfl, hE.out, hb⟩
end Go.Proofs.Ytbemgfpnoeogdaa.FoP

/-
  The document's views: Forget, Learn: contracts.
-/
namespace Go.Proofs.Ytbemgfpnoeogdaa.FoP
open Go.RowKit RefP Go.Maps Dp
set_option linter.unusedVariables false
set_option linter.unusedSimpArgs false
theorem infoKnown : (Try.prog.info? 53).map (fun i => (i.zero, i.size, i.bytes)) = some (some (.agg kz), 11, 152) := by kernel_rfl
theorem tinKnown : TIn Try.prog 48 53 11 152 := tin_mk Try.underlying48 infoKnown (by simp [Value.cells])
theorem knDel_take_eq {L : List Kn} {n : Int} {k : Nat} (h : k < L.length) (e : L[k].1 = n) : knDel (L.take (k + 1)) n = knDel (L.take k) n := by
  rw [List.take_succ_eq_append_getElem h, knDel, List.filter_append]
  simp [knDel, e]
theorem knDel_take_ne {L : List Kn} {n : Int} {k : Nat} (h : k < L.length) (e : L[k].1 ≠ n) : knDel (L.take (k + 1)) n = knDel (L.take k) n ++ [L[k]] := by
  rw [List.take_succ_eq_append_getElem h, knDel, List.filter_append]
  simp [knDel, e]
theorem knDel_le (L : List Kn) (n : Int) : (knDel L n).length ≤ L.length := List.length_filter_le _ _
theorem raw_mk {w : World} {S : List Nat} {cs : Array Value} (h : cs.size = 11 ∧ cs.all (·.oneCell') = true) : (rawC 11).rep w S cs.toList cs.toList := ⟨rfl, by simpa using h.1, fun v hv => by
  have := Array.all_eq_true_iff_forall_mem.1 h.2 v (by simpa using hv)
  simpa using this⟩
theorem arr11 {cs : Array Value} (h : cs.size = 11) : ∃ v0 v1 v2 v3 v4 v5 v6 v7 v8 v9 v10, cs = #[v0, v1, v2, v3, v4, v5, v6, v7, v8, v9, v10] := by
  obtain ⟨l⟩ := cs
  match l, h with
  | [v0, v1, v2, v3, v4, v5, v6, v7, v8, v9, v10], _ => exact ⟨v0, v1, v2, v3, v4, v5, v6, v7, v8, v9, v10, rfl⟩
abbrev OwnK (w : World) (base : Nat) (a : Option Addr) (c : Nat) (L : List Kn) : Prop := OwnV (rawC 11) w [] w base 53 a c (knL L)
set_option maxRecDepth 100000 in
set_option maxHeartbeats 3200000 in
/-- the document's view, its row of knowns the call's own -/
theorem rforget_any {w : World} {kh sh : Hd} {L : List Kn} {S : List Sp} (H : RV w kh sh L S) (k0 n0 n : Int) : Calls Try.prog 29 #[.agg (rvA kh sh L.length S.length k0 n0), .int .i64 n] w fun e w' => ∃ a c, e = .returned (.agg (rvA ⟨a, c⟩ sh (knDel L n).length S.length k0 n0)) ∧ Below w.heap.size w w' ∧ OwnK w' w.heap.size a c (knDel L n) := by
  have hb : Below w.heap.size w ((w.alloc (.cells (rvA kh sh L.length S.length k0 n0) 58)).alloc (.cells rz 58)) := by (repeat (first | exact Below.refl _ _ | assumption | refine below_alloc2 ?_ (by first | exact Nat.le_refl _ | omega) _ | refine Below.drew ?_ | refine below_drewN ?_ _ | refine below_push2 ?_ ‹_› (by first | exact Nat.le_refl _ | omega) | refine Below.setCell ?_ (by first | (simp; done) | (simp; omega) | omega) _))
  have BV := (Blk.new w (rvA kh sh L.length S.length k0 n0) 58).alloc (.cells rz 58)
  have BR := Blk.new (w.alloc (.cells (rvA kh sh L.length S.length k0 n0) 58)) rz 58
  rw [World.size_alloc] at BR
  have hll := H.ll
  go_enter Try.func29, Try.ntmps29
  go_upto_region 1 with (fail)
  generalize (w.alloc (.cells (rvA kh sh L.length S.length k0 n0) 58)).alloc (.cells rz 58) = w1 at hb BV BR ⊢
  have H1 := H.below hb
  have hz1 : w.heap.size + 1 < w1.heap.size := BR.lt
  go_wp2_with fail
  go_loopg [5, 6] L.length (fun gg v5 i wr => ∃ (k : Nat) (a : Option Addr) (c : Nat), k ≤ L.length ∧ L.length ≤ k + gg ∧ i = .int .i64 k ∧ v5 = .slice a (knDel (L.take k) n).length c ∧ Below w1.heap.size w1 wr ∧ OwnK wr w1.heap.size a c (knDel (L.take k) n))
  case atStart => exact ⟨0, none, 0, Nat.zero_le _, by omega, rfl, by simp [knDel], Below.refl _ _, by rw [List.take_zero]; exact OwnV.nil _ _ _ _ _⟩
  case round =>
    obtain ⟨k, a, c, hk, hkg, rfl, rfl, hb2, O⟩ := hrel
    have BW := BV.below hb2
    have x0 := BW.at 0 rfl
    by_cases hlt : k < L.length
    · have hlt' : (k : Int) < (L.length : Int) := by omega
      obtain ⟨b, off, ha, hbl, hcs, y0⟩ := (H1.below hb2).at k hlt
      have a0 : wr.cell? ⟨w.heap.size, 0, none⟩ = some (.slice (some ⟨b, off, none⟩) L.length kh.c) := by rw [← ha]; exact x0
      clear x0
      by_cases he : L[k].1 = n
      · have hE := Lib.hid (knDel_take_eq hlt he)
        rw [he] at y0
        clear he hcs
        go_wp2_with fail
        go_roundg (L.length - (k + 1))
        case measure => omega
        case rel => exact ⟨k + 1, a, c, by omega, by omega, by go_num, by rw [hE.out], hb2, by rw [hE.out]; exact O⟩
      · have hE := Lib.hid (knDel_take_ne hlt he)
        have hne : (L[k].1 == n) = false := by simpa using he
        have hsz := (H1.ok L[k] (List.getElem_mem hlt)).1
        have hraw := raw_mk (w := wr) (S := []) (H1.ok L[k] (List.getElem_mem hlt))
        generalize L[k] = p at y0 hne hcs hraw hE hsz
        obtain ⟨x, cs⟩ := p
        simp only at y0 hne hcs hraw hsz
        obtain ⟨v0, v1, v2, v3, v4, v5, v6, v7, v8, v9, v10, rfl⟩ := arr11 hsz
        clear he
        have hbx : Below wr.heap.size wr (wr.alloc (.cells #[v0, v1, v2, v3, v4, v5, v6, v7, v8, v9, v10] 53)) := (Below.refl _ _).alloc (Nat.le_refl _) _
        have hlen : (knL (knDel (L.take k) n)).length ≤ 100 := by
          have := knDel_le (L.take k) n
          rw [List.length_take] at this
          rw [List.length_map]; omega
        obtain ⟨g, d, w5, A⟩ := ((O.below hbx).rep (wr' := wr.alloc (.cells #[v0, v1, v2, v3, v4, v5, v6, v7, v8, v9, v10] 53)) (S' := []) (fun _ _ h => h)).addLit tinKnown (by decide) (Blk.new wr _ 53) hraw (by omega) (by decide) (by have := hbx.size; have := hb2.size; omega)
        have hr := Lib.hid A.run
        have hbW : Below w1.heap.size w1 w5 := A.fr.below (below_push2 hb2 hbx (Nat.le_refl _)) (Nat.le_refl _) (fun b hb => (O.lt b hb).1)
        have O5 : OwnK w5 w1.heap.size (some ⟨g, 0, none⟩) d (knDel (L.take k) n ++ [(x, #[v0, v1, v2, v3, v4, v5, v6, v7, v8, v9, v10])]) := by
          have := A.own.rep (wr' := w5) (S' := []) (fun _ _ h => h)
          rw [OwnK, knL, List.map_append]
          exact this
        clear A O
        simp only [List.length_map] at hr
        go_wp2_with (first
          | (refine wpList_load_mid rfl 53 _ rfl b (off + k * 11) rfl #[v0, v1, v2, v3, v4, v5, v6, v7, v8, v9, v10].toList _ hcs Try.underlying53 rfl (by kernel_rfl) ?_)
          | (at_builtin; refine wpList_append_run hr.out rfl (by rfl) (by rfl) (by rfl) ?_))
        all_goals
          go_roundg (L.length - (k + 1))
          case measure => omega
          case rel => exact ⟨k + 1, _, _, by omega, by omega, by go_num, by rw [hE.out, List.length_append]; rfl, hbW, by rw [hE.out]; exact O5⟩
    · obtain rfl : k = L.length := by omega
      rw [List.take_length] at O
      have BR2 := (BR.below hb2).far ⟨w.heap.size, 0, none⟩ (.slice a (knDel L n).length c) (by simp)
      have BW2 := BW.set 0 (.slice a (knDel L n).length c)
      generalize hQ : (rvA kh sh L.length S.length k0 n0).setIfInBounds 0 (.slice a (knDel L n).length c) = Q at BW2
      obtain rfl : rvA ⟨a, c⟩ sh (knDel L n).length S.length k0 n0 = Q := by rw [← hQ]; simp
      have f0 := BW.free 0
      clear hQ
      go_wp2_with (first
        | (refine wpList_load_row rfl 58 _ rfl w.heap.size rfl 58 _ (0, 0) _ BW2.h Try.underlying58 rfl (by kernel_rfl) ?_)
        | (refine wpList_store_row rfl 58 _ _ rfl (w.heap.size + 1) _ rfl rfl 58 _ BR2.h (by kernel_rfl) (by rfl) (by kernel_rfl) ?_))
      refine bodyPost_ret (results_cell_row rfl _ _ (w.heap.size + 1) 58 (rvA ⟨a, c⟩ sh (knDel L n).length S.length k0 n0) (0, 0) _ rfl (Blk.row BR2 _).h Try.underlying58 rfl (by kernel_rfl)) rfl ⟨a, c, rfl, below_setRow ((below_push2 hb hb2 (by omega)).setCell (Nat.le_refl _) _) (by omega) _, ?_⟩
      have F1 : Fr [w.heap.size, w.heap.size + 1] wr (wr.setCell ⟨w.heap.size, 0, none⟩ (.slice a (knDel L n).length c)) := (Fr.refl _ wr).set ⟨w.heap.size, 0, none⟩ _ (.inl (by simp))
      have F2 := F1.trans (Fr.row (S := [w.heap.size, w.heap.size + 1]) (w.heap.size + 1) (rvA ⟨a, c⟩ sh (knDel L n).length S.length k0 n0) (by simp))
      have O2 := (O.fr F2 (fun g hg => by have := (O.lt g hg).1; simp; omega)).lower (b' := w.heap.size) (by omega)
      refine OwnV.rep (wr := wr) (S := []) O2 ?_
      exact fun _ _ h => h
end Go.Proofs.Ytbemgfpnoeogdaa.FoP

/-
  The document's views: Learn: contracts.
-/
namespace Go.Proofs.Ytbemgfpnoeogdaa.FoP
open Go.RowKit RefP Go.Maps Dp
set_option linter.unusedVariables false
set_option linter.unusedSimpArgs false
abbrev k11 (n : Int) (v1 v2 v3 v4 v5 v6 v7 v8 v9 v10 : Value) : Array Value := #[.int .i64 n, v1, v2, v3, v4, v5, v6, v7, v8, v9, v10]
set_option maxRecDepth 100000 in
set_option maxHeartbeats 3200000 in
theorem rlearn_out {w : World} {kh sh : Hd} {L : List Kn} {S : List Sp} (k0 n0 n : Int) (v1 v2 v3 v4 v5 v6 v7 v8 v9 v10 : Value) (hc : cellB n = false) : Calls Try.prog 25 #[.agg (rvA kh sh L.length S.length k0 n0), .agg (k11 n v1 v2 v3 v4 v5 v6 v7 v8 v9 v10)] w fun e w' => e = .returned (.tuple #[.agg (rvA kh sh L.length S.length k0 n0), .bool false]) ∧ Below w.heap.size w w' := by
  have hb : Below w.heap.size w (((w.alloc (.cells (rvA kh sh L.length S.length k0 n0) 58)).alloc (.cells (k11 n v1 v2 v3 v4 v5 v6 v7 v8 v9 v10) 53)).alloc (.cells rz 58)) := by (repeat (first | exact Below.refl _ _ | assumption | refine below_alloc2 ?_ (by first | exact Nat.le_refl _ | omega) _ | refine Below.drew ?_ | refine below_drewN ?_ _ | refine below_push2 ?_ ‹_› (by first | exact Nat.le_refl _ | omega) | refine Below.setCell ?_ (by first | (simp; done) | (simp; omega) | omega) _))
  have BV := ((Blk.new w (rvA kh sh L.length S.length k0 n0) 58).alloc (.cells (k11 n v1 v2 v3 v4 v5 v6 v7 v8 v9 v10) 53)).alloc (.cells rz 58)
  have BK := (Blk.new (w.alloc (.cells (rvA kh sh L.length S.length k0 n0) 58)) (k11 n v1 v2 v3 v4 v5 v6 v7 v8 v9 v10) 53).alloc (.cells rz 58)
  have BR := Blk.new ((w.alloc (.cells (rvA kh sh L.length S.length k0 n0) 58)).alloc (.cells (k11 n v1 v2 v3 v4 v5 v6 v7 v8 v9 v10) 53)) rz 58
  simp only [World.size_alloc] at BK BR
  go_enter Try.func25, Try.ntmps25
  go_upto_region 1 with (fail)
  generalize ((w.alloc (.cells (rvA kh sh L.length S.length k0 n0) 58)).alloc (.cells (k11 n v1 v2 v3 v4 v5 v6 v7 v8 v9 v10) 53)).alloc (.cells rz 58) = w1 at hb BV BK BR ⊢
  have hz1 : w.heap.size + 2 < w1.heap.size := BR.lt
  have c0 := BK.at 0 rfl
  go_wp2_with fail
  refine (rcell_any _ n).mono ?_
  rintro e wx ⟨rfl, rfl⟩
  rw [hc]
  go_wp2_with (first
    | (refine wpList_load_row rfl 58 _ rfl w.heap.size rfl 58 _ (0, 0) _ BV.h Try.underlying58 rfl (by kernel_rfl) ?_)
    | (refine wpList_store_row rfl 58 _ _ rfl (w.heap.size + 2) _ rfl rfl 58 _ BR.h (by kernel_rfl) (by rfl) (by kernel_rfl) ?_))
  refine bodyPost_ret (v := .tuple #[.agg (rvA kh sh L.length S.length k0 n0), .bool false]) (results_cell_tmp rfl _ _ (w.heap.size + 2) 58 (rvA kh sh L.length S.length k0 n0) (0, 0) _ (.bool false) rfl rfl (Blk.row BR _).h Try.underlying58 rfl (by kernel_rfl)) rfl ⟨rfl, below_setRow hb (by omega) _⟩
set_option maxRecDepth 100000 in
set_option maxHeartbeats 3200000 in
theorem rlearn_any {w : World} {kh sh : Hd} {L : List Kn} {S : List Sp} (H : RV w kh sh L S) (k0 n0 n : Int) (v1 v2 v3 v4 v5 v6 v7 v8 v9 v10 : Value) (hok : ((k11 n v1 v2 v3 v4 v5 v6 v7 v8 v9 v10)).all (·.oneCell') = true) (hc : cellB n = true) : Calls Try.prog 25 #[.agg (rvA kh sh L.length S.length k0 n0), .agg (k11 n v1 v2 v3 v4 v5 v6 v7 v8 v9 v10)] w fun e w' => ∃ a c, e = .returned (.tuple #[.agg (rvA ⟨a, c⟩ sh (knDel L n ++ [(n, (k11 n v1 v2 v3 v4 v5 v6 v7 v8 v9 v10))]).length S.length k0 n0), .bool true]) ∧ Below w.heap.size w w' ∧ OwnK w' w.heap.size a c (knDel L n ++ [(n, (k11 n v1 v2 v3 v4 v5 v6 v7 v8 v9 v10))]) := by
  have hb : Below w.heap.size w (((w.alloc (.cells (rvA kh sh L.length S.length k0 n0) 58)).alloc (.cells (k11 n v1 v2 v3 v4 v5 v6 v7 v8 v9 v10) 53)).alloc (.cells rz 58)) := by (repeat (first | exact Below.refl _ _ | assumption | refine below_alloc2 ?_ (by first | exact Nat.le_refl _ | omega) _ | refine Below.drew ?_ | refine below_drewN ?_ _ | refine below_push2 ?_ ‹_› (by first | exact Nat.le_refl _ | omega) | refine Below.setCell ?_ (by first | (simp; done) | (simp; omega) | omega) _))
  have BV := ((Blk.new w (rvA kh sh L.length S.length k0 n0) 58).alloc (.cells (k11 n v1 v2 v3 v4 v5 v6 v7 v8 v9 v10) 53)).alloc (.cells rz 58)
  have BK := (Blk.new (w.alloc (.cells (rvA kh sh L.length S.length k0 n0) 58)) (k11 n v1 v2 v3 v4 v5 v6 v7 v8 v9 v10) 53).alloc (.cells rz 58)
  have BR := Blk.new ((w.alloc (.cells (rvA kh sh L.length S.length k0 n0) 58)).alloc (.cells (k11 n v1 v2 v3 v4 v5 v6 v7 v8 v9 v10) 53)) rz 58
  simp only [World.size_alloc] at BK BR
  go_enter Try.func25, Try.ntmps25
  go_upto_region 1 with (fail)
  generalize ((w.alloc (.cells (rvA kh sh L.length S.length k0 n0) 58)).alloc (.cells (k11 n v1 v2 v3 v4 v5 v6 v7 v8 v9 v10) 53)).alloc (.cells rz 58) = w1 at hb BV BK BR ⊢
  have hz1 : w.heap.size + 2 < w1.heap.size := BR.lt
  have c0 := BK.at 0 rfl
  go_wp2_with fail
  refine (rcell_any _ n).mono ?_
  rintro e wx ⟨rfl, rfl⟩
  rw [hc]
  go_wp2_with (first
    | (refine wpList_load_row rfl 58 _ rfl w.heap.size rfl 58 _ (0, 0) _ BV.h Try.underlying58 rfl (by kernel_rfl) ?_))
  refine (rforget_any (H.below hb) k0 n0 n).mono ?_
  rintro e w2 ⟨a, c, rfl, hb2, O⟩
  have BV2 := BV.below hb2
  have hbb := below_push2 hb hb2 (by omega)
  have F3 := Fr.row (S := [w.heap.size]) (w := w2) w.heap.size (rvA ⟨a, c⟩ sh (knDel L n).length S.length k0 n0) (by simp)
  have BV3 := Blk.row BV2 (rvA ⟨a, c⟩ sh (knDel L n).length S.length k0 n0)
  have BK3 : Blk (w2.setRow w.heap.size (rvA ⟨a, c⟩ sh (knDel L n).length S.length k0 n0)) (w.heap.size + 1) (k11 n v1 v2 v3 v4 v5 v6 v7 v8 v9 v10) 53 := ⟨(F3.block _ (BK.below hb2).lt (by simp; try omega)).trans (BK.below hb2).h⟩
  have BR3 : Blk (w2.setRow w.heap.size (rvA ⟨a, c⟩ sh (knDel L n).length S.length k0 n0)) (w.heap.size + 1 + 1) rz 58 := ⟨(F3.block _ (BR.below hb2).lt (by simp; try omega)).trans (BR.below hb2).h⟩
  have O3 := O.fr F3 (fun g hg => by have := (O.lt g hg).1; simp; omega)
  have hz2 := Nat.le_trans hb2.size F3.size
  have hb3 := below_setRow hbb (Nat.le_refl _) (rvA ⟨a, c⟩ sh (knDel L n).length S.length k0 n0)
  go_upto_region 4 with (refine wpList_store_row rfl 58 _ _ rfl w.heap.size _ rfl rfl 58 _ BV2.h (by kernel_rfl) (by rfl) (by kernel_rfl) ?_)
  clear BV2 hbb F3 BV BK BR
  generalize w2.setRow w.heap.size (rvA ⟨a, c⟩ sh (knDel L n).length S.length k0 n0) = w3 at BV3 BK3 BR3 O3 hb3 hz2 ⊢
  have hbx : Below w3.heap.size w3 (w3.alloc (.cells (k11 n v1 v2 v3 v4 v5 v6 v7 v8 v9 v10) 53)) := (Below.refl _ _).alloc (Nat.le_refl _) _
  have hlen : (knL (knDel L n)).length ≤ 100 := by
    have := knDel_le L n
    have := H.ll
    rw [List.length_map]; omega
  have hz3 : wx.heap.size ≤ w3.heap.size := hz2
  obtain ⟨g, d, w5, A⟩ := ((O3.below hbx).rep (wr' := w3.alloc (.cells (k11 n v1 v2 v3 v4 v5 v6 v7 v8 v9 v10) 53)) (S' := []) (fun _ _ h => h)).addLit tinKnown (by decide) (Blk.new w3 _ 53) (raw_mk (cs := (k11 n v1 v2 v3 v4 v5 v6 v7 v8 v9 v10)) ⟨rfl, hok⟩) (by omega) (by decide) (by have := hbx.size; omega)
  have hr := Lib.hid A.run
  have nb : ∀ b, b < wx.heap.size → b ∉ ob a := fun b hlt hb => by have := (O3.lt b hb).1; omega
  have E5 : ∀ b, b < wx.heap.size → w5.heap[b]? = w3.heap[b]? := fun b hlt => (A.fr.block b (by have := hbx.size; omega) (nb b hlt)).trans (hbx.block b (by omega))
  have BV5 : Blk w5 w.heap.size _ _ := ⟨(E5 _ (by omega)).trans BV3.h⟩
  have BR5 : Blk w5 (w.heap.size + 1 + 1) _ _ := ⟨(E5 _ (by omega)).trans BR3.h⟩
  have hb5 : Below w.heap.size w w5 := A.fr.below (below_push2 hb3 hbx (by have := hb3.size; omega)) (by have := hb3.size; omega) (fun b hb => by have := (O3.lt b hb).1; omega)
  have hl5 : (knL (knDel L n)).length = (knDel L n).length := List.length_map _
  rw [hl5] at hr
  have O5 : OwnK w5 wx.heap.size (some ⟨g, 0, none⟩) d (knDel L n ++ [(n, (k11 n v1 v2 v3 v4 v5 v6 v7 v8 v9 v10))]) := by
    have := A.own.rep (wr' := w5) (S' := []) (fun _ _ h => h)
    rw [OwnK, knL, List.map_append]
    exact this
  clear A E5 nb
  have k0' := BV3.at 0 rfl
  have f5 := BV5.free 0
  have k5 := BV5.at 0 rfl
  have BV6 := BV5.set 0 (.slice (some ⟨g, 0, none⟩) ((knDel L n).length + 1) d)
  have BR6 := BR5.far ⟨w.heap.size, 0, none⟩ (.slice (some ⟨g, 0, none⟩) ((knDel L n).length + 1) d) (by simp; try omega)
  generalize hQ : (rvA ⟨a, c⟩ sh (knDel L n).length S.length k0 n0).setIfInBounds 0 (.slice (some ⟨g, 0, none⟩) ((knDel L n).length + 1) d) = Q at BV6
  obtain rfl : rvA ⟨some ⟨g, 0, none⟩, d⟩ sh ((knDel L n).length + 1) S.length k0 n0 = Q := by rw [← hQ]; simp
  clear hQ
  go_wp2_with (first
    | (refine wpList_load_row rfl 53 _ rfl (w.heap.size + 1) rfl 53 _ (0, 0) _ BK3.h Try.underlying53 rfl (by kernel_rfl) ?_)
    | (at_builtin; refine wpList_append_run hr.out rfl (by rfl) (by rfl) (by rfl) ?_)
    | (refine wpList_load_row rfl 58 _ rfl w.heap.size rfl 58 _ (0, 0) _ BV6.h Try.underlying58 rfl (by kernel_rfl) ?_)
    | (refine wpList_store_row rfl 58 _ _ rfl (w.heap.size + 1 + 1) _ rfl rfl 58 _ BR6.h (by kernel_rfl) (by rfl) (by kernel_rfl) ?_))
  all_goals
    refine bodyPost_ret (v := .tuple #[.agg (rvA ⟨some ⟨g, 0, none⟩, d⟩ sh ((knDel L n).length + 1) S.length k0 n0), .bool true]) (results_cell_tmp rfl _ _ (w.heap.size + 1 + 1) 58 (rvA ⟨some ⟨g, 0, none⟩, d⟩ sh ((knDel L n).length + 1) S.length k0 n0) (0, 0) _ (.bool true) rfl rfl (Blk.row BR6 _).h Try.underlying58 rfl (by kernel_rfl)) rfl ⟨some ⟨g, 0, none⟩, d, by rw [List.length_append]; rfl, below_setRow (hb5.setCell (Nat.le_refl _) _) (by omega) _, ?_⟩
    have F7 := ((Fr.refl [w.heap.size, w.heap.size + 1 + 1] w5).set ⟨w.heap.size, 0, none⟩ (.slice (some ⟨g, 0, none⟩) ((knDel L n).length + 1) d) (.inl (by simp))).trans (Fr.row (S := [w.heap.size, w.heap.size + 1 + 1]) (w.heap.size + 1 + 1) (rvA ⟨some ⟨g, 0, none⟩, d⟩ sh ((knDel L n).length + 1) S.length k0 n0) (by simp))
    have O7 := (O5.fr F7 (fun q hq => by have := (O5.lt q hq).1; simp; omega)).lower (b' := w.heap.size) (by omega)
    refine OwnV.rep (wr := w5) (S := []) O7 ?_
    exact fun _ _ h => h
end Go.Proofs.Ytbemgfpnoeogdaa.FoP

/-
  The document's views: Spare: contracts.
-/
namespace Go.Proofs.Ytbemgfpnoeogdaa.FoP
open Go.RowKit RefP Go.Maps Dp
set_option linter.unusedVariables false
set_option linter.unusedSimpArgs false
theorem infoSpare : (Try.prog.info? 60).map (fun i => (i.zero, i.size, i.bytes)) = some (some (.agg sz), 2, 16) := by kernel_rfl
theorem tinSpare : TIn Try.prog 34 60 spC.k 16 := tin_mk Try.underlying34 infoSpare (by simp [Value.cells]; rfl)
theorem sp_any {w w' : World} {S S' : List Nat} {cs : List Value} {x : Sp} (h : spC.rep w S cs x) : spC.rep w' S' cs x := by
  obtain ⟨rfl, h0, h1⟩ := spC_of h
  exact spC_mk h0 h1
abbrev OwnS (w : World) (base : Nat) (a : Option Addr) (c : Nat) (S : List Sp) : Prop := OwnV spC w [] w base 60 a c S
theorem OwnS.below {w w' : World} {base : Nat} {a : Option Addr} {c : Nat} {S : List Sp} (h : OwnS w base a c S) (hb : Below w.heap.size w w') : OwnS w' base a c S := (OwnV.below h hb).rep (fun _ _ => sp_any)
theorem OwnS.fr {T : List Nat} {w w' : World} {base : Nat} {a : Option Addr} {c : Nat} {S : List Sp} (h : OwnS w base a c S) (F : Fr T w w') (hT : ∀ g ∈ ob a, g ∉ T) : OwnS w' base a c S := (OwnV.fr h F hT).rep (fun _ _ => sp_any)
theorem OwnS.empty (w : World) (base : Nat) (hb : base ≤ w.heap.size) : OwnS (w.alloc (.cells #[] 60)) base (some ⟨w.heap.size, 0, none⟩) 0 [] := ⟨[], rfl, OwnR.empty _ _ _ _ _ _ hb, by simp⟩
theorem addFirstV (w W : World) (hW : Below w.heap.size w W) (g0 : Nat) (hO : OwnS W w.heap.size (some ⟨g0, 0, none⟩) 0 []) {q : Hd} {xs : List Sp} (hu : HRow spC W [] q xs) (hn : xs.length ≤ 100) :
    ∃ a' cap w', Hid (∀ ty, (Builtin.append_ #[34, 34] ty #[.slice (some ⟨g0, 0, none⟩) 0 0, .slice q.a xs.length q.c]).run Try.prog W = .ok (.slice a' xs.length cap) w') ∧
      OwnS w' w.heap.size a' cap xs ∧ Below w.heap.size w w' ∧ Fr [g0] W w' := by
  obtain ⟨a', cap, w', A⟩ := OwnV.addRow tinSpare (by decide) hO hu (fun _ _ => sp_any) (by simp; omega) (by decide) hW.size
  have hr := A.run
  simp only [List.length_nil, List.nil_append] at hr
  have ho := A.own.rep (wr' := w') (S' := []) (fun _ _ => sp_any)
  simp only [List.nil_append] at ho
  exact ⟨a', cap, w', Lib.hid hr, ho, A.fr.below hW (Nat.le_refl _) (fun b hb => (OwnV.lt hO b hb).1), A.fr⟩
theorem addSecondV (w W : World) (hW : Below w.heap.size w W) (a : Option Addr) (c bx : Nat) {xs : List Sp} {n v : Int} (hO : OwnS W w.heap.size a c xs) (hB : Blk W bx #[.int .i64 n, .int .u64 v] 60) (h0 : I64 n) (h1 : U64 v) (hn : xs.length ≤ 100) :
    ∃ g cap w', Hid (∀ ty, (Builtin.append_ #[34, 34] ty #[.slice a xs.length c, .slice (some ⟨bx, 0, none⟩) 1 1]).run Try.prog W = .ok (.slice (some ⟨g, 0, none⟩) (xs.length + 1) cap) w') ∧
      OwnS w' w.heap.size (some ⟨g, 0, none⟩) cap (xs ++ [(n, v)]) ∧ Below w.heap.size w w' := by
  obtain ⟨g, cap, w', A⟩ := OwnV.addLit tinSpare (by decide) hO hB (x := (n, v)) (show spC.rep _ _ (spL (n, v)) (n, v) from spC_mk h0 h1) (by omega) (by decide) hW.size
  exact ⟨g, cap, w', Lib.hid A.run, A.own.rep (fun _ _ => sp_any), A.fr.below hW (Nat.le_refl _) (fun b hb => (OwnV.lt hO b hb).1)⟩
def spHas (S : List Sp) (n : Int) : Bool := S.any (fun p => p.1 == n)
theorem spHas_yes {S : List Sp} {n : Int} {k : Nat} (h : k < S.length) (e : S[k].1 = n) : spHas S n = true := by
  unfold spHas
  rw [List.any_eq_true]
  exact ⟨S[k], List.getElem_mem h, by simpa using e⟩
theorem spHas_no {S : List Sp} {n : Int} (h : ∀ j (hj : j < S.length), S[j].1 ≠ n) : spHas S n = false := by
  unfold spHas
  rw [List.any_eq_false]
  intro p hp
  obtain ⟨j, hj, rfl⟩ := List.getElem_of_mem hp
  simpa using h j hj
/-- what the document's Spare answers -/
def SpareAt (w : World) (kh sh : Hd) (L : List Kn) (S : List Sp) (k0 n0 n v : Int) (e : Ending) (w' : World) : Prop :=
  if cellB n && !spHas S n then ∃ a c, e = .returned (.tuple #[.agg (rvA kh ⟨a, c⟩ L.length (S ++ [(n, v)]).length k0 n0), .bool true]) ∧ Below w.heap.size w w' ∧ OwnS w' w.heap.size a c (S ++ [(n, v)])
  else e = .returned (.tuple #[.agg (rvA kh sh L.length S.length k0 n0), .bool false]) ∧ Below w.heap.size w w'
set_option maxRecDepth 100000 in
set_option maxHeartbeats 3200000 in
theorem rspare_any {w : World} {kh sh : Hd} {L : List Kn} {S : List Sp} (H : RV w kh sh L S) (k0 n0 n v : Int) (h0 : I64 n) (h1 : U64 v) : Calls Try.prog 27 #[.agg (rvA kh sh L.length S.length k0 n0), .agg #[.int .i64 n, .int .u64 v]] w fun e w' => SpareAt w kh sh L S k0 n0 n v e w' := by
  have hb : Below w.heap.size w (((w.alloc (.cells (rvA kh sh L.length S.length k0 n0) 58)).alloc (.cells #[.int .i64 n, .int .u64 v] 60)).alloc (.cells rz 58)) := by (repeat (first | exact Below.refl _ _ | assumption | refine below_alloc2 ?_ (by first | exact Nat.le_refl _ | omega) _ | refine Below.drew ?_ | refine below_drewN ?_ _ | refine below_push2 ?_ ‹_› (by first | exact Nat.le_refl _ | omega) | refine Below.setCell ?_ (by first | (simp; done) | (simp; omega) | omega) _))
  have BV := ((Blk.new w (rvA kh sh L.length S.length k0 n0) 58).alloc (.cells #[.int .i64 n, .int .u64 v] 60)).alloc (.cells rz 58)
  have BK := (Blk.new (w.alloc (.cells (rvA kh sh L.length S.length k0 n0) 58)) #[.int .i64 n, .int .u64 v] 60).alloc (.cells rz 58)
  have BR := Blk.new ((w.alloc (.cells (rvA kh sh L.length S.length k0 n0) 58)).alloc (.cells #[.int .i64 n, .int .u64 v] 60)) rz 58
  simp only [World.size_alloc] at BK BR
  go_enter Try.func27, Try.ntmps27
  go_upto_region 1 with (fail)
  generalize ((w.alloc (.cells (rvA kh sh L.length S.length k0 n0) 58)).alloc (.cells #[.int .i64 n, .int .u64 v] 60)).alloc (.cells rz 58) = w1 at hb BV BK BR ⊢
  have hz1 : w.heap.size + 2 < w1.heap.size := BR.lt
  have c0 := BK.at 0 rfl
  have H1 := H.below hb
  go_wp2_with fail
  refine (rcell_any _ n).mono ?_
  rintro e wx ⟨rfl, rfl⟩
  cases hc : cellB n
  · have hN : Hid (∀ e w', (e = .returned (.tuple #[.agg (rvA kh sh L.length S.length k0 n0), .bool false]) ∧ Below w.heap.size w w') → SpareAt w kh sh L S k0 n0 n v e w') := Lib.hid (fun e w' h => by unfold SpareAt; rw [hc]; exact h)
    clear hc
    go_wp2_with (first
      | (refine wpList_load_row rfl 58 _ rfl w.heap.size rfl 58 _ (0, 0) _ (BV).h Try.underlying58 rfl (by kernel_rfl) ?_)
      | (refine wpList_store_row rfl 58 _ _ rfl (w.heap.size + 1 + 1) _ rfl rfl 58 _ (BR).h (by kernel_rfl) (by rfl) (by kernel_rfl) ?_))
    refine bodyPost_ret (v := .tuple #[.agg (rvA kh sh L.length S.length k0 n0), .bool false]) (results_cell_tmp rfl _ _ (w.heap.size + 1 + 1) 58 (rvA kh sh L.length S.length k0 n0) (0, 0) _ (.bool false) rfl rfl (Blk.row BR _).h Try.underlying58 rfl (by kernel_rfl)) rfl ?_
    exact hN.out _ _ ⟨rfl, below_setRow hb (by omega) _⟩
  · replace hc := Lib.hid hc
    have hsl := H.sl
    go_wp2_with fail
    go_loopg [6] S.length (fun gg i wr => ∃ k : Nat, k ≤ S.length ∧ S.length ≤ k + gg ∧ i = .int .i64 k ∧ Below wx.heap.size wx wr ∧ Hid (∀ j (hj : j < S.length), j < k → S[j].1 ≠ n))
    case atStart => exact ⟨0, Nat.zero_le _, by omega, rfl, Below.refl _ _, Lib.hid fun j _ h => absurd h (by omega)⟩
    case round =>
      obtain ⟨k, hk, hkg, rfl, hb2, hall⟩ := hrel
      have BV2 := BV.below hb2
      have BK2 := BK.below hb2
      have BR2 := BR.below hb2
      have hbb := below_push2 hb hb2 (by omega)
      have x1 := BV2.at 1 rfl
      by_cases hlt : k < S.length
      · have hlt' : (k : Int) < (S.length : Int) := by omega
        obtain ⟨b, off, ha, hbl, hcs, _, y0, y1⟩ := sp_at (H1.below hb2).sp k hlt
        have a1 : wr.cell? ⟨w.heap.size, 1, none⟩ = some (.slice (some ⟨b, off, none⟩) S.length sh.c) := by rw [← ha]; exact x1
        have k0' := BK2.at 0 rfl
        clear x1 c0
        go_upto_region 6 with (fail)
        have a1d : wr.drew.cell? ⟨w.heap.size, 1, none⟩ = some (.slice (some ⟨b, off, none⟩) S.length sh.c) := a1
        have k0d : wr.drew.cell? ⟨w.heap.size + 1, 0, none⟩ = some (.int .i64 n) := k0'
        have hcd : wr.drew.cell? ⟨b, off + k * 2, none⟩ = some (.int .i64 S[k].1) := hcs
        go_region
        by_cases he : S[k].1 = n
        · have hE : Hid (∀ e w', (e = .returned (.tuple #[.agg (rvA kh sh L.length S.length k0 n0), .bool false]) ∧ Below w.heap.size w w') → SpareAt w kh sh L S k0 n0 n v e w') := Lib.hid (fun e w' h => by unfold SpareAt; rw [spHas_yes hlt he, hc.out]; exact h)
          have hbt : (S[k].1 == n) = true := by simpa using he
          rw [hbt]
          have BV3 := BV2.drew
          have BR3 := BR2.drew
          clear he hbt hcs hcd
          go_wp2_with (first
            | (refine wpList_load_row rfl 58 _ rfl w.heap.size rfl 58 _ (0, 0) _ (BV3).h Try.underlying58 rfl (by kernel_rfl) ?_)
            | (refine wpList_store_row rfl 58 _ _ rfl (w.heap.size + 1 + 1) _ rfl rfl 58 _ (BR3).h (by kernel_rfl) (by rfl) (by kernel_rfl) ?_))
          refine bodyPost_ret (v := .tuple #[.agg (rvA kh sh L.length S.length k0 n0), .bool false]) (results_cell_tmp rfl _ _ (w.heap.size + 1 + 1) 58 (rvA kh sh L.length S.length k0 n0) (0, 0) _ (.bool false) rfl rfl (Blk.row BR3 _).h Try.underlying58 rfl (by kernel_rfl)) rfl ?_
          exact hE.out _ _ ⟨rfl, below_setRow hbb.drew (by omega) _⟩
        · have hN : Hid (∀ j (hj : j < S.length), j < k + 1 → S[j].1 ≠ n) := Lib.hid fun j hj hjk => by
            by_cases e : j = k
            · subst e; exact he
            · exact hall.out j hj (by omega)
          have hbt : (S[k].1 == n) = false := by simpa using he
          rw [hbt]
          clear he hbt hcs hcd
          go_wp2_with fail
          go_roundg (S.length - (k + 1))
          case measure => omega
          case rel => exact ⟨k + 1, by omega, by omega, by go_num, hb2.drew, hN⟩
      · obtain rfl : k = S.length := by omega
        have hNo : Hid (∀ a c e w', (e = .returned (.tuple #[.agg (rvA kh ⟨a, c⟩ L.length (S.length + 1) k0 n0), .bool true]) ∧ Below w.heap.size w w' ∧ OwnS w' w.heap.size a c (S ++ [(n, v)])) → SpareAt w kh sh L S k0 n0 n v e w') := Lib.hid (fun a c e w' h => by
          unfold SpareAt
          rw [spHas_no (fun j hj => hall.out j hj hj), hc.out, List.length_append]
          exact ⟨a, c, h⟩)
        have HS := (H1.below hb2).sp
        have k0a := BK2.at 0 rfl
        have k1a := BK2.at 1 rfl
        have hlz : w.heap.size + 1 + 1 < wr.heap.size := BR2.lt
        have hl0 : w.heap.size < wr.heap.size := by omega
        have hl1 : w.heap.size + 1 < wr.heap.size := by omega
        clear H1 hall c0 H
        go_upto_region 8 with (fail)
        go_cut [] (fun W => ∃ g d, Blk W w.heap.size (rvA kh ⟨some ⟨g, 0, none⟩, d⟩ L.length (S.length + 1) k0 n0) 58 ∧ Blk W (w.heap.size + 1 + 1) rz 58 ∧ OwnS W wr.heap.size (some ⟨g, 0, none⟩) d (S ++ [(n, v)]) ∧ Below w.heap.size w W)
        case first =>
          have hA1 : Below wr.heap.size wr (wr.alloc (.cells #[] 60)) := (Below.refl _ _).alloc (Nat.le_refl _) _
          have hA2 : Below wr.heap.size wr (wr.alloc (.cells #[.int .i64 n, .int .u64 v] 60)) := (Below.refl _ _).alloc (Nat.le_refl _) _
          have hB1 : Below wr.heap.size wr (wr.alloc (.cells #[] 60)).drew := hA1.drew
          have hB3 : Below wr.heap.size wr ((wr.alloc (.cells #[] 60)).alloc (.cells #[.int .i64 n, .int .u64 v] 60)).drew := (hA1.alloc hA1.size _).drew
          have hB4 : Below wr.heap.size wr ((wr.alloc (.cells #[.int .i64 n, .int .u64 v] 60)).alloc (.cells #[] 60)).drew := (hA2.alloc hA2.size _).drew
          have hE0 : OwnS (wr.alloc (.cells #[] 60)) wr.heap.size (some ⟨wr.heap.size, 0, none⟩) 0 [] := OwnS.empty wr wr.heap.size (Nat.le_refl _)
          have hE1 : OwnS (wr.alloc (.cells #[] 60)).drew wr.heap.size (some ⟨wr.heap.size, 0, none⟩) 0 [] := OwnS.below hE0 (Below.refl _ _).drew
          have hE4 : OwnS ((wr.alloc (.cells #[.int .i64 n, .int .u64 v] 60)).alloc (.cells #[] 60)).drew wr.heap.size (some ⟨wr.heap.size + 1, 0, none⟩) 0 [] := by
            have := OwnS.empty (wr.alloc (.cells #[.int .i64 n, .int .u64 v] 60)) wr.heap.size hA2.size
            exact OwnS.below (by simpa using this) (Below.refl _ _).drew
          obtain ⟨a1, k1, q1, r1, o1, b1, f1⟩ := addFirstV wr _ hB1 wr.heap.size hE1 (HS.keep (Keeps.of_below hB1)) hsl
          have b1a : Below wr.heap.size wr (q1.alloc (.cells #[.int .i64 n, .int .u64 v] 60)) := b1.alloc b1.size _
          obtain ⟨g2, k2, q2, r2, o2, b2⟩ := addSecondV wr _ b1a a1 k1 q1.heap.size (OwnS.below o1 ((Below.refl _ _).alloc (Nat.le_refl _) _)) (Blk.new q1 _ _) h0 h1 hsl
          have e1a := (BK2.below b1).at 0 rfl
          have e1b := (BK2.below b1).at 1 rfl
          obtain ⟨a3, k3, q3, r3, o3, b3, f3⟩ := addFirstV wr _ hB3 wr.heap.size (OwnS.below hE0 (((Below.refl _ _).alloc (Nat.le_refl _) _).drew)) (HS.keep (Keeps.of_below hB3)) hsl
          have bx3 : Blk q3 (wr.heap.size + 1) #[.int .i64 n, .int .u64 v] 60 := by
            have B := (Blk.new (wr.alloc (.cells #[] 60)) #[.int .i64 n, .int .u64 v] 60).drew
            simp only [World.size_alloc] at B
            exact ⟨(f3.block _ B.lt (by simp)).trans B.h⟩
          obtain ⟨g4, k4, q4, r4, o4, b4⟩ := addSecondV wr _ b3 a3 k3 _ o3 bx3 h0 h1 hsl
          obtain ⟨a5, k5, q5, r5, o5, b5, f5⟩ := addFirstV wr _ hB4 (wr.heap.size + 1) hE4 (HS.keep (Keeps.of_below hB4)) hsl
          have bx5 : Blk q5 wr.heap.size #[.int .i64 n, .int .u64 v] 60 := by
            have B := ((Blk.new wr #[.int .i64 n, .int .u64 v] 60).alloc (.cells #[] 60)).drew
            exact ⟨(f5.block _ B.lt (by simp)).trans B.h⟩
          obtain ⟨g6, k6, q6, r6, o6, b6⟩ := addSecondV wr _ b5 a5 k5 _ o5 bx5 h0 h1 hsl
          have fin : ∀ q g d, OwnS q wr.heap.size (some ⟨g, 0, none⟩) d (S ++ [(n, v)]) → Below wr.heap.size wr q → ∃ g' d', Blk (q.setCell ⟨w.heap.size, 1, none⟩ (.slice (some ⟨g, 0, none⟩) (S.length + 1) d)) w.heap.size (rvA kh ⟨some ⟨g', 0, none⟩, d'⟩ L.length (S.length + 1) k0 n0) 58 ∧ Blk (q.setCell ⟨w.heap.size, 1, none⟩ (.slice (some ⟨g, 0, none⟩) (S.length + 1) d)) (w.heap.size + 1 + 1) rz 58 ∧ OwnS (q.setCell ⟨w.heap.size, 1, none⟩ (.slice (some ⟨g, 0, none⟩) (S.length + 1) d)) wr.heap.size (some ⟨g', 0, none⟩) d' (S ++ [(n, v)]) ∧ Below w.heap.size w (q.setCell ⟨w.heap.size, 1, none⟩ (.slice (some ⟨g, 0, none⟩) (S.length + 1) d)) := by
            intro q g d O B
            refine ⟨g, d, by simpa using (BV2.below B).set 1 (.slice (some ⟨g, 0, none⟩) (S.length + 1) d), (BR2.below B).far _ _ (by simp; try omega), OwnS.fr O ((Fr.refl [w.heap.size] _).set _ _ (.inl (by simp))) (fun p hp => ?_), (below_push2 hbb B (by omega)).setCell (Nat.le_refl _) _⟩
            have := (OwnV.lt O p hp).1
            simp; omega
          replace fin := Lib.hid fin
          have s2 := (BV2.below b2).at 1 rfl
          have t2 := (BV2.below b2).free 1
          have s4 := (BV2.below b4).at 1 rfl
          have t4 := (BV2.below b4).free 1
          have s6 := (BV2.below b6).at 1 rfl
          have t6 := (BV2.below b6).free 1
          clear hA1 hA2 hB1 hB3 hB4 hE0 hE1 hE4 b1a bx3 bx5 f1 f3 f5 o1 o3 o5 b1 b3 b5
          go_region_law ((first
            | ((with_reducible (show @ite _ _ _ (Oper.wp _ _ _ (World.drew (World.alloc wr (.cells #[] _))) _ _) _)); refine step_append_run r1.out rfl (by rfl) (by rfl) (by rfl) ?_)
            | ((with_reducible (show @ite _ _ _ (Oper.wp _ _ _ (World.alloc q1 _) _ _) _)); refine step_append_run r2.out rfl (by rfl) (by rfl) (by rfl) ?_)
            | ((with_reducible (show @ite _ _ _ (Oper.wp _ _ _ (World.drew (World.alloc (World.alloc wr (.cells #[] _)) _)) _ _) _)); refine step_append_run r3.out rfl (by rfl) (by rfl) (by rfl) ?_)
            | ((with_reducible (show @ite _ _ _ (Oper.wp _ _ _ q3 _ _) _)); refine step_append_run r4.out rfl (by rfl) (by rfl) (by rfl) ?_)
            | ((with_reducible (show @ite _ _ _ (Oper.wp _ _ _ (World.drew (World.alloc (World.alloc wr (.cells #[.int .i64 _, .int .u64 _] _)) _)) _ _) _)); refine step_append_run r5.out rfl (by rfl) (by rfl) (by rfl) ?_)
            | ((with_reducible (show @ite _ _ _ (Oper.wp _ _ _ q5 _ _) _)); refine step_append_run r6.out rfl (by rfl) (by rfl) (by rfl) ?_)))
          all_goals
            go_wp2_with fail
            go_meet
            first
              | exact fin.out _ _ _ o2 b2
              | exact fin.out _ _ _ o4 b4
              | exact fin.out _ _ _ o6 b6
        case rest =>
          obtain ⟨g, d, BV5, BR5, O5, hb5⟩ := hcut
          go_wp2_with (first
            | (refine wpList_load_row rfl 58 _ rfl w.heap.size rfl 58 _ (0, 0) _ (BV5).h Try.underlying58 rfl (by kernel_rfl) ?_)
            | (refine wpList_store_row rfl 58 _ _ rfl (w.heap.size + 1 + 1) _ rfl rfl 58 _ (BR5).h (by kernel_rfl) (by rfl) (by kernel_rfl) ?_))
          refine bodyPost_ret (v := .tuple #[.agg (rvA kh ⟨some ⟨g, 0, none⟩, d⟩ L.length (S.length + 1) k0 n0), .bool true]) (results_cell_tmp rfl _ _ (w.heap.size + 1 + 1) 58 (rvA kh ⟨some ⟨g, 0, none⟩, d⟩ L.length (S.length + 1) k0 n0) (0, 0) _ (.bool true) rfl rfl (Blk.row BR5 _).h Try.underlying58 rfl (by kernel_rfl)) rfl ?_
          refine hNo.out _ _ _ _ ⟨rfl, below_setRow hb5 (by omega) _, ?_⟩
          exact OwnV.lower (OwnS.fr O5 (Fr.row (S := [w.heap.size + 1 + 1]) _ _ (by simp)) (fun q hq => by have := (OwnV.lt O5 q hq).1; simp; omega)) (by omega)
end Go.Proofs.Ytbemgfpnoeogdaa.FoP

/-
  The document's views: At, Take: contracts.
-/
namespace Go.Proofs.Ytbemgfpnoeogdaa.FoP
open Go.RowKit RefP Go.Maps Dp
set_option linter.unusedVariables false
set_option linter.unusedSimpArgs false
theorem results_row2_tmp {P : Program} {fn : Func} {p p2 q : Tmp} {ty ty2 : TypeId} (h : fn.results = #[.cell p ty, .cell p2 ty2, .tmp q]) (tmps : Array Value) (w : World) (g : Nat) (t : TypeId) (cs : Array Value) (fr : Nat × Nat) (d : TypeDesc) (g2 : Nat) (t2 : TypeId) (cs2 : Array Value) (fr2 : Nat × Nat) (d2 : TypeDesc)
    (v : Value) (hv : tmps.getD q undef = v) (hp : tmps.getD p undef = .pointer (some ⟨g, 0, none⟩)) (hp2 : tmps.getD p2 undef = .pointer (some ⟨g2, 0, none⟩)) (hg : w.heap[g]? = some (.cells cs t fr)) (hg2 : w.heap[g2]? = some (.cells cs2 t2 fr2))
    (hu : P.underlying ty = some d) (hd : (match d with | .struct _ | .array _ _ => true | _ => false) = true) (hi : (P.info? ty).map (·.size) = some cs.size)
    (hu2 : P.underlying ty2 = some d2) (hd2 : (match d2 with | .struct _ | .array _ _ => true | _ => false) = true) (hi2 : (P.info? ty2).map (·.size) = some cs2.size) :
    (results fn tmps).run P w = .ok (.tuple #[.agg cs, .agg cs2, v]) w := by
  subst hv
  have hp' : tmps[p]?.getD undef = .pointer (some ⟨g, 0, none⟩) := by simpa using hp
  have hp2' : tmps[p2]?.getD undef = .pointer (some ⟨g2, 0, none⟩) := by simpa using hp2
  simp [results, h, hp', hp2', asAddr, run_loadVar_row w g t ty cs fr d hg hu hd hi, run_loadVar_row w g2 t2 ty2 cs2 fr2 d2 hg2 hu2 hd2 hi2]
theorem raw_keep {w w' : World} {b o : Nat} {cs : List Value} (h : w.rangeAt b o cs) (k : Below w.heap.size w w') (hb : b < w.heap.size) : w'.rangeAt b o cs :=
  fun j v hv => ((Keeps.of_below (S := []) k).cell (p := ⟨b, o + j, none⟩) hb (by simp)).trans (h j v hv)
theorem blk_row {w : World} {b b' : Nat} {cs : Array Value} {T : TypeId} (B : Blk w b cs T) (h : b ≠ b') (cs' : Array Value) : Blk (w.setRow b' cs') b cs T := ⟨((Fr.row (S := [b']) b' cs' (by simp)).block b B.lt (by simpa using h)).trans B.h⟩
set_option maxRecDepth 100000 in
set_option maxHeartbeats 3200000 in
theorem rat_hit {w : World} {kh sh : Hd} {L : List Kn} {S : List Sp} (H : RV w kh sh L S) (k0 n0 n : Int) {cs : Array Value} (hn : knAt L n = some cs) : Calls Try.prog 31 #[.agg (rvA kh sh L.length S.length k0 n0), .int .i64 n] w fun e w' => e = .returned (.tuple #[.agg (rvA kh sh L.length S.length k0 n0), .agg cs, .bool true]) ∧ Below w.heap.size w w' := by
  have hb : Below w.heap.size w (((w.alloc (.cells (rvA kh sh L.length S.length k0 n0) 58)).alloc (.cells rz 58)).alloc (.cells kz 53)) := by (repeat (first | exact Below.refl _ _ | assumption | refine below_alloc2 ?_ (by first | exact Nat.le_refl _ | omega) _ | refine Below.drew ?_ | refine below_drewN ?_ _ | refine below_push2 ?_ ‹_› (by first | exact Nat.le_refl _ | omega) | refine Below.setCell ?_ (by first | (simp; done) | (simp; omega) | omega) _))
  have BV := ((Blk.new w (rvA kh sh L.length S.length k0 n0) 58).alloc (.cells rz 58)).alloc (.cells kz 53)
  have BR := (Blk.new (w.alloc (.cells (rvA kh sh L.length S.length k0 n0) 58)) rz 58).alloc (.cells kz 53)
  have BK := Blk.new ((w.alloc (.cells (rvA kh sh L.length S.length k0 n0) 58)).alloc (.cells rz 58)) kz 53
  simp only [World.size_alloc] at BK BR
  go_enter Try.func31, Try.ntmps31
  go_upto_region 1 with (fail)
  generalize ((w.alloc (.cells (rvA kh sh L.length S.length k0 n0) 58)).alloc (.cells rz 58)).alloc (.cells kz 53) = w1 at hb BV BK BR ⊢
  have hz1 : w.heap.size + 1 + 1 < w1.heap.size := BK.lt
  go_wp2_with (refine wpList_load_row rfl 58 _ rfl w.heap.size rfl 58 _ (0, 0) _ BV.h Try.underlying58 rfl (by kernel_rfl) ?_)
  refine (rfind_any (H.below hb) k0 n0 n).mono ?_
  rintro e w2 ⟨r, rfl, hr, hb2⟩
  rcases hr with ⟨_, h⟩ | ⟨i, hi, rfl, _, h⟩
  · rw [hn] at h; cases h
  rw [hn, Option.some.injEq] at h
  have hbb := below_push2 hb hb2 (by omega)
  have BV2 := BV.below hb2
  have BK2 := BK.below hb2
  have BR2 := BR.below hb2
  obtain ⟨b, off, ha, hbl, hcs, _⟩ := H.at i hi
  obtain ⟨ka, kc⟩ := kh
  simp only at ha
  subst ha
  obtain ⟨hsz, hone⟩ := H.ok L[i] (List.getElem_mem hi)
  rw [← h] at hcs hsz hone
  clear h hn BV BK BR
  have hi' : (i : Int) < (L.length : Int) := by omega
  obtain ⟨v0, v1, v2, v3, v4, v5, v6, v7, v8, v9, v10, rfl⟩ := arr11 hsz
  have eS : ∀ W, Below w.heap.size w W → W.cell? ⟨b, off + i * 11, none⟩ = some v0 ∧ W.cell? ⟨b, off + i * 11 + 1, none⟩ = some v1 ∧ W.cell? ⟨b, off + i * 11 + 2, none⟩ = some v2 ∧ W.cell? ⟨b, off + i * 11 + 3, none⟩ = some v3 ∧ W.cell? ⟨b, off + i * 11 + 4, none⟩ = some v4 ∧ W.cell? ⟨b, off + i * 11 + 5, none⟩ = some v5 ∧ W.cell? ⟨b, off + i * 11 + 6, none⟩ = some v6 ∧ W.cell? ⟨b, off + i * 11 + 7, none⟩ = some v7 ∧ W.cell? ⟨b, off + i * 11 + 8, none⟩ = some v8 ∧ W.cell? ⟨b, off + i * 11 + 9, none⟩ = some v9 ∧ W.cell? ⟨b, off + i * 11 + 10, none⟩ = some v10 := fun W hW => by
    have q := raw_keep hcs hW hbl
    exact ⟨q 0 _ rfl, q 1 _ rfl, q 2 _ rfl, q 3 _ rfl, q 4 _ rfl, q 5 _ rfl, q 6 _ rfl, q 7 _ rfl, q 8 _ rfl, q 9 _ rfl, q 10 _ rfl⟩
  have vS : ∀ W, Blk W w.heap.size (rvA ⟨some ⟨b, off, none⟩, kc⟩ sh L.length S.length k0 n0) 58 → W.cell? ⟨w.heap.size, 0, none⟩ = some (.slice (some ⟨b, off, none⟩) L.length kc) ∧ W.cell? ⟨w.heap.size, 1, none⟩ = some (.slice sh.a S.length sh.c) ∧ W.cell? ⟨w.heap.size, 2, none⟩ = some (.int .i64 k0) ∧ W.cell? ⟨w.heap.size, 3, none⟩ = some (.int .i64 n0) := fun W B => by
    exact ⟨B.at 0 rfl, B.at 1 rfl, B.at 2 rfl, B.at 3 rfl⟩
  go_upto_region 3 with (fail)
  refine wp_region_held_drew (S := fun W => (W.cell? ⟨w.heap.size, 0, none⟩ = some (.slice (some ⟨b, off, none⟩) L.length kc) ∧ W.cell? ⟨w.heap.size, 1, none⟩ = some (.slice sh.a S.length sh.c) ∧ W.cell? ⟨w.heap.size, 2, none⟩ = some (.int .i64 k0) ∧ W.cell? ⟨w.heap.size, 3, none⟩ = some (.int .i64 n0)) ∧ (W.cell? ⟨b, off + i * 11, none⟩ = some v0 ∧ W.cell? ⟨b, off + i * 11 + 1, none⟩ = some v1 ∧ W.cell? ⟨b, off + i * 11 + 2, none⟩ = some v2 ∧ W.cell? ⟨b, off + i * 11 + 3, none⟩ = some v3 ∧ W.cell? ⟨b, off + i * 11 + 4, none⟩ = some v4 ∧ W.cell? ⟨b, off + i * 11 + 5, none⟩ = some v5 ∧ W.cell? ⟨b, off + i * 11 + 6, none⟩ = some v6 ∧ W.cell? ⟨b, off + i * 11 + 7, none⟩ = some v7 ∧ W.cell? ⟨b, off + i * 11 + 8, none⟩ = some v8 ∧ W.cell? ⟨b, off + i * 11 + 9, none⟩ = some v9 ∧ W.cell? ⟨b, off + i * 11 + 10, none⟩ = some v10)) (by kernel_rfl) ?_ (fun hHeld => ?_)
  · exact ⟨vS _ BV2.drew, eS _ hbb.drew⟩
  refine wpAnyH_take (i := 1) (oi := ⟨_, _, _, _, _, _⟩) (v := ?_) rfl (by kernel_rfl) (by kernel_rfl) (by kernel_rfl) (fun _ _ _ h => h) (Or.inl ⟨by rfl, ?_⟩) (by assumption) ?_
  rotate_left
  · intro wS hSw
    try dsimp only at hSw
    go_simp
    try with_reducible rfl
  try simp only [Act.put, List.setIfInBounds_toArray, List.set_cons_zero, List.set_cons_succ]
  refine wpAnyH_take (i := 3) (oi := ⟨_, _, _, _, _, _⟩) (v := ?_) rfl (by kernel_rfl) (by kernel_rfl) (by kernel_rfl) (fun _ _ _ h => h) (Or.inl ⟨by rfl, ?_⟩) (by assumption) ?_
  rotate_left
  · intro wS hSw
    try dsimp only at hSw
    go_simp
    try with_reducible rfl
  try simp only [Act.put, List.setIfInBounds_toArray, List.set_cons_zero, List.set_cons_succ]
  refine wpAnyH_take (i := 0) (oi := ⟨_, _, _, _, _, _⟩) (v := ?_) rfl (by kernel_rfl) (by kernel_rfl) (by kernel_rfl) (fun _ _ _ h => h) (Or.inl ⟨by rfl, ?_⟩) (by assumption) ?_
  rotate_left
  · intro wS hSw
    try dsimp only at hSw
    go_simp
    try with_reducible rfl
  try simp only [Act.put, List.setIfInBounds_toArray, List.set_cons_zero, List.set_cons_succ]
  refine wpAnyH_take (i := 2) (oi := ⟨_, _, _, _, _, _⟩) (v := ?_) rfl (by kernel_rfl) (by kernel_rfl) (by kernel_rfl) (fun _ _ _ h => h) (Or.inl ⟨by rfl, ?_⟩) (by assumption) ?_
  rotate_left
  · intro wS hSw
    try dsimp only at hSw
    go_simp
    try with_reducible rfl
  try simp only [Act.put, List.setIfInBounds_toArray, List.set_cons_zero, List.set_cons_succ]
  refine wpAnyH_take (i := 4) (oi := ⟨_, _, _, _, _, _⟩) (v := ?_) rfl (by kernel_rfl) (by kernel_rfl) (by kernel_rfl) (fun _ _ _ h => h) (Or.inl ⟨by rfl, ?_⟩) (by assumption) ?_
  rotate_left
  · intro wS hSw
    try dsimp only at hSw
    go_simp
    try with_reducible rfl
  try simp only [Act.put, List.setIfInBounds_toArray, List.set_cons_zero, List.set_cons_succ]
  refine wpAnyH_take (i := 5) (oi := ⟨_, _, _, _, _, _⟩) (v := ?_) rfl (by kernel_rfl) (by kernel_rfl) (by kernel_rfl) (fun _ _ _ h => h) (Or.inl ⟨by rfl, ?_⟩) (by assumption) ?_
  rotate_left
  · intro wS hSw
    try dsimp only at hSw
    go_simp
    try with_reducible rfl
  try simp only [Act.put, List.setIfInBounds_toArray, List.set_cons_zero, List.set_cons_succ]
  refine wpAnyH_ready (rs := [6]) (by kernel_rfl) (by simp) ?_
  refine AllReadyH.cons rfl (fun K hK => ?_) AllReadyH.nil
  rw [if_pos (by rfl)]
  refine wp_store_row 58 _ _ rfl (w.heap.size + 1) _ rfl rfl 58 _ (BR2.drew).h (by kernel_rfl) (by rfl) (by kernel_rfl) ?_
  refine hK.out _ _ ?_ (fun hHeld => ?_)
  · exact ⟨vS _ (blk_row BV2.drew (by omega) _), eS _ (below_setRow hbb.drew (by omega) _)⟩
  clear hK K
  refine wpAnyH_ready (rs := [7]) (by kernel_rfl) (by simp) ?_
  refine AllReadyH.cons rfl (fun K hK => ?_) AllReadyH.nil
  rw [if_pos (by rfl)]
  refine wp_store_row 53 _ _ rfl (w.heap.size + 1 + 1) _ rfl rfl 53 _ (blk_row BK2.drew (show w.heap.size + 1 + 1 ≠ w.heap.size + 1 by omega) _).h (by kernel_rfl) (by rfl) (by exact hone) ?_
  refine hK.out _ _ ?_ (fun hHeld => ?_)
  · exact ⟨vS _ (blk_row (blk_row BV2.drew (by omega) _) (by omega) _), eS _ (below_setRow (below_setRow hbb.drew (by omega) _) (by omega) _)⟩
  clear hK K
  refine wpAnyH_take (i := 8) (oi := ⟨_, _, _, _, _, _⟩) (v := ?_) rfl (by kernel_rfl) (by kernel_rfl) (by kernel_rfl) (fun _ _ _ h => h) (Or.inl ⟨by rfl, ?_⟩) (by assumption) ?_
  rotate_left
  · intro wS hSw
    try dsimp only at hSw
    go_simp
    try with_reducible rfl
  try simp only [Act.put, List.setIfInBounds_toArray, List.set_cons_zero, List.set_cons_succ]
  refine wpAnyH_done (by kernel_rfl) ?_ _
  go_wp2_with fail
  refine bodyPost_ret (v := .tuple #[.agg (rvA ⟨some ⟨b, off, none⟩, kc⟩ sh L.length S.length k0 n0), .agg #[v0, v1, v2, v3, v4, v5, v6, v7, v8, v9, v10], .bool true]) (results_row2_tmp rfl _ _ (w.heap.size + 1) 58 (rvA ⟨some ⟨b, off, none⟩, kc⟩ sh L.length S.length k0 n0) (0, 0) _ (w.heap.size + 1 + 1) 53 _ (0, 0) _ (.bool true) rfl rfl rfl (blk_row (Blk.row BR2.drew _) (show w.heap.size + 1 ≠ w.heap.size + 1 + 1 by omega) _).h (Blk.row (blk_row BK2.drew (show w.heap.size + 1 + 1 ≠ w.heap.size + 1 by omega) _) _).h Try.underlying58 rfl (by kernel_rfl) Try.underlying53 rfl (by kernel_rfl)) rfl ⟨rfl, below_setRow (below_setRow hbb.drew (by omega) _) (by omega) _⟩
set_option maxRecDepth 100000 in
set_option maxHeartbeats 3200000 in
theorem rat_miss {w : World} {kh sh : Hd} {L : List Kn} {S : List Sp} (H : RV w kh sh L S) (k0 n0 n : Int) (hn : knAt L n = none) : Calls Try.prog 31 #[.agg (rvA kh sh L.length S.length k0 n0), .int .i64 n] w fun e w' => e = .returned (.tuple #[.agg (rvA kh sh L.length S.length (missK k0 n) (missN k0 n0 n)), .agg kz, .bool false]) ∧ Below w.heap.size w w' := by
  have hb : Below w.heap.size w (((w.alloc (.cells (rvA kh sh L.length S.length k0 n0) 58)).alloc (.cells rz 58)).alloc (.cells kz 53)) := by (repeat (first | exact Below.refl _ _ | assumption | refine below_alloc2 ?_ (by first | exact Nat.le_refl _ | omega) _ | refine Below.drew ?_ | refine below_drewN ?_ _ | refine below_push2 ?_ ‹_› (by first | exact Nat.le_refl _ | omega) | refine Below.setCell ?_ (by first | (simp; done) | (simp; omega) | omega) _))
  have BV := ((Blk.new w (rvA kh sh L.length S.length k0 n0) 58).alloc (.cells rz 58)).alloc (.cells kz 53)
  have BR := (Blk.new (w.alloc (.cells (rvA kh sh L.length S.length k0 n0) 58)) rz 58).alloc (.cells kz 53)
  have BK := Blk.new ((w.alloc (.cells (rvA kh sh L.length S.length k0 n0) 58)).alloc (.cells rz 58)) kz 53
  simp only [World.size_alloc] at BK BR
  go_enter Try.func31, Try.ntmps31
  go_upto_region 1 with (fail)
  generalize ((w.alloc (.cells (rvA kh sh L.length S.length k0 n0) 58)).alloc (.cells rz 58)).alloc (.cells kz 53) = w1 at hb BV BK BR ⊢
  have hz1 : w.heap.size + 1 + 1 < w1.heap.size := BK.lt
  go_wp2_with (refine wpList_load_row rfl 58 _ rfl w.heap.size rfl 58 _ (0, 0) _ BV.h Try.underlying58 rfl (by kernel_rfl) ?_)
  refine (rfind_any (H.below hb) k0 n0 n).mono ?_
  rintro e w2 ⟨r, rfl, hr, hb2⟩
  rcases hr with ⟨rfl, h⟩ | ⟨i, hi, rfl, _, h⟩
  case inr => rw [hn] at h; cases h
  have hbb := below_push2 hb hb2 (by omega)
  have BV2 := BV.below hb2
  have BK2 := BK.below hb2
  have BR2 := BR.below hb2
  clear h hn BV BK BR
  go_wp2_with fail
  refine (rcell_any _ n).mono ?_
  rintro e wx ⟨rfl, rfl⟩
  have hM : Hid (missK k0 n = lackK k0 (if cellB n then 1 else 3) ∧ missN k0 n0 n = lackN k0 n0 (if cellB n then n else 0)) := Lib.hid ⟨rfl, rfl⟩
  cases hc : cellB n
  · rw [hc] at hM
    clear hc
    go_wp2_with (refine wpList_load_row rfl 58 _ rfl w.heap.size rfl 58 _ (0, 0) _ (BV2).h Try.underlying58 rfl (by kernel_rfl) ?_)
    refine (rlack_any kh sh L.length S.length k0 n0 3 0 _).mono ?_
    rintro e w3 ⟨rfl, hb3⟩
    have hbz := below_push2 hbb hb3 (by have := (hbb).size; omega)
    have BR3 := (BR2).below hb3
    have BK3 := (BK2).below hb3
    have BK4 := blk_row BK3 (show w.heap.size + 1 + 1 ≠ w.heap.size + 1 by omega) (rvA kh sh L.length S.length (lackK k0 3) (lackN k0 n0 0))
    go_wp2_with (first
      | (refine wpList_store_row rfl 58 _ _ rfl (w.heap.size + 1) _ rfl rfl 58 _ BR3.h (by kernel_rfl) (by rfl) (by kernel_rfl) ?_)
      | (refine wpList_store_row rfl 53 _ _ rfl (w.heap.size + 1 + 1) _ rfl rfl 53 _ BK4.h (by kernel_rfl) (by rfl) (by kernel_rfl) ?_))
    refine bodyPost_ret (v := .tuple #[.agg (rvA kh sh L.length S.length (lackK k0 3) (lackN k0 n0 0)), .agg kz, .bool false]) (results_row2_tmp rfl _ _ (w.heap.size + 1) 58 (rvA kh sh L.length S.length (lackK k0 3) (lackN k0 n0 0)) (0, 0) _ (w.heap.size + 1 + 1) 53 kz (0, 0) _ (.bool false) rfl rfl rfl (blk_row (Blk.row BR3 _) (show w.heap.size + 1 ≠ w.heap.size + 1 + 1 by omega) _).h (Blk.row BK4 _).h Try.underlying58 rfl (by kernel_rfl) Try.underlying53 rfl (by kernel_rfl)) rfl ?_
    exact ⟨by rw [hM.out.1, hM.out.2]; rfl, below_setRow (below_setRow hbz (by omega) _) (by omega) _⟩
  · rw [hc] at hM
    clear hc
    go_wp2_with (refine wpList_load_row rfl 58 _ rfl w.heap.size rfl 58 _ (0, 0) _ (BV2).h Try.underlying58 rfl (by kernel_rfl) ?_)
    refine (rlack_any kh sh L.length S.length k0 n0 1 n _).mono ?_
    rintro e w3 ⟨rfl, hb3⟩
    have hbz := below_push2 hbb hb3 (by have := (hbb).size; omega)
    have BR3 := (BR2).below hb3
    have BK3 := (BK2).below hb3
    have BK4 := blk_row BK3 (show w.heap.size + 1 + 1 ≠ w.heap.size + 1 by omega) (rvA kh sh L.length S.length (lackK k0 1) (lackN k0 n0 n))
    go_wp2_with (first
      | (refine wpList_store_row rfl 58 _ _ rfl (w.heap.size + 1) _ rfl rfl 58 _ BR3.h (by kernel_rfl) (by rfl) (by kernel_rfl) ?_)
      | (refine wpList_store_row rfl 53 _ _ rfl (w.heap.size + 1 + 1) _ rfl rfl 53 _ BK4.h (by kernel_rfl) (by rfl) (by kernel_rfl) ?_))
    refine bodyPost_ret (v := .tuple #[.agg (rvA kh sh L.length S.length (lackK k0 1) (lackN k0 n0 n)), .agg kz, .bool false]) (results_row2_tmp rfl _ _ (w.heap.size + 1) 58 (rvA kh sh L.length S.length (lackK k0 1) (lackN k0 n0 n)) (0, 0) _ (w.heap.size + 1 + 1) 53 kz (0, 0) _ (.bool false) rfl rfl rfl (blk_row (Blk.row BR3 _) (show w.heap.size + 1 ≠ w.heap.size + 1 + 1 by omega) _).h (Blk.row BK4 _).h Try.underlying58 rfl (by kernel_rfl) Try.underlying53 rfl (by kernel_rfl)) rfl ?_
    exact ⟨by rw [hM.out.1, hM.out.2]; rfl, below_setRow (below_setRow hbz (by omega) _) (by omega) _⟩
end Go.Proofs.Ytbemgfpnoeogdaa.FoP

/-
  The document's views: Take: contracts.
-/
namespace Go.Proofs.Ytbemgfpnoeogdaa.FoP
open Go.RowKit RefP Go.Maps Dp
set_option linter.unusedVariables false
set_option linter.unusedSimpArgs false
set_option maxRecDepth 100000 in
set_option maxHeartbeats 3200000 in
theorem rtake_hit {w : World} {kh sh : Hd} {L : List Kn} {S : List Sp} (H : RV w kh sh L S) (k0 n0 : Int) (i : Nat) (hi : i < S.length) : Calls Try.prog 33 #[.agg (rvA kh sh L.length S.length k0 n0), .int .i64 i] w fun e w' => e = .returned (.tuple #[.agg (rvA kh sh L.length S.length k0 n0), .agg #[.int .i64 S[i].1, .int .u64 S[i].2], .bool true]) ∧ Below w.heap.size w w' := by
  have hsl := H.sl
  have hc : cellB i = true := by simp [cellB]; omega
  have hb : Below w.heap.size w (((w.alloc (.cells (rvA kh sh L.length S.length k0 n0) 58)).alloc (.cells rz 58)).alloc (.cells sz 60)) := by (repeat (first | exact Below.refl _ _ | assumption | refine below_alloc2 ?_ (by first | exact Nat.le_refl _ | omega) _ | refine Below.drew ?_ | refine below_drewN ?_ _ | refine below_push2 ?_ ‹_› (by first | exact Nat.le_refl _ | omega) | refine Below.setCell ?_ (by first | (simp; done) | (simp; omega) | omega) _))
  have BV := ((Blk.new w (rvA kh sh L.length S.length k0 n0) 58).alloc (.cells rz 58)).alloc (.cells sz 60)
  have BR := (Blk.new (w.alloc (.cells (rvA kh sh L.length S.length k0 n0) 58)) rz 58).alloc (.cells sz 60)
  have BK := Blk.new ((w.alloc (.cells (rvA kh sh L.length S.length k0 n0) 58)).alloc (.cells rz 58)) sz 60
  simp only [World.size_alloc] at BK BR
  go_enter Try.func33, Try.ntmps33
  go_upto_region 1 with (fail)
  generalize ((w.alloc (.cells (rvA kh sh L.length S.length k0 n0) 58)).alloc (.cells rz 58)).alloc (.cells sz 60) = w1 at hb BV BK BR ⊢
  have hz1 : w.heap.size + 1 + 1 < w1.heap.size := BK.lt
  go_wp2_with fail
  refine (rcell_any _ i).mono ?_
  rintro e w2 ⟨rfl, rfl⟩
  rw [hc]
  obtain ⟨b, off, ha, hbl, y0, y1, _⟩ := sp_at H.sp i hi
  obtain ⟨ka, kc⟩ := sh
  simp only at ha
  subst ha
  have hi' : (i : Int) < (S.length : Int) := by omega
  generalize hx0 : S[i].1 = x0 at y0
  generalize hx1 : S[i].2 = x1 at y1
  replace hx0 := Lib.hid hx0
  replace hx1 := Lib.hid hx1
  have eS : ∀ W, Below w.heap.size w W → W.cell? ⟨b, off + i * 2, none⟩ = some (.int .i64 x0) ∧ W.cell? ⟨b, off + i * 2 + 1, none⟩ = some (.int .u64 x1) := fun W hW => ⟨(hW.cell hbl).trans y0, (hW.cell hbl).trans y1⟩
  have vS : ∀ W, Blk W w.heap.size (rvA kh ⟨some ⟨b, off, none⟩, kc⟩ L.length S.length k0 n0) 58 → W.cell? ⟨w.heap.size, 0, none⟩ = some (.slice kh.a L.length kh.c) ∧ W.cell? ⟨w.heap.size, 1, none⟩ = some (.slice (some ⟨b, off, none⟩) S.length kc) ∧ W.cell? ⟨w.heap.size, 2, none⟩ = some (.int .i64 k0) ∧ W.cell? ⟨w.heap.size, 3, none⟩ = some (.int .i64 n0) := fun W B => ⟨B.at 0 rfl, B.at 1 rfl, B.at 2 rfl, B.at 3 rfl⟩
  have z1 := BV.at 1 rfl
  go_upto_region 4 with (fail)
  clear z1
  refine wp_region_held_drew (S := fun W => (W.cell? ⟨w.heap.size, 0, none⟩ = some (.slice kh.a L.length kh.c) ∧ W.cell? ⟨w.heap.size, 1, none⟩ = some (.slice (some ⟨b, off, none⟩) S.length kc) ∧ W.cell? ⟨w.heap.size, 2, none⟩ = some (.int .i64 k0) ∧ W.cell? ⟨w.heap.size, 3, none⟩ = some (.int .i64 n0)) ∧ (W.cell? ⟨b, off + i * 2, none⟩ = some (.int .i64 x0) ∧ W.cell? ⟨b, off + i * 2 + 1, none⟩ = some (.int .u64 x1))) (by kernel_rfl) ?_ (fun hHeld => ?_)
  · exact ⟨vS _ BV.drew, eS _ hb.drew⟩
  refine wpAnyH_take (i := 1) (oi := ⟨_, _, _, _, _, _⟩) (v := ?_) rfl (by kernel_rfl) (by kernel_rfl) (by kernel_rfl) (fun _ _ _ h => h) (Or.inl ⟨by rfl, ?_⟩) (by assumption) ?_
  rotate_left
  · intro wS hSw
    try dsimp only at hSw
    go_simp
    try with_reducible rfl
  try simp only [Act.put, List.setIfInBounds_toArray, List.set_cons_zero, List.set_cons_succ]
  refine wpAnyH_take (i := 3) (oi := ⟨_, _, _, _, _, _⟩) (v := ?_) rfl (by kernel_rfl) (by kernel_rfl) (by kernel_rfl) (fun _ _ _ h => h) (Or.inl ⟨by rfl, ?_⟩) (by assumption) ?_
  rotate_left
  · intro wS hSw
    try dsimp only at hSw
    go_simp
    try with_reducible rfl
  try simp only [Act.put, List.setIfInBounds_toArray, List.set_cons_zero, List.set_cons_succ]
  refine wpAnyH_take (i := 0) (oi := ⟨_, _, _, _, _, _⟩) (v := ?_) rfl (by kernel_rfl) (by kernel_rfl) (by kernel_rfl) (fun _ _ _ h => h) (Or.inl ⟨by rfl, ?_⟩) (by assumption) ?_
  rotate_left
  · intro wS hSw
    try dsimp only at hSw
    go_simp
    try with_reducible rfl
  try simp only [Act.put, List.setIfInBounds_toArray, List.set_cons_zero, List.set_cons_succ]
  refine wpAnyH_take (i := 2) (oi := ⟨_, _, _, _, _, _⟩) (v := ?_) rfl (by kernel_rfl) (by kernel_rfl) (by kernel_rfl) (fun _ _ _ h => h) (Or.inl ⟨by rfl, ?_⟩) (by assumption) ?_
  rotate_left
  · intro wS hSw
    try dsimp only at hSw
    go_simp
    try with_reducible rfl
  try simp only [Act.put, List.setIfInBounds_toArray, List.set_cons_zero, List.set_cons_succ]
  refine wpAnyH_take (i := 4) (oi := ⟨_, _, _, _, _, _⟩) (v := ?_) rfl (by kernel_rfl) (by kernel_rfl) (by kernel_rfl) (fun _ _ _ h => h) (Or.inl ⟨by rfl, ?_⟩) (by assumption) ?_
  rotate_left
  · intro wS hSw
    try dsimp only at hSw
    go_simp
    try with_reducible rfl
  try simp only [Act.put, List.setIfInBounds_toArray, List.set_cons_zero, List.set_cons_succ]
  refine wpAnyH_take (i := 5) (oi := ⟨_, _, _, _, _, _⟩) (v := ?_) rfl (by kernel_rfl) (by kernel_rfl) (by kernel_rfl) (fun _ _ _ h => h) (Or.inl ⟨by rfl, ?_⟩) (by assumption) ?_
  rotate_left
  · intro wS hSw
    try dsimp only at hSw
    go_simp
    try with_reducible rfl
  try simp only [Act.put, List.setIfInBounds_toArray, List.set_cons_zero, List.set_cons_succ]
  refine wpAnyH_ready (rs := [6]) (by kernel_rfl) (by simp) ?_
  refine AllReadyH.cons rfl (fun K hK => ?_) AllReadyH.nil
  rw [if_pos (by rfl)]
  refine wp_store_row 58 _ _ rfl (w.heap.size + 1) _ rfl rfl 58 _ (BR.drew).h (by kernel_rfl) (by rfl) (by kernel_rfl) ?_
  refine hK.out _ _ ?_ (fun hHeld => ?_)
  · exact ⟨vS _ (blk_row BV.drew (by omega) _), eS _ (below_setRow hb.drew (by omega) _)⟩
  clear hK K
  refine wpAnyH_ready (rs := [7]) (by kernel_rfl) (by simp) ?_
  refine AllReadyH.cons rfl (fun K hK => ?_) AllReadyH.nil
  rw [if_pos (by rfl)]
  refine wp_store_row 60 _ _ rfl (w.heap.size + 1 + 1) _ rfl rfl 60 _ (blk_row BK.drew (show w.heap.size + 1 + 1 ≠ w.heap.size + 1 by omega) _).h (by kernel_rfl) (by rfl) (by kernel_rfl) ?_
  refine hK.out _ _ ?_ (fun hHeld => ?_)
  · exact ⟨vS _ (blk_row (blk_row BV.drew (by omega) _) (by omega) _), eS _ (below_setRow (below_setRow hb.drew (by omega) _) (by omega) _)⟩
  clear hK K
  refine wpAnyH_take (i := 8) (oi := ⟨_, _, _, _, _, _⟩) (v := ?_) rfl (by kernel_rfl) (by kernel_rfl) (by kernel_rfl) (fun _ _ _ h => h) (Or.inl ⟨by rfl, ?_⟩) (by assumption) ?_
  rotate_left
  · intro wS hSw
    try dsimp only at hSw
    go_simp
    try with_reducible rfl
  try simp only [Act.put, List.setIfInBounds_toArray, List.set_cons_zero, List.set_cons_succ]
  refine wpAnyH_done (by kernel_rfl) ?_ _
  go_wp2_with fail
  refine bodyPost_ret (v := .tuple #[.agg (rvA kh ⟨some ⟨b, off, none⟩, kc⟩ L.length S.length k0 n0), .agg #[.int .i64 x0, .int .u64 x1], .bool true]) (results_row2_tmp rfl _ _ (w.heap.size + 1) 58 (rvA kh ⟨some ⟨b, off, none⟩, kc⟩ L.length S.length k0 n0) (0, 0) _ (w.heap.size + 1 + 1) 60 _ (0, 0) _ (.bool true) rfl rfl rfl (blk_row (Blk.row BR.drew _) (show w.heap.size + 1 ≠ w.heap.size + 1 + 1 by omega) _).h (Blk.row (blk_row BK.drew (show w.heap.size + 1 + 1 ≠ w.heap.size + 1 by omega) _) _).h Try.underlying58 rfl (by kernel_rfl) Try.underlying60 rfl (by kernel_rfl)) rfl ⟨by rw [hx0.out, hx1.out], below_setRow (below_setRow hb.drew (by omega) _) (by omega) _⟩
def tmissK (k0 n : Int) : Int := lackK k0 (if cellB n then 2 else 3)
def tmissN (k0 n0 n : Int) : Int := lackN k0 n0 (if cellB n then n + 1 else 0)
set_option maxRecDepth 100000 in
set_option maxHeartbeats 3200000 in
theorem rtake_miss {w : World} {kh sh : Hd} {L : List Kn} {S : List Sp} (H : RV w kh sh L S) (k0 n0 n : Int) (hm : cellB n = false ∨ (S.length : Int) ≤ n) : Calls Try.prog 33 #[.agg (rvA kh sh L.length S.length k0 n0), .int .i64 n] w fun e w' => e = .returned (.tuple #[.agg (rvA kh sh L.length S.length (tmissK k0 n) (tmissN k0 n0 n)), .agg sz, .bool false]) ∧ Below w.heap.size w w' := by
  have hsl := H.sl
  have hb : Below w.heap.size w (((w.alloc (.cells (rvA kh sh L.length S.length k0 n0) 58)).alloc (.cells rz 58)).alloc (.cells sz 60)) := by (repeat (first | exact Below.refl _ _ | assumption | refine below_alloc2 ?_ (by first | exact Nat.le_refl _ | omega) _ | refine Below.drew ?_ | refine below_drewN ?_ _ | refine below_push2 ?_ ‹_› (by first | exact Nat.le_refl _ | omega) | refine Below.setCell ?_ (by first | (simp; done) | (simp; omega) | omega) _))
  have BV := ((Blk.new w (rvA kh sh L.length S.length k0 n0) 58).alloc (.cells rz 58)).alloc (.cells sz 60)
  have BR := (Blk.new (w.alloc (.cells (rvA kh sh L.length S.length k0 n0) 58)) rz 58).alloc (.cells sz 60)
  have BK := Blk.new ((w.alloc (.cells (rvA kh sh L.length S.length k0 n0) 58)).alloc (.cells rz 58)) sz 60
  simp only [World.size_alloc] at BK BR
  go_enter Try.func33, Try.ntmps33
  go_upto_region 1 with (fail)
  generalize ((w.alloc (.cells (rvA kh sh L.length S.length k0 n0) 58)).alloc (.cells rz 58)).alloc (.cells sz 60) = w1 at hb BV BK BR ⊢
  have hz1 : w.heap.size + 1 + 1 < w1.heap.size := BK.lt
  go_wp2_with fail
  refine (rcell_any _ n).mono ?_
  rintro e w2 ⟨rfl, rfl⟩
  have hM : Hid (tmissK k0 n = lackK k0 (if cellB n then 2 else 3) ∧ tmissN k0 n0 n = lackN k0 n0 (if cellB n then n + 1 else 0)) := Lib.hid ⟨rfl, rfl⟩
  cases hc : cellB n
  · rw [hc] at hM
    clear hc hm
    go_wp2_with (refine wpList_load_row rfl 58 _ rfl w.heap.size rfl 58 _ (0, 0) _ (BV).h Try.underlying58 rfl (by kernel_rfl) ?_)
    refine (rlack_any kh sh L.length S.length k0 n0 3 0 _).mono ?_
    rintro e w3 ⟨rfl, hb3⟩
    have hbz := below_push2 hb hb3 (by have := (hb).size; omega)
    have BR3 := (BR).below hb3
    have BK3 := (BK).below hb3
    have BK4 := blk_row BK3 (show w.heap.size + 1 + 1 ≠ w.heap.size + 1 by omega) (rvA kh sh L.length S.length (lackK k0 3) (lackN k0 n0 0))
    go_wp2_with (first
      | (refine wpList_store_row rfl 58 _ _ rfl (w.heap.size + 1) _ rfl rfl 58 _ BR3.h (by kernel_rfl) (by rfl) (by kernel_rfl) ?_)
      | (refine wpList_store_row rfl 60 _ _ rfl (w.heap.size + 1 + 1) _ rfl rfl 60 _ BK4.h (by kernel_rfl) (by rfl) (by kernel_rfl) ?_))
    refine bodyPost_ret (v := .tuple #[.agg (rvA kh sh L.length S.length (lackK k0 3) (lackN k0 n0 0)), .agg sz, .bool false]) (results_row2_tmp rfl _ _ (w.heap.size + 1) 58 (rvA kh sh L.length S.length (lackK k0 3) (lackN k0 n0 0)) (0, 0) _ (w.heap.size + 1 + 1) 60 sz (0, 0) _ (.bool false) rfl rfl rfl (blk_row (Blk.row BR3 _) (show w.heap.size + 1 ≠ w.heap.size + 1 + 1 by omega) _).h (Blk.row BK4 _).h Try.underlying58 rfl (by kernel_rfl) Try.underlying60 rfl (by kernel_rfl)) rfl ?_
    exact ⟨by rw [hM.out.1, hM.out.2]; rfl, below_setRow (below_setRow hbz (by omega) _) (by omega) _⟩
  · rw [hc] at hM
    have hn : 0 ≤ n ∧ n < 8192 := by simpa [cellB] using hc
    have hlt : ¬ n < (S.length : Int) := by
      rcases hm with h | h
      · rw [hc] at h; cases h
      · omega
    have z1 := BV.at 1 rfl
    clear hc hm
    go_wp2_with (refine wpList_load_row rfl 58 _ rfl w.heap.size rfl 58 _ (0, 0) _ (BV).h Try.underlying58 rfl (by kernel_rfl) ?_)
    refine (rlack_any kh sh L.length S.length k0 n0 2 (n + 1) _).mono ?_
    rintro e w3 ⟨rfl, hb3⟩
    have hbz := below_push2 hb hb3 (by have := (hb).size; omega)
    have BR3 := (BR).below hb3
    have BK3 := (BK).below hb3
    have BK4 := blk_row BK3 (show w.heap.size + 1 + 1 ≠ w.heap.size + 1 by omega) (rvA kh sh L.length S.length (lackK k0 2) (lackN k0 n0 (n + 1)))
    go_wp2_with (first
      | (refine wpList_store_row rfl 58 _ _ rfl (w.heap.size + 1) _ rfl rfl 58 _ BR3.h (by kernel_rfl) (by rfl) (by kernel_rfl) ?_)
      | (refine wpList_store_row rfl 60 _ _ rfl (w.heap.size + 1 + 1) _ rfl rfl 60 _ BK4.h (by kernel_rfl) (by rfl) (by kernel_rfl) ?_))
    refine bodyPost_ret (v := .tuple #[.agg (rvA kh sh L.length S.length (lackK k0 2) (lackN k0 n0 (n + 1))), .agg sz, .bool false]) (results_row2_tmp rfl _ _ (w.heap.size + 1) 58 (rvA kh sh L.length S.length (lackK k0 2) (lackN k0 n0 (n + 1))) (0, 0) _ (w.heap.size + 1 + 1) 60 sz (0, 0) _ (.bool false) rfl rfl rfl (blk_row (Blk.row BR3 _) (show w.heap.size + 1 ≠ w.heap.size + 1 + 1 by omega) _).h (Blk.row BK4 _).h Try.underlying58 rfl (by kernel_rfl) Try.underlying60 rfl (by kernel_rfl)) rfl ?_
    exact ⟨by rw [hM.out.1, hM.out.2]; rfl, below_setRow (below_setRow hbz (by omega) _) (by omega) _⟩
end Go.Proofs.Ytbemgfpnoeogdaa.FoP

/-
  The document's views: Cells: contract.
-/
namespace Go.Proofs.Ytbemgfpnoeogdaa.FoP
open Go.RowKit RefP Go.Maps Dp
set_option linter.unusedVariables false
set_option linter.unusedSimpArgs false
theorem nodup_len : ∀ (l m : List Int), l.Nodup → l ⊆ m → l.length ≤ m.length
  | [], _, _, _ => Nat.zero_le _
  | x :: t, m, hn, hs => by
    have h1 := List.nodup_cons.1 hn
    have hx : x ∈ m := hs (List.mem_cons_self ..)
    have := nodup_len t (m.erase x) h1.2 (fun y hy => (List.mem_erase_of_ne (fun e => h1.1 (by rw [← e]; exact hy))).2 (hs (List.mem_cons_of_mem _ hy)))
    rw [List.length_erase_of_mem hx] at this
    have := List.length_pos_of_mem hx
    rw [List.length_cons]; omega
theorem infoInt : (Try.prog.info? 3).map (fun i => (i.zero, i.size, i.bytes)) = some (some (.int .i64 0), 1, 8) := by kernel_rfl
theorem tinInt : TIn Try.prog 24 3 i64C.k 8 := tin_mk Try.underlying24 infoInt (by simp [Value.cells]; rfl)
abbrev OwnI (w : World) (base : Nat) (a : Option Addr) (c : Nat) (l : List Int) : Prop := OwnV i64C w [] w base 3 a c l
theorem OwnI.below {w w' : World} {base : Nat} {a : Option Addr} {c : Nat} {l : List Int} (h : OwnI w base a c l) (hb : Below w.heap.size w w') : OwnI w' base a c l := (OwnV.below h hb).rep (fun _ _ h => h)
def cellsTo (L : List Kn) (k : Nat) : List Int := ((List.range k).filter (fun n : Nat => (knAt L (n : Int)).isSome)).map (fun n : Nat => (n : Int))
def cellsL (L : List Kn) : List Int := cellsTo L 8192
theorem cellsTo_no {L : List Kn} {k : Nat} (h : knAt L (k : Int) = none) : cellsTo L (k + 1) = cellsTo L k := by
  unfold cellsTo
  rw [List.range_succ, List.filter_append]
  simp [h]
theorem cellsTo_yes {L : List Kn} {k : Nat} {c : Array Value} (h : knAt L (k : Int) = some c) : cellsTo L (k + 1) = cellsTo L k ++ [(k : Int)] := by
  unfold cellsTo
  rw [List.range_succ, List.filter_append]
  simp [h]
theorem cellsTo_le (L : List Kn) (k : Nat) : (cellsTo L k).length ≤ L.length := by
  unfold cellsTo
  have h1 : ((List.range k).filter (fun n : Nat => (knAt L (n : Int)).isSome)).map (fun n : Nat => (n : Int)) ⊆ L.map (·.1) := by
    intro x hx
    obtain ⟨n, hn, rfl⟩ := List.mem_map.1 hx
    have hs := (List.mem_filter.1 hn).2
    unfold knAt at hs
    rw [Option.isSome_map] at hs
    obtain ⟨p, hp⟩ := Option.isSome_iff_exists.1 hs
    have := List.find?_some hp
    exact List.mem_map.2 ⟨p, List.mem_of_find?_eq_some hp, by simpa using this⟩
  have h2 : (((List.range k).filter (fun n : Nat => (knAt L (n : Int)).isSome)).map (fun n : Nat => (n : Int))).Nodup := by
    refine List.Pairwise.map _ ?_ (List.Pairwise.filter _ List.nodup_range)
    intro a b h e
    exact h (Int.ofNat.inj e)
  have := nodup_len _ _ h2 h1
  simpa using this
theorem cellsTo_mono {L : List Kn} {j k : Nat} (h : j ≤ k) (hl : (cellsTo L j).length = L.length) : cellsTo L k = cellsTo L j := by
  induction k with
  | zero =>
    obtain rfl : j = 0 := by omega
    rfl
  | succ k ih =>
    by_cases e : j = k + 1
    · rw [e]
    · have ih := ih (by omega)
      cases q : knAt L (k : Int) with
      | none => rw [cellsTo_no q, ih]
      | some c =>
        have h1 := cellsTo_yes q
        have h2 := cellsTo_le L (k + 1)
        rw [h1, ih, List.length_append, hl] at h2
        simp at h2
        omega
set_option maxRecDepth 100000 in
set_option maxHeartbeats 3200000 in
theorem rcells_any {w : World} {kh sh : Hd} {L : List Kn} {S : List Sp} (H : RV w kh sh L S) (k0 n0 : Int) : Calls Try.prog 57 #[.agg (rvA kh sh L.length S.length k0 n0)] w fun e w' => ∃ a c, e = .returned (.slice a (cellsL L).length c) ∧ Below w.heap.size w w' ∧ OwnI w' w.heap.size a c (cellsL L) := by
  have hb : Below w.heap.size w (w.alloc (.cells (rvA kh sh L.length S.length k0 n0) 58)) := by (repeat (first | exact Below.refl _ _ | assumption | refine below_alloc2 ?_ (by first | exact Nat.le_refl _ | omega) _ | refine Below.drew ?_ | refine below_drewN ?_ _ | refine below_push2 ?_ ‹_› (by first | exact Nat.le_refl _ | omega) | refine Below.setCell ?_ (by first | (simp; done) | (simp; omega) | omega) _))
  have BV := Blk.new w (rvA kh sh L.length S.length k0 n0) 58
  have hll := H.ll
  go_enter Try.func57, Try.ntmps57
  go_upto_region 1 with (fail)
  generalize w.alloc (.cells (rvA kh sh L.length S.length k0 n0) 58) = w1 at hb BV ⊢
  have H1 := H.below hb
  go_wp2_with fail
  go_loopg [3, 4] 8192 (fun gg v3 i wr => ∃ (k : Nat) (a : Option Addr) (c : Nat), k ≤ 8192 ∧ 8192 ≤ k + gg ∧ i = .int .i64 k ∧ v3 = .slice a (cellsTo L k).length c ∧ Below w1.heap.size w1 wr ∧ OwnI wr w1.heap.size a c (cellsTo L k))
  case atStart => exact ⟨0, none, 0, Nat.zero_le _, by omega, rfl, rfl, Below.refl _ _, OwnV.nil _ _ _ _ _⟩
  case round =>
    obtain ⟨k, a, c, hk, hkg, rfl, rfl, hb2, O⟩ := hrel
    have BW := BV.below hb2
    have hbb := below_push2 hb hb2 (Nat.le_refl _)
    have x0 := BW.at 0 rfl
    have hle := cellsTo_le L k
    by_cases hlt : k < 8192
    · have hlt' : (k : Int) < 8192 := by omega
      by_cases hf : (cellsTo L k).length < L.length
      · have hf' : ((cellsTo L k).length : Int) < (L.length : Int) := by omega
        have hN : Hid (knAt L (k : Int) = none → cellsTo L (k + 1) = cellsTo L k) := Lib.hid cellsTo_no
        have hY : Hid (∀ c, knAt L (k : Int) = some c → cellsTo L (k + 1) = cellsTo L k ++ [(k : Int)]) := Lib.hid (fun c => cellsTo_yes)
        generalize cellsTo L k = l at O hN hY hf hf' hle
        go_wp2_with (refine wpList_load_row rfl 58 _ rfl w.heap.size rfl 58 _ (0, 0) _ BW.h Try.underlying58 rfl (by kernel_rfl) ?_)
        refine (rfind_any (H1.below hb2) k0 n0 k).mono ?_
        rintro e w2 ⟨r, rfl, hr, hb3⟩
        have O3 := OwnI.below O hb3
        have hb4 := below_push2 hb2 hb3 (Nat.le_refl _)
        clear x0 BW O
        rcases hr with ⟨rfl, h⟩ | ⟨i, hi, rfl, _, h⟩
        · replace h := Lib.hid h
          go_wp2_with fail
          go_roundg (8192 - (k + 1))
          case measure => omega
          case rel => exact ⟨k + 1, a, c, by omega, by omega, by go_num, by rw [hN.out h.out], hb4, by rw [hN.out h.out]; exact O3⟩
        · replace h := Lib.hid h
          have hbx : Below w2.heap.size w2 (w2.alloc (.cells #[.int .i64 k] 3)) := (Below.refl _ _).alloc (Nat.le_refl _) _
          obtain ⟨g, d, w5, A⟩ := OwnV.addLit tinInt (by decide) (OwnI.below O3 hbx) (Blk.new w2 #[.int .i64 k] 3) (x := (k : Int)) ⟨rfl, wf_i64 ⟨by omega, by omega⟩⟩ (by omega) (by decide) (by have := hbx.size; have := hb4.size; omega)
          have hr := Lib.hid A.run
          have hbW : Below w1.heap.size w1 w5 := A.fr.below (below_push2 hb4 hbx (Nat.le_refl _)) (Nat.le_refl _) (fun b hb => (OwnV.lt O3 b hb).1)
          have O5 : OwnI w5 w1.heap.size (some ⟨g, 0, none⟩) d (l ++ [(k : Int)]) := A.own.rep (wr' := w5) (S' := []) (fun _ _ h => h)
          clear A O3
          go_wp2_with (at_builtin; refine wpList_append_run hr.out rfl (by rfl) (by rfl) (by rfl) ?_)
          all_goals
            go_roundg (8192 - (k + 1))
            case measure => omega
            case rel => exact ⟨k + 1, _, _, by omega, by omega, by go_num, by rw [hY.out _ h.out, List.length_append]; rfl, hbW, by rw [hY.out _ h.out]; exact O5⟩
      · have hf' : ¬ ((cellsTo L k).length : Int) < (L.length : Int) := by omega
        have hE : Hid (cellsL L = cellsTo L k) := Lib.hid (cellsTo_mono (by omega) (by omega))
        generalize cellsTo L k = l at O hE hf hf' hle
        go_wp2_with fail
        go_ret
        exact ⟨a, c, by rw [hE.out]; rfl, hbb, by rw [hE.out]; exact OwnV.lower O hb.size⟩
    · obtain rfl : k = 8192 := by omega
      have hE : Hid (cellsL L = cellsTo L 8192) := Lib.hid rfl
      generalize cellsTo L 8192 = l at O hE hle
      go_wp2_with fail
      go_ret
      exact ⟨a, c, by rw [hE.out]; rfl, hbb, by rw [hE.out]; exact OwnV.lower O hb.size⟩
end Go.Proofs.Ytbemgfpnoeogdaa.FoP

/-
  A view: Take: contracts.
-/
namespace Go.Proofs.Ytbemgfpnoeogdaa.FoP
open Go.RowKit RefP Go.Maps Dp
set_option linter.unusedVariables false
set_option linter.unusedSimpArgs false
theorem sp_cells {w : World} {base : Nat} {a : Option Addr} {c : Nat} {S : List Sp} (H : OwnSp w base a c S) (i : Nat) (hi : i < S.length) : ∃ b off, a = some ⟨b, off, none⟩ ∧ b < w.heap.size ∧ w.cell? ⟨b, off + i * 2, none⟩ = some (.int .i64 S[i].1) ∧ w.cell? ⟨b, off + i * 2 + 1, none⟩ = some (.int .u64 S[i].2) := by
  obtain ⟨b, off, ha, hb, hc⟩ := H.read.cell i hi (by decide)
  have e : S.getD i (0, 0) = S[i] := by rw [List.getD_eq_getElem?_getD, List.getElem?_eq_getElem hi]; rfl
  have h0 := hc 0 (by decide)
  have h1 := hc 1 (by decide)
  rw [e] at h0 h1
  exact ⟨b, off, ha, hb, h0, h1⟩
set_option maxRecDepth 20000 in
set_option maxHeartbeats 1600000 in
theorem take_hit {w : World} {base o m : Nat} {L : List Kn} {a : Option Addr} {c : Nat} {S : List Sp} {k0 n0 : Int} (V : VwAt w base o m L a c S k0 n0) (i : Nat) (hi : i < S.length) (hl : S.length ≤ 100) :
    Calls Try.prog 32 #[.pointer (some ⟨o, 0, none⟩), .int .i64 i] w fun e w' => e = .returned (.tuple #[.agg #[.int .i64 S[i].1, .int .u64 S[i].2], .bool true]) ∧ Below w.heap.size w w' := by
  have hc : cellB i = true := by simp [cellB]; omega
  have hb := (Below.refl w.heap.size w).alloc (Nat.le_refl _) (.cells sz 60)
  have V1 := V.under hb
  have BR := Blk.new w sz 60
  have hlo := V.lts
  generalize hW : w.alloc (.cells sz 60) = w1 at hb V1 BR
  replace hW := Lib.hid hW
  go_enter Try.func32, Try.ntmps32
  go_wp2_with fail
  rw [hW.out]
  refine (none_some V1.head).mono ?_
  rintro e w2 ⟨rfl, rfl⟩
  go_wp2_with fail
  refine (cell_any _ i).mono ?_
  rintro e w3 ⟨rfl, rfl⟩
  rw [hc]
  obtain ⟨b, off, ha, hbl, y0, y1⟩ := sp_cells V1.spares i hi
  have hi' : (i : Int) < (S.length : Int) := by omega
  have c1 : w3.cell? ⟨o, 1, none⟩ = some (.slice (some ⟨b, off, none⟩) S.length c) := by rw [← ha]; exact V1.head.at 1 rfl
  generalize hx0 : S[i].1 = x0 at y0
  generalize hx1 : S[i].2 = x1 at y1
  replace hx0 := Lib.hid hx0
  replace hx1 := Lib.hid hx1
  go_wp2_with (refine wpList_store_row rfl 60 _ _ rfl w.heap.size _ rfl rfl 60 _ BR.h (by kernel_rfl) (by rfl) (by kernel_rfl) ?_)
  refine bodyPost_ret (v := .tuple #[.agg #[.int .i64 x0, .int .u64 x1], .bool true]) (results_cell_tmp rfl _ _ w.heap.size 60 #[.int .i64 x0, .int .u64 x1] (0, 0) _ (.bool true) rfl rfl (Blk.row BR _).h Try.underlying60 rfl (by kernel_rfl)) rfl ⟨by rw [hx0.out, hx1.out], below_setRow hb (Nat.le_refl _) _⟩
set_option maxRecDepth 20000 in
set_option maxHeartbeats 1600000 in
theorem take_miss {w : World} {base o m : Nat} {L : List Kn} {a : Option Addr} {c : Nat} {S : List Sp} {k0 n0 : Int} (V : VwAt w base o m L a c S k0 n0) (n : Int) (hm : cellB n = false ∨ (S.length : Int) ≤ n) (hl : S.length ≤ 100) :
    Calls Try.prog 32 #[.pointer (some ⟨o, 0, none⟩), .int .i64 n] w fun e w' => e = .returned (.tuple #[.agg sz, .bool false]) ∧ VwAt w' base o m L a c S (tmissK k0 n) (tmissN k0 n0 n) ∧ Fr [o] w w' := by
  have hb := (Below.refl w.heap.size w).alloc (Nat.le_refl _) (.cells sz 60)
  have V1 := V.under hb
  have BR := Blk.new w sz 60
  have hlo := V.lts
  generalize hW : w.alloc (.cells sz 60) = w1 at hb V1 BR
  replace hW := Lib.hid hW
  go_enter Try.func32, Try.ntmps32
  go_wp2_with fail
  rw [hW.out]
  refine (none_some V1.head).mono ?_
  rintro e w2 ⟨rfl, rfl⟩
  go_wp2_with fail
  refine (cell_any _ n).mono ?_
  rintro e w3 ⟨rfl, rfl⟩
  have hF1 : Fr [o] w _ := Fr.of_below hb
  have hM : Hid (tmissK k0 n = lackK k0 (if cellB n then 2 else 3) ∧ tmissN k0 n0 n = lackN k0 n0 (if cellB n then n + 1 else 0)) := Lib.hid ⟨rfl, rfl⟩
  cases hc : cellB n
  · rw [hc] at hM
    clear hc hm
    go_wp2_with fail
    refine (giveup_any V1).mono ?_
    rintro e w4 ⟨rfl, V4, F4⟩
    have BR4 := F4.blk BR (by simp; omega)
    go_wp2_with (refine wpList_store_row rfl 60 _ _ rfl w.heap.size _ rfl rfl 60 _ BR4.h (by kernel_rfl) (by rfl) (by kernel_rfl) ?_)
    refine bodyPost_ret (v := .tuple #[.agg sz, .bool false]) (results_cell_tmp rfl _ _ w.heap.size 60 sz (0, 0) _ (.bool false) rfl rfl (Blk.row BR4 sz).h Try.underlying60 rfl (by kernel_rfl)) rfl ?_
    refine ⟨rfl, ?_, (hF1.trans F4).rowNew _ _ (Nat.le_refl _)⟩
    rw [hM.out.1, hM.out.2]
    exact V.row V4 w.heap.size sz (Nat.le_refl _)
  · rw [hc] at hM
    have hn : 0 ≤ n ∧ n < 8192 := by simpa [cellB] using hc
    have hlt : ¬ n < (S.length : Int) := by
      rcases hm with h | h
      · rw [hc] at h; cases h
      · omega
    have c1 := V1.head.at 1 rfl
    clear hc hm
    go_wp2_with fail
    refine (lack_any V1 2 (n + 1)).mono ?_
    rintro e w4 ⟨rfl, V4, F4⟩
    have BR4 := F4.blk BR (by simp; omega)
    go_wp2_with (refine wpList_store_row rfl 60 _ _ rfl w.heap.size _ rfl rfl 60 _ BR4.h (by kernel_rfl) (by rfl) (by kernel_rfl) ?_)
    refine bodyPost_ret (v := .tuple #[.agg sz, .bool false]) (results_cell_tmp rfl _ _ w.heap.size 60 sz (0, 0) _ (.bool false) rfl rfl (Blk.row BR4 sz).h Try.underlying60 rfl (by kernel_rfl)) rfl ?_
    refine ⟨rfl, ?_, (hF1.trans F4).rowNew _ _ (Nat.le_refl _)⟩
    rw [hM.out.1, hM.out.2]
    exact V.row V4 w.heap.size sz (Nat.le_refl _)
end Go.Proofs.Ytbemgfpnoeogdaa.FoP

/-
  A view: Spare: contracts.
-/
namespace Go.Proofs.Ytbemgfpnoeogdaa.FoP
open Go.RowKit RefP Go.Maps Dp
set_option linter.unusedVariables false
set_option linter.unusedSimpArgs false
theorem sp1_any {w : World} (t : Nat) (n x0 x1 : Int) (ht : t < w.heap.size) (c0 : w.cell? ⟨t, 0, none⟩ = some (.int .i64 n)) : Calls Try.prog 55 #[.agg #[.int .i64 x0, .int .u64 x1], .pointer (some ⟨t, 0, none⟩)] w fun e w' => e = .returned (.bool (x0 == n)) ∧ Below w.heap.size w w' := by
  have hb : Below w.heap.size w (w.alloc (.cells #[.int .i64 x0, .int .u64 x1] 60)) := by (repeat (first | exact Below.refl _ _ | assumption | refine below_alloc2 ?_ (by first | exact Nat.le_refl _ | omega) _ | refine Below.drew ?_ | refine below_drewN ?_ _ | refine below_push2 ?_ ‹_› (by first | exact Nat.le_refl _ | omega) | refine Below.setCell ?_ (by first | (simp; done) | (simp; omega) | omega) _))
  have c0' : (w.alloc (.cells #[.int .i64 x0, .int .u64 x1] 60)).cell? ⟨t, 0, none⟩ = some (.int .i64 n) := (hb.cell ht).trans c0
  have x0' : (w.alloc (.cells #[.int .i64 x0, .int .u64 x1] 60)).cell? ⟨w.heap.size, 0, none⟩ = some (.int .i64 x0) := (Blk.new w _ _).at 0 rfl
  go_enter Try.func55, Try.ntmps55
  go_wp2_with fail
  go_ret
  exact ⟨rfl, hb⟩
abbrev spFn (t : Nat) : Value := .func (.func 55) #[] #[.pointer (some ⟨t, 0, none⟩)]
set_option maxRecDepth 20000 in
set_option maxHeartbeats 1600000 in
theorem idx_any {w : World} {base : Nat} {a : Option Addr} {c : Nat} {S : List Sp} (H : OwnSp w base a c S) (hl : S.length ≤ 100) (t : Nat) (n : Int) (ht : t < w.heap.size) (c0 : w.cell? ⟨t, 0, none⟩ = some (.int .i64 n)) : Calls Try.prog 61 #[.slice a S.length c, spFn t] w fun e w' => ∃ r : Int, e = .returned (.int .i64 r) ∧ (0 ≤ r ↔ spHas S n = true) ∧ Below w.heap.size w w' := by
  go_enter Try.func61, Try.ntmps61
  go_upto_region 1 with (fail)
  go_wp2_with fail
  go_loopg [8] S.length (fun gg i wr => ∃ k : Nat, k ≤ S.length ∧ S.length ≤ k + gg ∧ i = .int .i64 k ∧ Below w.heap.size w wr ∧ Hid (∀ j (hj : j < S.length), j < k → S[j].1 ≠ n))
  case atStart => exact ⟨0, Nat.zero_le _, by omega, rfl, Below.refl _ _, Lib.hid fun j _ h => absurd h (by omega)⟩
  case round =>
    obtain ⟨k, hk, hkg, rfl, hb, hall⟩ := hrel
    by_cases hlt : k < S.length
    · have hlt' : (k : Int) < (S.length : Int) := by omega
      obtain ⟨b, off, ha, hbl, y0, y1⟩ := sp_cells (OwnR.below H hb) k hlt
      subst ha
      have hyes : S[k].1 = n → spHas S n = true := spHas_yes hlt
      have hno : S[k].1 ≠ n → ∀ j (hj : j < S.length), j < k + 1 → S[j].1 ≠ n := fun he j hj hjk => by
        by_cases e : j = k
        · subst e; exact he
        · exact hall.out j hj (by omega)
      generalize S[k].1 = x0 at y0 hyes hno
      generalize S[k].2 = x1 at y1
      have c0r : wr.cell? ⟨t, 0, none⟩ = some (.int .i64 n) := (hb.cell ht).trans c0
      have htr : t < wr.heap.size := by have := hb.size; omega
      replace hyes := Lib.hid hyes
      replace hno := Lib.hid hno
      go_wp2_with fail
      refine (sp1_any t n x0 x1 htr c0r).mono ?_
      rintro e w2 ⟨rfl, hb2⟩
      have hbb := below_push2 hb hb2 (Nat.le_refl _)
      clear y0 y1 c0r
      by_cases he : x0 = n
      · have hE := Lib.hid (hyes.out he)
        rw [show (x0 == n) = true by simpa using he]
        clear he
        go_wp2_with fail
        go_ret
        exact ⟨_, rfl, by simp [hE.out], hbb⟩
      · have hE := Lib.hid (hno.out he)
        rw [show (x0 == n) = false by simpa using he]
        clear he
        go_wp2_with fail
        go_roundg (S.length - (k + 1))
        case measure => omega
        case rel => exact ⟨k + 1, by omega, by omega, by go_num, hbb, hE⟩
    · obtain rfl : k = S.length := by omega
      have hE := Lib.hid (spHas_no (n := n) (fun j hj => hall.out j hj hj))
      go_wp2_with fail
      go_ret
      exact ⟨_, rfl, by simp [hE.out], hb⟩
theorem has_any {w : World} {base : Nat} {a : Option Addr} {c : Nat} {S : List Sp} (H : OwnSp w base a c S) (hl : S.length ≤ 100) (t : Nat) (n : Int) (ht : t < w.heap.size) (c0 : w.cell? ⟨t, 0, none⟩ = some (.int .i64 n)) : Calls Try.prog 54 #[.slice a S.length c, spFn t] w fun e w' => e = .returned (.bool (spHas S n)) ∧ Below w.heap.size w w' := by
  go_enter Try.func54, Try.ntmps54
  go_wp2_with fail
  refine (idx_any H hl t n ht c0).mono ?_
  rintro e w2 ⟨r, rfl, hr, hb⟩
  have hE : Hid (decide (0 ≤ r) = spHas S n) := Lib.hid (by
    cases h : spHas S n
    · simp; rw [h] at hr; simp at hr; exact hr
    · simp; exact hr.2 h)
  clear hr
  go_wp2_with fail
  go_ret
  exact ⟨by rw [← hE.out]; rfl, hb⟩
end Go.Proofs.Ytbemgfpnoeogdaa.FoP

/-
  A view: Spare: the contract.
-/
namespace Go.Proofs.Ytbemgfpnoeogdaa.FoP
open Go.RowKit RefP Go.Maps Dp
set_option linter.unusedVariables false
set_option linter.unusedSimpArgs false
/-- a spare more: the row, the view behind the store -/
theorem spare_add {w : World} {base o m : Nat} {L : List Kn} {a : Option Addr} {c : Nat} {S : List Sp} {k0 n0 : Int} (V : VwAt w base o m L a c S k0 n0) {bx : Nat} {n v : Int} (hbx : o < bx ∧ m < bx ∧ bx < w.heap.size) (B : Blk w bx #[.int .i64 n, .int .u64 v] 60) (hl : S.length ≤ 100) :
    ∃ g d w', (∀ ty, (Builtin.append_ #[34, 34] ty #[.slice a S.length c, .slice (some ⟨bx, 0, none⟩) 1 1]).run Try.prog w = .ok (.slice (some ⟨g, 0, none⟩) (S.length + 1) d) w') ∧
      Blk w' o (vwA (some m) a S.length c k0 n0) 88 ∧
      VwAt (w'.setCell ⟨o, 1, none⟩ (.slice (some ⟨g, 0, none⟩) (S.length + 1) d)) base o m L (some ⟨g, 0, none⟩) d (S ++ [(n, v)]) k0 n0 ∧ Fr (o :: ob a) w (w'.setCell ⟨o, 1, none⟩ (.slice (some ⟨g, 0, none⟩) (S.length + 1) d)) ∧ (g ∈ ob a ∨ g = w.heap.size) := by
  obtain ⟨i, z, hi, hz, hsize, hby, hzs⟩ := tinSpare.inf
  have hR : RecS 2 spF (0, 0) w (some ⟨bx, 0, none⟩) [(n, v)] := rec_lit B (n, v) (fun j hj => by
    match j, hj with
    | 0, _ => rfl
    | 1, _ => rfl)
  obtain ⟨g, d, w', A⟩ := addRecs (P := Try.prog) (c' := 1) base 34 60 i z 16 Try.underlying34 hi hz hsize hby hzs (by decide) (fun x j _ => by by_cases h : j = 0 <;> simp [spF, h] <;> rfl) V.spares hR (by simp) (by simp [maxLen]; omega) (by simp; omega) (by have := V.lo.1; omega)
  have hoa : ∀ q, (Value.slice a S.length c).ownBlock = some q → q ∈ ob a := fun q hq => ob_own hq
  have F : Fr (ob a) w w' := Fr.of_grown A.grown hoa
  have ho : o ∉ ob a := fun h => V.lo.2.2.2.1 (own_ob h)
  have hm : m ∉ ob a := fun h => V.lo.2.2.2.2 (own_ob h)
  have hgo : g ≠ o := by
    rcases A.at' with h | h
    · exact fun e => V.lo.2.2.2.1 (by rw [h, e])
    · omega
  have hgm : g ≠ m := by
    rcases A.at' with h | h
    · exact fun e => V.lo.2.2.2.2 (by rw [h, e])
    · omega
  have Bo := F.blk V.head ho
  have F2 : Fr [o] w' (w'.setCell ⟨o, 1, none⟩ (.slice (some ⟨g, 0, none⟩) (S.length + 1) d)) := (Fr.refl _ _).set _ _ (.inl (by simp))
  obtain ⟨D, ⟨es, clock, hb, r⟩, hL⟩ := V.map
  refine ⟨g, d, w', A.run, Bo, ⟨?_, ⟨D, ⟨es, clock, (F2.block m (by have := F.size; have := lt_of_block hb; omega) (by simp; exact fun e => V.lo.2.2.1 e.symm)).trans ((F.block m (lt_of_block hb) hm).trans hb), r⟩, hL⟩, OwnR.heap A.own (fun q hq => F2.block q (OwnR.lt A.own q hq).2 (fun e => ?_)), V.lo.1, V.lo.2.1, V.lo.2.2.1, ?_, ?_⟩, ?_, ?_⟩
  · have := Bo.set 1 (.slice (some ⟨g, 0, none⟩) (S.length + 1) d)
    simpa using this
  · simp [Value.ownBlock] at hq
    simp at e
    omega
  · simp [Value.ownBlock]; exact hgo
  · simp [Value.ownBlock]; exact hgm
  · have F1 : Fr (o :: ob a) w w' := ⟨F.os, F.tape, F.output, F.size, fun b hb hn => F.block b hb (fun h => hn (List.mem_cons_of_mem _ h))⟩
    exact F1.set _ _ (.inl (by simp))
  · rcases A.at' with h | h
    · exact .inl (hoa g h)
    · exact .inr h
def VSpareAt (w : World) (base o m : Nat) (L : List Kn) (a : Option Addr) (c : Nat) (S : List Sp) (k0 n0 n v : Int) (e : Ending) (w' : World) : Prop :=
  if cellB n && !spHas S n then ∃ a' c', e = .returned (.bool true) ∧ VwAt w' base o m L a' c' (S ++ [(n, v)]) k0 n0 ∧ Fr (o :: ob a) w w' ∧ (∀ g ∈ ob a', g ∈ ob a ∨ w.heap.size ≤ g)
  else e = .returned (.bool false) ∧ Below w.heap.size w w'
set_option maxRecDepth 20000 in
set_option maxHeartbeats 1600000 in
theorem spare_any {w : World} {base o m : Nat} {L : List Kn} {a : Option Addr} {c : Nat} {S : List Sp} {k0 n0 : Int} (V : VwAt w base o m L a c S k0 n0) (n v : Int) (hl : S.length ≤ 100) :
    Calls Try.prog 26 #[.pointer (some ⟨o, 0, none⟩), .agg #[.int .i64 n, .int .u64 v]] w fun e w' => VSpareAt w base o m L a c S k0 n0 n v e w' := by
  have hb := (Below.refl w.heap.size w).alloc (Nat.le_refl _) (.cells #[.int .i64 n, .int .u64 v] 60)
  have V1 := V.under hb
  have BK := Blk.new w #[.int .i64 n, .int .u64 v] 60
  have hlo := V.lts
  have hmf : ∀ (fn : Fn) (first cap : Array Value) (w : World), (Instr.makeFunc fn first cap).run Try.prog w = .ok (.func fn first cap) w := fun _ _ _ _ => rfl
  have hno : Hid (∀ e w', (cellB n && !spHas S n) = false → (e = .returned (.bool false) ∧ Below w.heap.size w w') → VSpareAt w base o m L a c S k0 n0 n v e w') := Lib.hid (fun e w' h k => by unfold VSpareAt; rw [h]; exact k)
  have hyes : Hid (∀ a' c' e w', (cellB n && !spHas S n) = true → (e = .returned (.bool true) ∧ VwAt w' base o m L a' c' (S ++ [(n, v)]) k0 n0 ∧ Fr (o :: ob a) w w' ∧ (∀ g ∈ ob a', g ∈ ob a ∨ w.heap.size ≤ g)) → VSpareAt w base o m L a c S k0 n0 n v e w') := Lib.hid (fun a' c' e w' h k => by unfold VSpareAt; rw [h]; exact ⟨a', c', k⟩)
  have hz := BK.lt
  generalize hW : w.alloc (.cells #[.int .i64 n, .int .u64 v] 60) = w1 at hb V1 BK hz
  replace hW := Lib.hid hW
  have c0 := BK.at 0 rfl
  have c1 := V1.head.at 1 rfl
  go_enter Try.func26, Try.ntmps26
  go_upto_region 1 with (fail)
  rw [hW.out]
  go_wp2_with fail
  refine (none_some V1.head).mono ?_
  rintro e w2 ⟨rfl, rfl⟩
  go_wp2_with fail
  refine (cell_any _ n).mono ?_
  rintro e w2 ⟨rfl, rfl⟩
  cases hc : cellB n
  · go_wp2_with fail
    go_ret
    exact hno.out _ _ (by rw [hc]; rfl) ⟨rfl, hb⟩
  · replace hc := Lib.hid hc
    go_wp2_with fail
    refine (has_any V1.spares hl w.heap.size n hz c0).mono ?_
    rintro e w3 ⟨rfl, hb3⟩
    have hbb := below_push2 hb hb3 (by omega)
    have V3 := V1.under hb3
    have BK3 := BK.below hb3
    cases hh : spHas S n
    · replace hh := Lib.hid hh
      have hbx : Below w3.heap.size w3 (w3.alloc (.cells #[.int .i64 n, .int .u64 v] 60)).drew := ((Below.refl _ _).alloc (Nat.le_refl _) _).drew
      have hz3 := BK3.lt
      have hzx : w3.heap.size < (w3.alloc (.cells #[.int .i64 n, .int .u64 v] 60)).drew.heap.size := (Blk.new w3 #[.int .i64 n, .int .u64 v] 60).drew.lt
      obtain ⟨g, d, w5, hr, B5, V5, F5, hat⟩ := spare_add (V3.under hbx) (bx := w3.heap.size) (n := n) (v := v) ⟨by omega, by omega, hzx⟩ (Blk.new w3 _ _).drew hl
      replace hr := Lib.hid hr
      have x1 := V3.head.at 1 rfl
      have q0 := BK3.at 0 rfl
      have q1 := BK3.at 1 rfl
      have s1 := B5.at 1 rfl
      have g1 := B5.free 1
      have hol : o < w3.heap.size := V3.head.lt
      have hF : Fr (o :: ob a) w (w5.setCell ⟨o, 1, none⟩ (.slice (some ⟨g, 0, none⟩) (S.length + 1) d)) := (Fr.of_below (below_push2 hbb hbx (by have := hbb.size; omega))).trans F5
      have hg : ∀ q ∈ ob (some ⟨g, 0, none⟩), q ∈ ob a ∨ w.heap.size ≤ q := fun q hq => by
        simp [ob] at hq
        subst hq
        rcases hat with h | h
        · exact .inl h
        · right; omega
      clear hb3 c0 c1 hbx F5 hat V3 BK3 B5 hz hlo
      go_upto_region 3 with (fail)
      go_region_law (refine step_append_run hr.out rfl (by rfl) (by rfl) (by rfl) ?_)
      all_goals
        go_wp2_with fail
        go_ret
        exact hyes.out _ _ _ _ (by rw [hc.out, hh.out]; rfl) ⟨rfl, V5, hF, hg⟩
    · go_wp2_with fail
      go_ret
      exact hno.out _ _ (by rw [hh]; simp) ⟨rfl, hbb⟩
end Go.Proofs.Ytbemgfpnoeogdaa.FoP

/-
  slices.Sort at []int: the shelf's contract over the program (the laying in plain words: written by the kit's tool lay-plain.mjs at this seat; its numbers are this seat's).
-/
namespace Go.Proofs.Ytbemgfpnoeogdaa.FoP
open Go.Shelf Go.Sort Go.RowKit Go.Proofs
set_option linter.unusedVariables false
def lays189_ren : Go.Shelf.Ren := ⟨fun | 189 => 58 | 125 => 63 | 257 => 62 | 128 => 74 | 129 => 75 | 294 => 65 | 295 => 66 | 296 => 67 | 297 => 68 | 298 => 69 | 299 => 70 | 216 => 71 | 300 => 72 | 301 => 73 | 328 => 76 | 329 => 77 | 330 => 78 | 331 => 79 | 332 => 80 | 215 => 81 | 343 => 82 | n => n, fun | 28 => 24 | 3 => 3 | 46 => 118 | 0 => 0 | 51 => 129 | 53 => 51 | 4 => 4 | 183 => 122 | 182 => 121 | 131 => 41 | 5 => 5 | 9 => 9 | 218 => 131 | 222 => 135 | 228 => 137 | 229 => 138 | n => n, fun | n => n⟩
theorem lays189 : Go.Proofs.Lays.n189 Try.prog lays189_ren := {
  mixed := by kernel_rfl
  f125 := Try.func63.trans (congrArg some (by kernel_rfl))
  f128 := Try.func74.trans (congrArg some (by kernel_rfl))
  f129 := Try.func75.trans (congrArg some (by kernel_rfl))
  f189 := Try.func58.trans (congrArg some (by kernel_rfl))
  f215 := Try.func81.trans (congrArg some (by kernel_rfl))
  f216 := Try.func71.trans (congrArg some (by kernel_rfl))
  f257 := Try.func62.trans (congrArg some (by kernel_rfl))
  f294 := Try.func65.trans (congrArg some (by kernel_rfl))
  f295 := Try.func66.trans (congrArg some (by kernel_rfl))
  f296 := Try.func67.trans (congrArg some (by kernel_rfl))
  f297 := Try.func68.trans (congrArg some (by kernel_rfl))
  f298 := Try.func69.trans (congrArg some (by kernel_rfl))
  f299 := Try.func70.trans (congrArg some (by kernel_rfl))
  f300 := Try.func72.trans (congrArg some (by kernel_rfl))
  f301 := Try.func73.trans (congrArg some (by kernel_rfl))
  f328 := Try.func76.trans (congrArg some (by kernel_rfl))
  f329 := Try.func77.trans (congrArg some (by kernel_rfl))
  f330 := Try.func78.trans (congrArg some (by kernel_rfl))
  f331 := Try.func79.trans (congrArg some (by kernel_rfl))
  f332 := Try.func80.trans (congrArg some (by kernel_rfl))
  f343 := Try.func82.trans (congrArg some (by kernel_rfl))
  t0 := Try.underlying0
  a0 := Try.isAgg0
  z0 := Try.sizeOf0
  v0 := Try.zeroValue0
  t3 := Try.underlying3
  a3 := Try.isAgg3
  z3 := Try.sizeOf3
  v3 := Try.zeroValue3
  t4 := Try.underlying4
  a4 := Try.isAgg4
  z4 := Try.sizeOf4
  v4 := Try.zeroValue4
  t5 := Try.underlying5
  a5 := Try.isAgg5
  z5 := Try.sizeOf5
  v5 := Try.zeroValue5
  t9 := Try.underlying9
  a9 := Try.isAgg9
  z9 := Try.sizeOf9
  v9 := Try.zeroValue9
  t28 := Try.underlying24
  a28 := Try.isAgg24
  z28 := Try.sizeOf24
  v28 := Try.zeroValue24
  t46 := Try.underlying118
  a46 := Try.isAgg118
  z46 := Try.sizeOf118
  v46 := Try.zeroValue118
  t51 := Try.underlying129
  a51 := Try.isAgg129
  z51 := Try.sizeOf129
  v51 := Try.zeroValue129
  t53 := Try.underlying51
  a53 := Try.isAgg51
  z53 := Try.sizeOf51
  v53 := Try.zeroValue51
  t131 := Try.underlying41
  a131 := Try.isAgg41
  z131 := Try.sizeOf41
  v131 := Try.zeroValue41
  t182 := Try.underlying121
  a182 := Try.isAgg121
  z182 := Try.sizeOf121
  v182 := Try.zeroValue121
  t183 := Try.underlying122
  a183 := Try.isAgg122
  z183 := Try.sizeOf122
  v183 := Try.zeroValue122
  t218 := Try.underlying131
  a218 := Try.isAgg131
  z218 := Try.sizeOf131
  v218 := Try.zeroValue131
  t222 := Try.underlying135
  a222 := Try.isAgg135
  z222 := Try.sizeOf135
  v222 := Try.zeroValue135
  t228 := Try.underlying137
  a228 := Try.isAgg137
  z228 := Try.sizeOf137
  v228 := Try.zeroValue137
  t229 := Try.underlying138
  a229 := Try.isAgg138
  z229 := Try.sizeOf138
  v229 := Try.zeroValue138 }
end Go.Proofs.Ytbemgfpnoeogdaa.FoP

/-
  A view: Cells: the contract.
-/
namespace Go.Proofs.Ytbemgfpnoeogdaa.FoP
open Go.RowKit RefP Go.Maps Dp
set_option linter.unusedVariables false
set_option linter.unusedSimpArgs false
theorem sortI_any (blk off cap : Nat) (zs : List Int) (w : World) (hH : Go.Sort.Holds (Value.int .i64) w blk off zs.toArray) (hblk : blk < w.heap.size) (hsz : zs.length < 4611686018427387904) :
    Calls Try.prog 58 #[.slice (some ⟨blk, off, none⟩) zs.length cap] w fun e w' =>
      e = .returned (.tuple #[]) ∧ ∃ n os, w' = Go.Sort.grow (Go.Sort.putRow (Value.int .i64) (Go.Sort.ahead w n) blk off (zs.mergeSort fun x y => decide (x ≤ y)).toArray) os := Any.slices_Sort_int lays189 blk off cap zs w hH hblk hsz
theorem sortI_none (p : Option Addr) (cap : Nat) (w : World) : Calls Try.prog 58 #[.slice p 0 cap] w fun e w' => e = .returned (.tuple #[]) ∧ w' = w := Any.slices_Sort_int_none lays189 p cap w
abbrev inF (x : Int) (j : Nat) : Value := .int .i64 x
abbrev OwnN (w : World) (base : Nat) (a : Option Addr) (c : Nat) (l : List Int) : Prop := OwnR 1 inF 0 w base 3 a c l
theorem cells_ok {L : List Kn} (hc : ∀ p ∈ L, cellB p.1 = true) {ss : List Int} (hn : ss.Nodup) (hm : ∀ x, x ∈ ss ↔ (knAt L x).isSome = true) : (ss.mergeSort fun x y => decide (x ≤ y)) = cellsL L := by
  have hp : ss.Perm (cellsL L) := by
    refine (List.perm_ext_iff_of_nodup hn ?_).2 fun x => ?_
    · refine List.Pairwise.map _ ?_ (List.Pairwise.filter _ List.nodup_range)
      intro a b h e
      exact h (Int.ofNat.inj e)
    · rw [hm]
      unfold cellsL cellsTo
      rw [List.mem_map]
      constructor
      · intro h
        have h' := h
        unfold knAt at h
        rw [Option.isSome_map] at h
        obtain ⟨p, hp⟩ := Option.isSome_iff_exists.1 h
        have e : p.1 = x := by simpa using List.find?_some hp
        have hb := hc p (List.mem_of_find?_eq_some hp)
        rw [e] at hb
        have hr : 0 ≤ x ∧ x < 8192 := by simpa [cellB] using hb
        refine ⟨x.toNat, List.mem_filter.2 ⟨List.mem_range.2 (by omega), ?_⟩, by omega⟩
        rw [Int.toNat_of_nonneg hr.1]
        exact h'
      · rintro ⟨n, hn, rfl⟩
        exact (List.mem_filter.1 hn).2
  rw [show (ss.mergeSort fun x y => decide (x ≤ y)) = ss.mergeSort leI from rfl, mergeSort_of_perm_i hp]
  refine List.mergeSort_of_pairwise ?_
  unfold cellsL cellsTo
  refine List.Pairwise.map _ ?_ (List.Pairwise.filter _ (List.pairwise_lt_range))
  intro a b h
  simp; omega
theorem inRow (ss : List Int) : rowL (ss.length * 1) (recF 1 inF 0 ss) = ss.map (Value.int .i64) := by
  apply List.ext_getElem?
  intro j
  by_cases hj : j < ss.length
  · rw [rowL_at _ _ _ (by omega), List.getElem?_map, List.getElem?_eq_getElem hj]
    simp [recF, inF, List.getD_eq_getElem?_getD, List.getElem?_eq_getElem hj]
  · rw [List.getElem?_eq_none (by rw [rowL_length]; omega), List.getElem?_eq_none (by simp; omega)]
theorem hrow_ints {w : World} {base g cap : Nat} {e : TypeId} {ts : List Int} (hown : w.ownsRow base e 1 (.slice (some ⟨g, 0, none⟩) ts.length cap) ts.length (ts.map (Value.int .i64))) (h64 : ∀ x ∈ ts, I64 x) : HRow i64C w [] ⟨some ⟨g, 0, none⟩, cap⟩ ts := by
  have hown' := hown
  rcases hown.2 with ⟨h0, _⟩ | ⟨g', cap', cur, hv, hg, hh, hn, hcap, _, _⟩
  · cases h0
  cases hv
  refine ⟨hn, hcap, fun h0 => ⟨g, 0, rfl, lt_of_block hh, by simp, fun i x hi => ?_⟩⟩
  have hil : i < ts.length := (List.getElem?_eq_some_iff.1 hi).1
  have hx : ts[i] = x := (List.getElem?_eq_some_iff.1 hi).2
  refine ⟨[.int .i64 x], ⟨rfl, wf_i64 (h64 x (by rw [← hx]; exact List.getElem_mem hil))⟩, fun j v hj => ?_⟩
  obtain rfl : j = 0 := by
    have := (List.getElem?_eq_some_iff.1 hj).1
    simp at this; omega
  simp at hj
  subst hj
  have := hown'.cellAt i (by omega)
  simp [hil, hx] at this
  simpa [show i64C.k = 1 from rfl] using this
set_option maxRecDepth 20000 in
set_option maxHeartbeats 1600000 in
theorem cells_any {w : World} {base o m : Nat} {L : List Kn} {a : Option Addr} {c : Nat} {S : List Sp} {k0 n0 : Int} (V : VwAt w base o m L a c S k0 n0) (hl : L.length ≤ 100) (hc : ∀ p ∈ L, cellB p.1 = true) :
    Calls Try.prog 38 #[.pointer (some ⟨o, 0, none⟩)] w fun e w' => ∃ a' c', e = .returned (.slice a' (cellsL L).length c') ∧ Below w.heap.size w w' ∧ HRow i64C w' [] ⟨a', c'⟩ (cellsL L) := by
  obtain ⟨D, hD, hM⟩ := V.map
  have c0 := V.head.at 0 rfl
  go_enter Try.func38, Try.ntmps38
  go_wp2_with fail
  refine (none_some V.head).mono ?_
  rintro e w2 ⟨rfl, rfl⟩
  go_wp2_with (first | (at_range; refine wpList_range_own _ rfl _ 86 rfl 3 53 lawI Try.underlying86 Rk m L.length D rfl hD ?_; intro w0 hrg0 hg0 hs0) | fail)
  go_frame
  have hbase : w0.heap.size = w2.heap.size + 1 := hs0
  have hml : m < w2.heap.size := by obtain ⟨es, clock, hb, _⟩ := hD; exact lt_of_block hb
  have hb0 : Below w2.heap.size w2 w0 := (Fr.of_grown (S := []) hg0 (by simp)).below (Below.refl _ w2) (Nat.le_refl _) (by simp)
  have hlen : ∀ (left : Lit → Bool) (ss : List Int), CollectedI D left ss → ss.length ≤ L.length := fun left ss h => by
    have := nodup_len ss (L.map (·.1)) h.1 (fun x hx => by
      have h1 := ((h.2 x).1 hx).1
      rw [hM.has] at h1
      obtain ⟨cx, hcx⟩ := Option.isSome_iff_exists.1 h1
      exact List.mem_map.2 ⟨_, knAt_some hcx, rfl⟩)
    simpa using this
  generalize hr0 : w2.heap.size = r0 at hrg0 hb0 hbase hml ⊢
  replace hr0 := Lib.hid hr0
  go_loopg [2] (Maps.size D) (fun gg v2 wr => ∃ (left : Lit → Bool) (cnt : Nat) (ss : List Int) (a : Option Addr) (c : Nat), wr.ranges Try.prog 3 Rk m r0 L.length D left cnt ∧ CollectedI D left ss ∧ v2 = .slice a ss.length c ∧ Below r0 w2 wr ∧ OwnN wr (r0 + 1) a c ss ∧ cnt ≤ gg ∧ r0 < wr.heap.size)
  case atStart => exact ⟨Maps.has D, Maps.size D, [], none, 0, hrg0, CollectedI.start D, rfl, hb0, OwnR.nil _ _ _ _ _ _, Nat.le_refl _, by omega⟩
  case round =>
    clear hrg0 hb0 hg0 hs0 hbase
    obtain ⟨left, cnt, ss, a, c, hrg, hC, rfl, hb, O, hcg, hrz⟩ := hrel
    go_wp2_with (first | (at_next; refine wpList_next_ranges _ rfl _ rfl 3 lawI Rk (Value.int .i64) (fun v : Value => v) (fun key kl h => by obtain ⟨x, hx, _⟩ := Maps.keyOf_i64 Try.underlying3 h; exact ⟨x, hx⟩) (fun v y _ => ⟨v, rfl⟩) m r0 L.length D left cnt rfl hrg ?_ ?_) | fail)
    · intro hc0 hl0
      have hcl := cells_ok hc hC.1 (fun x => by rw [hC.2 x, hM.has, hl0]; simp)
      have h64 : ∀ x ∈ cellsL L, I64 x := fun x hx => by
        obtain ⟨n, hn, rfl⟩ := List.mem_map.1 hx
        have := List.mem_range.1 (List.mem_filter.1 hn).1
        exact ⟨by omega, by omega⟩
      have hsl := hlen _ _ hC
      have hperm : (ss.mergeSort fun x y => decide (x ≤ y)).length = ss.length := List.length_mergeSort ..
      have hO := O.own.2
      rw [inRow] at hO
      replace hcl := Lib.hid hcl
      replace h64 := Lib.hid h64
      replace hperm := Lib.hid hperm
      clear hc hlen hl0
      go_wp2_with fail
      rcases hO with q | ⟨g, cap, cur, e', hg, hh, hn, hm2, hs, r⟩
      · have q1 := q.1
        injection q1 with q2 q3 q4
        obtain rfl : ss = [] := List.eq_nil_of_length_eq_zero q3
        subst q2
        subst q4
        refine (sortI_none none 0 _).mono ?_
        rintro e w3 ⟨rfl, rfl⟩
        go_wp2_with fail
        go_ret
        have e0 : cellsL L = [] := by rw [← hcl.out]; simp
        rw [e0]
        exact ⟨none, 0, rfl, by rw [hr0.out]; exact hb, HRow.nil _ _ _⟩
      · injection e' with q2 q3 q4
        subst q2
        subst q4
        have hH := Go.holds_of_blockI hh (by rw [Nat.mul_one] at r; exact r)
        refine (sortI_any g 0 c ss _ hH (lt_of_block hh) (by omega)).mono ?_
        rintro e w3 ⟨rfl, n, os, rfl⟩
        have hown := Go.ownsRow_sortedI (n := n) (os := os) hperm.out hg hh hn hm2 hs
        have hgr := Go.grownBy_sortedI (w := wr) (g := g) (n := n) (os := os) (ss.mergeSort fun x y => decide (x ≤ y)).toArray
        have hbF : Below r0 w2 _ := (Fr.of_grown (S := [g]) hgr (by simp)).below hb (by have := hr0.out; omega) (by simp; omega)
        rw [← hperm.out] at hown
        rw [hcl.out] at hown hbF ⊢
        go_wp2_with fail
        go_ret
        have hlq : ss.length = (cellsL L).length := by rw [← hcl.out, hperm.out]
        exact ⟨some ⟨g, 0, none⟩, c, by rw [hlq]; rfl, by rw [hr0.out]; exact hbF, hrow_ints hown h64.out⟩
    · intro x cv kl y ps w1 cnt1 hkey hlk hv hat hrg1 hlt hg1 hs1 hen
      obtain ⟨x', ex, rfl, hwx⟩ := Maps.keyOf_i64 Try.underlying3 hkey
      cases ex
      have hC1 := hC.step hlk hat
      have hsl := hlen _ _ hC
      have O1 : OwnN w1 (r0 + 1) a c ss := OwnR.kept O hg1 (.inr (fun e => by have := (OwnR.lt O r0 e).1; omega))
      have hb1 : Below r0 w2 w1 := (Fr.of_grown (S := [r0]) hg1 (by simp)).below hb (by have := hr0.out; omega) (by simp)
      have hz1 : r0 < w1.heap.size := by rw [hs1]; exact hrz
      have hbx : Below w1.heap.size w1 (w1.alloc (.cells #[.int .i64 x] 3)) := (Below.refl _ _).alloc (Nat.le_refl _) _
      obtain ⟨ii, z, hi, hz, hsize, hby, hzs⟩ := tinInt.inf
      have hR : RecS 1 inF 0 (w1.alloc (.cells #[.int .i64 x] 3)) (some ⟨w1.heap.size, 0, none⟩) [x] := rec_lit (Blk.new w1 #[.int .i64 x] 3) x (fun j hj => by
        obtain rfl : j = 0 := by omega
        rfl)
      obtain ⟨g, d, w5, A⟩ := addRecs (P := Try.prog) (c' := 1) (r0 + 1) 24 3 ii z 8 Try.underlying24 hi hz hsize hby hzs (by decide) (fun x j _ => rfl) (OwnR.below O1 hbx) hR (by simp) (by simp [maxLen]; omega) (by simp; omega) (by have := hbx.size; omega)
      have hrg5 := (hrg1.alloc (.cells #[.int .i64 x] 3)).kept A.grown (fun e => by have := (OwnR.lt O1 m e.symm).1; omega) (fun e => by have := (OwnR.lt O1 r0 e.symm).1; omega)
      have hb5 : Below r0 w2 w5 := (Fr.of_grown (S := ob a) A.grown (fun q hq => ob_own hq)).below (hb1.alloc (by omega) _) (by have := hr0.out; omega) (fun b hb => by have := (OwnR.lt O1 b (own_ob hb)).1; omega)
      have hz5 : r0 < w5.heap.size := by have := A.grown.size; have := hbx.size; omega
      have hr := Lib.hid A.run
      have O5 := A.own
      clear A hR hC hrg O O1 hrg1 hg1 hbx hat hv hlk hkey hb hc hs1
      simp only [List.length_singleton] at hr
      go_wp2_with (at_builtin; refine wpList_append_run hr.out rfl (by rfl) (by rfl) (by rfl) ?_)
      all_goals
        go_roundg cnt1
        case measure => omega
        case rel => exact ⟨_, cnt1, ss ++ [x], _, _, hrg5, hC1, by rw [List.length_append]; rfl, hb5, O5, Nat.le_refl _, hz5⟩
end Go.Proofs.Ytbemgfpnoeogdaa.FoP
