/-
  A view: what lies in memory; GiveUp, Again, At, Need, Learn, Forget, Take, Spares: contracts.
-/
import Derived.Test.YtbemgfpnoeogdaaFView
import Derived.Maps.OwnSet
import Derived.Maps.OwnOps
import Derived.Maps.AppendAt
import Derived.Deep.DeepCutAuto
namespace Go.Proofs.Ytbemgfpnoeogdaa.FoP
open Go.RowKit RefP Go.Maps
set_option linter.unusedVariables false
set_option linter.unusedSimpArgs false
abbrev Sp := Int × Int
abbrev spF (x : Sp) (j : Nat) : Value := if j = 0 then .int .i64 x.1 else .int .u64 x.2
abbrev OwnSp (w : World) (base : Nat) (a : Option Addr) (c : Nat) (l : List Sp) : Prop := OwnR 2 spF (0, 0) w base 60 a c l
/-- a cell's number, and its cells -/
abbrev Kn := Int × Array Value
def knAt (L : List Kn) (n : Int) : Option (Array Value) := (L.find? (fun p => p.1 == n)).map (·.2)
def knB (L : List Kn) (n : Int) : Bool := L.any (fun p => p.1 == n)
/-- an element is what it is -/
def Rk (v : Value) : Option (DataW Value × List MemPlace) := some (.held v, [])
theorem lawI : Keyed Try.prog 3 := int_keyed Try.underlying3
theorem zeroK (w : World) : (zeroValue 53).run Try.prog w = .ok (.agg kz) w := by kernel_rfl
structure MapOk (D : DataW Value) (L : List Kn) : Prop where
  at_ : ∀ i z, D.atKey (.int .i64 i) z = match knAt L i with | some c => .held (.agg c) | none => z
  size : Maps.size D = L.length
  nodup : L.Pairwise (fun p q => p.1 ≠ q.1)
  cells : ∀ p ∈ L, p.2.size = 11 ∧ p.2.all (·.oneCell') = true
theorem knAt_some {L : List Kn} {n : Int} {c : Array Value} (h : knAt L n = some c) : (n, c) ∈ L := by
  unfold knAt at h
  cases e : L.find? (fun p => p.1 == n) with
  | none => simp [e] at h
  | some p =>
    simp [e] at h
    have h1 := List.mem_of_find?_eq_some e
    have h2 := List.find?_some e
    simp at h2
    subst h; subst h2
    exact h1
theorem knB_at (L : List Kn) (n : Int) : knB L n = (knAt L n).isSome := by
  unfold knB knAt
  rw [Option.isSome_map, Bool.eq_iff_iff, List.find?_isSome, List.any_eq_true]
theorem MapOk.has {D : DataW Value} {L : List Kn} (h : MapOk D L) (i : Int) : Maps.has D (.int .i64 i) = (knAt L i).isSome := by
  cases e : knAt L i with
  | none => exact Maps.has_false_of_atKey (fun z => by rw [h.at_, e])
  | some c => exact Maps.has_true_of_atKey (y := .held (.agg c)) (fun z => by rw [h.at_, e])
theorem MapOk.nil : MapOk (.map []) [] := ⟨fun i z => rfl, rfl, List.Pairwise.nil, by simp⟩
/-- what is left when a cell is forgotten -/
def knDel (L : List Kn) (n : Int) : List Kn := L.filter (fun p => p.1 != n)
theorem knAt_del (L : List Kn) (n i : Int) : knAt (knDel L n) i = if i = n then none else knAt L i := by
  unfold knAt knDel
  rw [List.find?_filter]
  by_cases e : i = n
  · subst e
    rw [if_pos rfl]
    have : L.find? (fun a => decide ((a.1 != i) = true ∧ (a.1 == i) = true)) = none := by
      rw [List.find?_eq_none]
      intro x _
      by_cases q : x.1 = i <;> simp [q]
    rw [this]; rfl
  · rw [if_neg e]
    congr 1
    congr 1
    funext p
    by_cases q : p.1 = i
    · have : p.1 ≠ n := fun h => e (q.symm.trans h)
      simp [q, e]
    · simp [q]
theorem knAt_put (L : List Kn) (n : Int) (c : Array Value) (i : Int) : knAt (knDel L n ++ [(n, c)]) i = if i = n then some c else knAt L i := by
  have h1 := knAt_del L n i
  unfold knAt at h1 ⊢
  rw [List.find?_append]
  by_cases e : i = n
  · subst e
    rw [if_pos rfl] at h1 ⊢
    have : (knDel L i).find? (fun p => p.1 == i) = none := by
      cases q : (knDel L i).find? (fun p => p.1 == i) with
      | none => rfl
      | some p => simp [q] at h1
    rw [this]; simp
  · rw [if_neg e] at h1 ⊢
    have : [(n, c)].find? (fun p => p.1 == i) = none := by
      rw [List.find?_eq_none]; intro x hx; simp at hx; subst hx; simp; exact fun h => e h.symm
    rw [this]; simpa using h1
theorem knDel_len {L : List Kn} (h : L.Pairwise (fun p q => p.1 ≠ q.1)) (n : Int) : (knDel L n).length + (if (knAt L n).isSome then 1 else 0) = L.length := by
  induction L with
  | nil => rfl
  | cons x L ih =>
    obtain ⟨h1, h2⟩ := List.pairwise_cons.1 h
    by_cases e : x.1 = n
    · have h3 : ∀ p ∈ L, (p.1 != n) = true := fun p hp => by simp; exact fun q => h1 p hp (e.trans q.symm)
      have h4 : knDel (x :: L) n = L := by simp [knDel, e]; exact fun a b hp => by have := h3 _ hp; simpa using this
      rw [h4]
      simp [knAt, e]
    · have h4 : knDel (x :: L) n = x :: knDel L n := by simp [knDel, e]
      have h5 : knAt (x :: L) n = knAt L n := by simp [knAt, e]
      rw [h4, h5]
      have := ih h2
      simp only [List.length_cons]; omega
theorem keyI (i : Int) : WideAt.IsKeyLit (.int .i64 i) := by simp [WideAt.IsKeyLit]
theorem lit_ne {i n : Int} (h : i ≠ n) : (Lit.int .i64 i) ≠ Lit.int .i64 n := fun e => h (by injection e)
theorem MapOk.del {D : DataW Value} {L : List Kn} (h : MapOk D L) (T : Tidy D) (n : Int) : MapOk (D.del (.int .i64 n)) (knDel L n) := by
  refine ⟨fun i z => ?_, ?_, h.nodup.filter _, fun p hp => h.cells p (List.mem_filter.1 hp).1⟩
  · rw [knAt_del]
    by_cases e : i = n
    · subst e
      rw [if_pos rfl, Maps.atKey_del_same]
    · rw [if_neg e, Maps.atKey_del_other (lit_ne e), h.at_]
  · have h1 := Maps.size_del T (k := .int .i64 n)
    rw [h.has] at h1
    have h2 := knDel_len h.nodup n
    have h3 := h.size
    omega
theorem MapOk.put {D : DataW Value} {L : List Kn} (h : MapOk D L) (T : Tidy D) (n : Int) (c : Array Value) (hc : c.size = 11 ∧ c.all (·.oneCell') = true) : MapOk (D.put (.int .i64 n) (.held (.agg c))) (knDel L n ++ [(n, c)]) := by
  refine ⟨fun i z => ?_, ?_, ?_, fun p hp => ?_⟩
  · rw [knAt_put]
    by_cases e : i = n
    · subst e
      rw [if_pos rfl, Maps.atKey_put_same T.isMap (keyI _)]
    · rw [if_neg e, Maps.atKey_put_other (lit_ne e), h.at_]
  · rw [Maps.size_put T, h.has]
    have h2 := knDel_len h.nodup n
    have h3 := h.size
    rw [List.length_append]
    simp only [List.length_singleton]
    split at h2 <;> rename_i q <;> simp [q] <;> omega
  · rw [List.pairwise_append]
    refine ⟨h.nodup.filter _, by simp, fun p hp q hq => ?_⟩
    simp at hq
    subst hq
    have := (List.mem_filter.1 hp).2
    simpa using this
  · rcases List.mem_append.1 hp with q | q
    · exact h.cells p (List.mem_filter.1 q).1
    · simp at q; subst q; exact hc
/-- a view in memory -/
structure VwAt (w : World) (base o m : Nat) (L : List Kn) (a : Option Addr) (c : Nat) (S : List Sp) (k n : Int) : Prop where
  head : Blk w o (vwA (some m) a S.length c k n) 88
  map : ∃ D, w.ownsMap Try.prog 3 Rk m L.length D ∧ MapOk D L
  spares : OwnSp w base a c S
  lo : base ≤ o ∧ base ≤ m ∧ o ≠ m ∧ (Value.slice a S.length c).ownBlock ≠ some o ∧ (Value.slice a S.length c).ownBlock ≠ some m
theorem ownsMap_tight {w : World} {m N : Nat} {D : DataW Value} (h : w.ownsMap Try.prog 3 Rk m N D) : w.ownsMap Try.prog 3 Rk m (Maps.size D) D := by
  obtain ⟨es, clock, hb, F, hs, e⟩ := h
  refine ⟨es, clock, hb, F, ?_, e⟩
  subst e
  simp [Maps.size, length_sorted]
theorem VwAt.fr {w w' : World} {base o m : Nat} {L : List Kn} {a : Option Addr} {c : Nat} {S : List Sp} {k n : Int} {T : List Nat} (V : VwAt w base o m L a c S k n) (F : Fr T w w') (h1 : o ∉ T) (h2 : m ∉ T) (h3 : ∀ g, (Value.slice a S.length c).ownBlock = some g → g ∉ T) : VwAt w' base o m L a c S k n := by
  obtain ⟨D, hD, hL⟩ := V.map
  obtain ⟨es, clock, hb, r⟩ := hD
  exact ⟨F.blk V.head h1, ⟨D, ⟨es, clock, (F.block m (lt_of_block hb) h2).trans hb, r⟩, hL⟩, OwnR.heap V.spares (fun g hg => F.block g (OwnR.lt V.spares g hg).2 (h3 g hg)), V.lo⟩
theorem VwAt.under {w w' : World} {base o m : Nat} {L : List Kn} {a : Option Addr} {c : Nat} {S : List Sp} {k n : Int} (V : VwAt w base o m L a c S k n) (hb : Below w.heap.size w w') : VwAt w' base o m L a c S k n :=
  V.fr (Fr.of_below (S := []) hb) (by simp) (by simp) (by simp)
theorem VwAt.need {w : World} {base o m : Nat} {L : List Kn} {a : Option Addr} {c : Nat} {S : List Sp} {k n : Int} (V : VwAt w base o m L a c S k n) (k' n' : Int) :
    VwAt ((w.setCell ⟨o, 2, none⟩ (.int .i64 k')).setCell ⟨o, 3, none⟩ (.int .i64 n')) base o m L a c S k' n' ∧ Fr [o] w ((w.setCell ⟨o, 2, none⟩ (.int .i64 k')).setCell ⟨o, 3, none⟩ (.int .i64 n')) := by
  have F : Fr [o] w ((w.setCell ⟨o, 2, none⟩ (.int .i64 k')).setCell ⟨o, 3, none⟩ (.int .i64 n')) := ((Fr.refl [o] w).set ⟨o, 2, none⟩ (.int .i64 k') (.inl (by simp))).set ⟨o, 3, none⟩ (.int .i64 n') (.inl (by simp))
  obtain ⟨D, ⟨es, clock, hb, r⟩, hL⟩ := V.map
  have B := (V.head.set 2 (.int .i64 k')).set 3 (.int .i64 n')
  refine ⟨⟨B, ⟨D, ⟨es, clock, (F.block m (lt_of_block hb) (by simp; exact fun e => V.lo.2.2.1 e.symm)).trans hb, r⟩, hL⟩, OwnR.heap V.spares (fun g hg => F.block g (OwnR.lt V.spares g hg).2 (fun e => ?_)), V.lo⟩, F⟩
  simp at e
  subst e
  exact V.lo.2.2.2.1 hg
def lackK (k0 k : Int) : Int := if k0 = 0 then k else k0
def lackN (k0 n0 n : Int) : Int := if k0 = 0 then n else n0
theorem lack_any {w : World} {base o m : Nat} {L : List Kn} {a : Option Addr} {c : Nat} {S : List Sp} {k0 n0 : Int} (V : VwAt w base o m L a c S k0 n0) (k n : Int) :
    Calls Try.prog 56 #[.pointer (some ⟨o, 0, none⟩), .int .i64 k, .int .i64 n] w fun e w' => e = .returned (.tuple #[]) ∧ VwAt w' base o m L a c S (lackK k0 k) (lackN k0 n0 n) ∧ Fr [o] w w' := by
  have c0 := V.head.at 0 rfl
  have c1 := V.head.at 1 rfl
  have c2 := V.head.at 2 rfl
  have c3 := V.head.at 3 rfl
  have f2 := V.head.free 2
  have f3 := V.head.free 3
  by_cases h : k0 = 0
  · subst h
    have hV := V.need k n
    go_enter Try.func56, Try.ntmps56
    go_wp2_with fail
    refine (none_some V.head).mono ?_
    rintro e w1 ⟨rfl, rfl⟩
    go_wp2_with fail
    go_end0
    exact ⟨rfl, by simpa [lackK, lackN] using hV.1, hV.2⟩
  · have hk : (k0 == 0) = false := by simpa using h
    go_enter Try.func56, Try.ntmps56
    go_wp2_with fail
    refine (none_some V.head).mono ?_
    rintro e w1 ⟨rfl, rfl⟩
    go_wp2_with fail
    go_end0
    exact ⟨rfl, by simpa [lackK, lackN, h] using V, Fr.refl _ _⟩
theorem giveup_any {w : World} {base o m : Nat} {L : List Kn} {a : Option Addr} {c : Nat} {S : List Sp} {k0 n0 : Int} (V : VwAt w base o m L a c S k0 n0) :
    Calls Try.prog 34 #[.pointer (some ⟨o, 0, none⟩)] w fun e w' => e = .returned (.tuple #[]) ∧ VwAt w' base o m L a c S (lackK k0 3) (lackN k0 n0 0) ∧ Fr [o] w w' := by
  go_enter Try.func34, Try.ntmps34
  go_wp2_with fail
  refine (lack_any V 3 0).mono ?_
  rintro e w1 ⟨rfl, hV, hF⟩
  go_wp2_with fail
  go_end0
  exact ⟨rfl, hV, hF⟩
theorem again_any {w : World} {base o m : Nat} {L : List Kn} {a : Option Addr} {c : Nat} {S : List Sp} {k0 n0 : Int} (V : VwAt w base o m L a c S k0 n0) :
    Calls Try.prog 36 #[.pointer (some ⟨o, 0, none⟩)] w fun e w' => e = .returned (.tuple #[]) ∧ VwAt w' base o m L a c S 0 0 ∧ Fr [o] w w' := by
  have c0 := V.head.at 0 rfl
  have c1 := V.head.at 1 rfl
  have c2 := V.head.at 2 rfl
  have c3 := V.head.at 3 rfl
  have f2 := V.head.free 2
  have f3 := V.head.free 3
  have hV := V.need 0 0
  go_enter Try.func36, Try.ntmps36
  go_wp2_with fail
  refine (none_some V.head).mono ?_
  rintro e w1 ⟨rfl, rfl⟩
  go_wp2_with fail
  go_end0
  exact ⟨rfl, hV.1, hV.2⟩
theorem spares_any {w : World} {base o m : Nat} {L : List Kn} {a : Option Addr} {c : Nat} {S : List Sp} {k0 n0 : Int} (V : VwAt w base o m L a c S k0 n0) :
    Calls Try.prog 39 #[.pointer (some ⟨o, 0, none⟩)] w fun e w' => e = .returned (.int .i64 S.length) ∧ w' = w := by
  have c0 := V.head.at 0 rfl
  have c1 := V.head.at 1 rfl
  have c2 := V.head.at 2 rfl
  have c3 := V.head.at 3 rfl
  have f2 := V.head.free 2
  have f3 := V.head.free 3
  go_enter Try.func39, Try.ntmps39
  go_wp2_with fail
  refine (none_some V.head).mono ?_
  rintro e w1 ⟨rfl, rfl⟩
  go_wp2_with fail
  go_ret
  exact ⟨rfl, rfl⟩
theorem need_any {w : World} {base o m : Nat} {L : List Kn} {a : Option Addr} {c : Nat} {S : List Sp} {k0 n0 : Int} (V : VwAt w base o m L a c S k0 n0) :
    Calls Try.prog 40 #[.pointer (some ⟨o, 0, none⟩)] w fun e w' => e = .returned (.agg (nz k0 n0)) ∧ Below w.heap.size w w' := by
  have hb := (Below.refl w.heap.size w).alloc (Nat.le_refl _) (.cells (nz 0 0) 56)
  have V' := V.under hb
  have BR := Blk.new w (nz 0 0) 56
  generalize hW : w.alloc (.cells (nz 0 0) 56) = w1 at hb V' BR
  replace hW := Lib.hid hW
  have c2 := V'.head.at 2 rfl
  have c3 := V'.head.at 3 rfl
  go_enter Try.func40, Try.ntmps40
  go_wp2_with (first | (refine wpList_store_row rfl 56 _ _ rfl w.heap.size _ rfl rfl 56 _ BR.h (by kernel_rfl) (by rfl) (by kernel_rfl) ?_) | fail)
  rw [hW.out]
  refine (none_some V'.head).mono ?_
  rintro e w2 ⟨rfl, rfl⟩
  go_wp2_with (first | (refine wpList_store_row rfl 56 _ _ rfl w.heap.size _ rfl rfl 56 _ BR.h (by kernel_rfl) (by rfl) (by kernel_rfl) ?_))
  refine bodyPost_ret (results_cell_row rfl _ _ w.heap.size 56 (nz k0 n0) (0, 0) _ rfl (Blk.row BR (nz k0 n0)).h Try.underlying56 rfl (by kernel_rfl)) rfl ?_
  exact ⟨rfl, below_setRow hb (Nat.le_refl _) _⟩
theorem rk_hit {D : DataW Value} {L : List Kn} {n : Int} {c : Array Value} {v : Value} {ps : List MemPlace} {zd : DataW Value} (h : MapOk D L) (e : knAt L n = some c) (hv : Rk v = some (D.atKey (.int .i64 n) zd, ps)) : v = .agg c := by
  rw [h.at_, e] at hv
  simp [Rk] at hv
  exact hv.1
theorem rk_miss {D : DataW Value} {L : List Kn} {n : Int} {c : Array Value} {v : Value} {ps : List MemPlace} (h : MapOk D L) (e : knAt L n = none) (hv : Rk v = some (D.atKey (.int .i64 n) (.held (.agg c)), ps)) : v = .agg c := by
  rw [h.at_, e] at hv
  simp [Rk] at hv
  exact hv.1
theorem wfI {n : Int} (h : -9223372036854775808 ≤ n ∧ n ≤ 9223372036854775807) : (Lit.int .i64 n).wf = true := by
  simp [Lit.wf, IntKind.min, IntKind.max, IntKind.bits, IntKind.signed]
  omega
theorem keyOfI {n : Int} (h : -9223372036854775808 ≤ n ∧ n ≤ 9223372036854775807) : keyOf Try.prog 3 (.int .i64 n) = some (.int .i64 n) := keyOf_int_mk Try.underlying3 (wfI h)
set_option maxHeartbeats 1600000 in
theorem at_hit {w : World} {base o m : Nat} {L : List Kn} {a : Option Addr} {c : Nat} {S : List Sp} {k0 n0 : Int} (V : VwAt w base o m L a c S k0 n0) (n : Int) (hr : -9223372036854775808 ≤ n ∧ n ≤ 9223372036854775807) {cs : Array Value} (hn : knAt L n = some cs) :
    Calls Try.prog 30 #[.pointer (some ⟨o, 0, none⟩), .int .i64 n] w fun e w' => e = .returned (.tuple #[.agg cs, .bool true]) ∧ Below w.heap.size w w' := by
  have hb := (Below.refl w.heap.size w).alloc (Nat.le_refl _) (.cells kz 53)
  have V1 := V.under hb
  have BR := Blk.new w kz 53
  have hz1 := World.size_alloc w (.cells kz 53)
  obtain ⟨D, hD, hM⟩ := V1.map
  have hcs := hM.cells _ (knAt_some hn)
  have hhas := hM.has n
  have hkey := keyOfI hr
  generalize hW : w.alloc (.cells kz 53) = w1 at hb V1 BR hz1 hD
  replace hW := Lib.hid hW
  have c0 := V1.head.at 0 rfl
  have BX : Blk (w1.alloc (.cells kz 53)) (w.heap.size + 1) kz 53 := by have := Blk.new w1 kz 53; rwa [hz1] at this
  have hset : (w1.alloc (.cells kz 53)).setRow (w.heap.size + 1) cs = w1.alloc (.cells cs 53) := by rw [← hz1]; exact World.setRow_alloc_new _ _ _ _
  have BC : Blk (w1.alloc (.cells cs 53)) (w.heap.size + 1) cs 53 := by have := Blk.new w1 cs 53; rwa [hz1] at this
  have BR2 := BR.alloc (.cells cs 53)
  have hb2 := hb.alloc (by omega) (.cells cs 53)
  have hsz : (Try.prog.info? 53).map (·.size) = some cs.size := by rw [hcs.1]; kernel_rfl
  go_enter Try.func30, Try.ntmps30
  go_wp2_with fail
  rw [hW.out]
  refine (none_some V1.head).mono ?_
  rintro e w2 ⟨rfl, rfl⟩
  go_upto_region 3 with (fail)
  go_wp2_with (first
    | (at_lookup; refine wpList_lookup_own_ok _ rfl _ _ 86 rfl 3 53 lawI Try.underlying86 Rk (zeroK _) (.held (.agg kz)) [] rfl m L.length D rfl hD _ (.int .i64 n) rfl hkey ?_; intro v ps hv; rw [hhas, hn]; obtain rfl := rk_hit hM hn hv)
    | (refine wpList_store_row rfl 53 _ _ rfl _ _ rfl rfl 53 _ BX.h hsz (by rw [hcs.1]; rfl) hcs.2 ?_; rw [hset])
    | (refine wpList_load_row rfl 53 _ rfl (w.heap.size + 1) rfl 53 _ (0, 0) _ BC.h Try.underlying53 rfl hsz ?_)
    | (refine wpList_store_row rfl 53 _ _ rfl _ _ rfl rfl 53 _ BR2.h hsz (by rw [hcs.1]; rfl) hcs.2 ?_))
  refine bodyPost_ret (v := .tuple #[.agg cs, .bool true]) (results_cell_tmp rfl _ _ w.heap.size 53 cs (0, 0) _ (.bool true) rfl rfl (Blk.row BR2 cs).h Try.underlying53 rfl hsz) rfl ?_
  exact ⟨rfl, below_setRow hb2 (Nat.le_refl _) _⟩
theorem VwAt.lts {w : World} {base o m : Nat} {L : List Kn} {a : Option Addr} {c : Nat} {S : List Sp} {k n : Int} (V : VwAt w base o m L a c S k n) : o < w.heap.size ∧ m < w.heap.size ∧ ∀ g, (Value.slice a S.length c).ownBlock = some g → g < w.heap.size := by
  obtain ⟨D, ⟨es, clock, hb, r⟩, hL⟩ := V.map
  exact ⟨V.head.lt, lt_of_block hb, fun g hg => (OwnR.lt V.spares g hg).2⟩
theorem VwAt.row {w w' : World} {base o m : Nat} {L : List Kn} {a : Option Addr} {c : Nat} {S : List Sp} {k n k' n' : Int} (V : VwAt w base o m L a c S k n) (V' : VwAt w' base o m L a c S k' n') (b : Nat) (cs : Array Value) (hb : w.heap.size ≤ b) : VwAt (w'.setRow b cs) base o m L a c S k' n' := by
  obtain ⟨l1, l2, l3⟩ := V.lts
  refine V'.fr (Fr.row (S := [b]) b cs (by simp)) (by simp; omega) (by simp; omega) (fun g hg => ?_)
  have := l3 g hg
  simp; omega
theorem Fr.rowNew {S : List Nat} {a w : World} (h : Fr S a w) (b : Nat) (cs : Array Value) (hb : a.heap.size ≤ b) : Fr S a (w.setRow b cs) := by
  have F := Fr.row (S := [b]) (w := w) b cs (by simp)
  exact ⟨F.os.trans h.os, F.tape.trans h.tape, F.output.trans h.output, Nat.le_trans h.size F.size, fun x hx hn => (F.block x (Nat.lt_of_lt_of_le hx h.size) (by simp; omega)).trans (h.block x hx hn)⟩
def missK (k0 n : Int) : Int := lackK k0 (if cellB n then 1 else 3)
def missN (k0 n0 n : Int) : Int := lackN k0 n0 (if cellB n then n else 0)
set_option maxRecDepth 20000 in
set_option maxHeartbeats 1600000 in
theorem at_miss {w : World} {base o m : Nat} {L : List Kn} {a : Option Addr} {c : Nat} {S : List Sp} {k0 n0 : Int} (V : VwAt w base o m L a c S k0 n0) (n : Int) (hr : -9223372036854775808 ≤ n ∧ n ≤ 9223372036854775807) (hn : knAt L n = none) :
    Calls Try.prog 30 #[.pointer (some ⟨o, 0, none⟩), .int .i64 n] w fun e w' => e = .returned (.tuple #[.agg kz, .bool false]) ∧ VwAt w' base o m L a c S (missK k0 n) (missN k0 n0 n) ∧ Fr [o] w w' := by
  have hb := (Below.refl w.heap.size w).alloc (Nat.le_refl _) (.cells kz 53)
  have V1 := V.under hb
  have BR := Blk.new w kz 53
  have hz1 := World.size_alloc w (.cells kz 53)
  obtain ⟨D, hD, hM⟩ := V1.map
  have hhas := hM.has n
  have hkey := keyOfI hr
  have hlo := V.lts
  generalize hW : w.alloc (.cells kz 53) = w1 at hb V1 BR hz1 hD
  replace hW := Lib.hid hW
  have c0 := V1.head.at 0 rfl
  have BX : Blk (w1.alloc (.cells kz 53)) (w.heap.size + 1) kz 53 := by have := Blk.new w1 kz 53; rwa [hz1] at this
  have hset : (w1.alloc (.cells kz 53)).setRow (w.heap.size + 1) kz = w1.alloc (.cells kz 53) := by rw [← hz1]; exact World.setRow_alloc_new _ _ _ _
  have BR2 := BR.alloc (.cells kz 53)
  have hb2 := hb.alloc (by omega) (.cells kz 53)
  have V2 := V1.under ((Below.refl _ w1).alloc (Nat.le_refl _) (.cells kz 53))
  have hsz : (Try.prog.info? 53).map (·.size) = some kz.size := by kernel_rfl
  go_enter Try.func30, Try.ntmps30
  go_wp2_with fail
  rw [hW.out]
  refine (none_some V1.head).mono ?_
  rintro e w2 ⟨rfl, rfl⟩
  go_upto_region 3 with (fail)
  go_wp2_with (first
    | (at_lookup; refine wpList_lookup_own_ok _ rfl _ _ 86 rfl 3 53 lawI Try.underlying86 Rk (zeroK _) (.held (.agg kz)) [] rfl m L.length D rfl hD _ (.int .i64 n) rfl hkey ?_; intro v ps hv; rw [hhas, hn]; obtain rfl := rk_miss hM hn hv)
    | (refine wpList_store_row rfl 53 _ _ rfl _ _ rfl rfl 53 _ BX.h hsz (by rfl) (by kernel_rfl) ?_; rw [hset]))
  clear hD BX hset V1 BR c0 hb
  refine (cell_any _ n).mono ?_
  rintro e w3 ⟨rfl, rfl⟩
  have hF2 : Fr [o] w _ := Fr.of_below hb2
  cases hc : cellB n
  · go_wp2_with fail
    refine (giveup_any V2).mono ?_
    rintro e w4 ⟨rfl, V4, F4⟩
    have BR4 := F4.blk BR2 (by simp; omega)
    go_wp2_with (refine wpList_store_row rfl 53 _ _ rfl w.heap.size _ rfl rfl 53 _ BR4.h hsz (by rfl) (by kernel_rfl) ?_)
    refine bodyPost_ret (v := .tuple #[.agg kz, .bool false]) (results_cell_tmp rfl _ _ w.heap.size 53 kz (0, 0) _ (.bool false) rfl rfl (Blk.row BR4 kz).h Try.underlying53 rfl hsz) rfl ?_
    refine ⟨rfl, ?_, (hF2.trans F4).rowNew _ _ (Nat.le_refl _)⟩
    have := V.row V4 w.heap.size kz (Nat.le_refl _)
    simpa [missK, missN, hc] using this
  · go_wp2_with fail
    refine (lack_any V2 1 n).mono ?_
    rintro e w4 ⟨rfl, V4, F4⟩
    have BR4 := F4.blk BR2 (by simp; omega)
    go_wp2_with (refine wpList_store_row rfl 53 _ _ rfl w.heap.size _ rfl rfl 53 _ BR4.h hsz (by rfl) (by kernel_rfl) ?_)
    refine bodyPost_ret (v := .tuple #[.agg kz, .bool false]) (results_cell_tmp rfl _ _ w.heap.size 53 kz (0, 0) _ (.bool false) rfl rfl (Blk.row BR4 kz).h Try.underlying53 rfl hsz) rfl ?_
    refine ⟨rfl, ?_, (hF2.trans F4).rowNew _ _ (Nat.le_refl _)⟩
    have := V.row V4 w.heap.size kz (Nat.le_refl _)
    simpa [missK, missN, hc] using this
end Go.Proofs.Ytbemgfpnoeogdaa.FoP
