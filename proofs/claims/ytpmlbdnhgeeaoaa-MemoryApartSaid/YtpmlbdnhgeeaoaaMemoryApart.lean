/-
  MemoryApart: no cell of a memory is two things: of any two regions and places in them the cells are other ones, where there are such. For all sizes and places; no condition.
-/
import Derived.Test.YtpmlbdnhgeeaoaaLift
import Derived.Test.YtpmlbdnhgeeaoaaMemApartP
import Derived.Deep.RegionLaw
namespace Go.Proofs.Ytpmlbdnhgeeaoaa.memoryApart
open Go.ChangeShapes Go.WideShapes Go.ChangeAt Go.RowKit RefP CellP MemP
set_option linter.unusedVariables false
set_option linter.unusedSimpArgs false
theorem infoInt : (Try.prog.info? 3).map (fun i => (i.zero, i.size, i.bytes)) = some (some (.int .i64 0), 1, 8) := by kernel_rfl
abbrev intF (x : Int) (_ : Nat) : Value := .int .i64 x
abbrev OwnI (w : World) (base : Nat) (a : Option Addr) (c : Nat) (l : List Int) : Prop := OwnR 1 intF 0 w base 3 a c l
theorem addInt {w : World} (base : Nat) {a : Option Addr} {c : Nat} {l : List Int} (h : OwnI w base a c l) (x : Int) (hn : l.length + 1 ≤ 60000) (hbase : base ≤ w.heap.size) :
    ∃ g cap w', AddedR Try.prog 1 intF 0 (w.alloc (.cells #[.int .i64 x] 3)) base 25 3 a c l (.slice (some ⟨w.heap.size, 0, none⟩) 1 1) 1 (l ++ [x]) g cap w' := by
  obtain ⟨i0, hi, hz0, hz1, hz2⟩ := info_parts' infoInt
  have hx : RecS 1 intF 0 (w.alloc (.cells #[.int .i64 x] 3)) (some ⟨w.heap.size, 0, none⟩) [x] := rec_lit (Blk.new w #[.int .i64 x] 3) x (fun j hj => by
    have e : j = 0 := by omega
    subst e
    rfl)
  exact addRecs base _ _ i0 _ 8 Try.underlying25 hi hz0 hz1 hz2 (by simp [Value.cells]) (by omega) (fun _ _ _ => rfl) (OwnR.below h ((Below.refl _ w).alloc (Nat.le_refl _) _)) hx (by simp) (by simp [maxLen]; omega) (by simp; omega) (by simp; omega)
theorem own_cell {w : World} {base : Nat} {a : Option Addr} {c : Nat} {l : List Int} (h : OwnI w base a c l) (k : Nat) (hk : k < l.length) : ∃ b off, a = some ⟨b, off, none⟩ ∧ b < w.heap.size ∧ w.cell? ⟨b, off + k, none⟩ = some (.int .i64 (at0 l k)) := by
  obtain ⟨b, off, e, hb, hc⟩ := h.read.cell k hk (by omega)
  refine ⟨b, off, e, hb, ?_⟩
  have := hc 0 (by omega)
  simpa [at0] using this
structure AR (w : World) (o oc g gb gr A T : Nat) (L : List (Int × Int)) (bs rs : List (List Value)) (a : Option Addr) (c : Nat) (l : List Int) (wr : World) : Prop where
  b : Below w.heap.size w wr
  own : OwnI wr w.heap.size a c l
  m : MemAt wr o oc g gb gr A T L bs rs
  nt : ∀ q, (Value.slice a l.length c).ownBlock = some q → q ≠ o ∧ q ≠ oc ∧ q ≠ g ∧ q ≠ gb ∧ q ≠ gr
theorem AR.below {w : World} {o oc g gb gr A T : Nat} {L : List (Int × Int)} {bs rs : List (List Value)} {a : Option Addr} {c : Nat} {l : List Int} {wr wx : World} (h : AR w o oc g gb gr A T L bs rs a c l wr) (hb : Below wr.heap.size wr wx) : AR w o oc g gb gr A T L bs rs a c l wx :=
  ⟨below_push2 h.b hb (Nat.le_refl _), OwnR.below h.own hb, h.m.below hb, h.nt⟩
theorem AR.added {w : World} {o oc g gb gr A T : Nat} {L : List (Int × Int)} {bs rs : List (List Value)} {a : Option Addr} {c : Nat} {l : List Int} {wr : World} (h : AR w o oc g gb gr A T L bs rs a c l wr) (x : Int) {g' cap : Nat} {w' : World}
    (K : AddedR Try.prog 1 intF 0 (wr.alloc (.cells #[.int .i64 x] 3)) w.heap.size 25 3 a c l (.slice (some ⟨wr.heap.size, 0, none⟩) 1 1) 1 (l ++ [x]) g' cap w') : AR w o oc g gb gr A T L bs rs (some ⟨g', 0, none⟩) cap (l ++ [x]) w' := by
  have h1 := h.below ((Below.refl _ wr).alloc (Nat.le_refl _) (.cells #[.int .i64 x] 3))
  have l1 := h.m.head.lt
  have l2 := h.m.cells.head.lt
  have l3 := h.m.cells.rows.lt
  have l4 := h.m.blocks.lt
  have l5 := h.m.records.lt
  have hsz := h1.b.size
  refine ⟨K.keeps (fun q e => (OwnR.lt h1.own q e).1) w _ (Nat.le_refl _) h1.b hsz, K.own, ?_, fun q e => ?_⟩
  · cases ho : (Value.slice a l.length c).ownBlock with
    | none =>
      have hg := K.grown
      rw [ho] at hg
      exact h1.m.off (Fr.of_grown (S := []) hg (fun q e => by cases e)) (by simp)
    | some q =>
      have hg := K.grown
      rw [ho] at hg
      obtain ⟨n1, n2, n3, n4, n5⟩ := h.nt q ho
      exact h1.m.off (Fr.of_grown (S := [q]) hg (fun q' e => by injection e with e; simp [e])) (by simp; omega)
  · simp only [Value.ownBlock, Option.some.injEq] at e
    subst e
    rcases K.at' with q | q
    · exact h.nt _ q
    · subst q; simp; omega
def intsA (l : List Int) : Array Value := (l.map (Value.int .i64)).toArray
theorem intsA_at (l : List Int) (i : Nat) (h : i < l.length) : (intsA l)[i]? = some (.int .i64 (at0 l i)) := by simp [intsA, at0, h]
/-- the row's cells, and how many of them were appended -/
structure LR (w : World) (o oc g gb gr A T : Nat) (L : List (Int × Int)) (bs rs : List (List Value)) (B : Nat) (V : List Int) (a : Option Addr) (c q : Nat) (wr : World) : Prop where
  ar : AR w o oc g gb gr A T L bs rs a c (V.take q) wr
  v : Blk wr B (intsA V) 3
  nv : ∀ p, (Value.slice a (V.take q).length c).ownBlock = some p → p ≠ B
theorem LR.next {w : World} {o oc g gb gr A T : Nat} {L : List (Int × Int)} {bs rs : List (List Value)} {B : Nat} {V : List Int} {a : Option Addr} {c q : Nat} {wr : World} (h : LR w o oc g gb gr A T L bs rs B V a c q wr) (hq : q < V.length) {x : Int} (hx : at0 V q = x) {g' cap : Nat} {w' : World}
    (K : AddedR Try.prog 1 intF 0 (wr.alloc (.cells #[.int .i64 x] 3)) w.heap.size 25 3 a c (V.take q) (.slice (some ⟨wr.heap.size, 0, none⟩) 1 1) 1 (V.take q ++ [x]) g' cap w') : LR w o oc g gb gr A T L bs rs B V (some ⟨g', 0, none⟩) cap (q + 1) w' := by
  have e : V.take (q + 1) = V.take q ++ [x] := by rw [take_succ_at0 V q hq, hx]
  have hl := h.v.lt
  refine ⟨by rw [e]; exact h.ar.added x K, (h.v.alloc _).grown K.grown (fun e => h.nv B e.symm rfl), fun p hp => ?_⟩
  simp only [Value.ownBlock, Option.some.injEq] at hp
  subst hp
  rcases K.at' with r | r
  · exact h.nv _ r
  · subst r; simp; omega
set_option maxRecDepth 100000 in
set_option maxHeartbeats 6400000 in
theorem walk (a t i k : Int) (w : World) (a0 : 0 ≤ a) (a1 : a ≤ 255) (t0 : 0 ≤ t) (t1 : t ≤ 255) (i0' : -9223372036854775808 ≤ i ∧ i ≤ 9223372036854775807) (k0' : -9223372036854775808 ≤ k ∧ k ≤ 9223372036854775807) :
    Calls Try.prog 4 #[.int .u8 a, .int .u8 t, .int .i64 i, .int .i64 k] w fun e w' => e = .returned (.bool true) ∧ Below w.heap.size w w' := by
  obtain ⟨A, hA⟩ : ∃ A : Nat, a % 20 + 1 = (A : Int) := ⟨(a % 20 + 1).toNat, by omega⟩
  obtain ⟨T, hT⟩ : ∃ T : Nat, t % 16 + 1 = (T : Int) := ⟨(t % 16 + 1).toNat, by omega⟩
  have A0 : 1 ≤ A ∧ A ≤ 20 := by omega
  have T0 : 1 ≤ T ∧ T ≤ 16 := by omega
  obtain ⟨i0, i1⟩ := i0'
  obtain ⟨k0, k1⟩ := k0'
  go_enter Try.func4, Try.ntmps4
  go_wp2_with fail
  refine (mnew_yes A T 0 _ (by omega) (by omega) (by omega) (by omega) (by omega) (by omega)).mono ?_
  rintro e w1 ⟨o, oc, g, gb, gr, rfl, hM, hB, ho, hoc, hg, hgb, hgr⟩
  generalize freshL A T 0 = L at hM
  generalize ((List.replicate A zb).set 0 eb) = bs at hM
  generalize (List.replicate T zo) = rs at hM
  go_wp2_with fail
  refine (node_any i _ hM i0 i1).mono ?_
  rintro e wx ⟨rfl, hbx⟩
  replace hM := hM.below hbx
  replace hB := below_push2 hB hbx (Nat.le_refl _)
  clear hbx
  go_wp2_with fail
  refine (muse_any i _ hM i0 i1).mono ?_
  rintro e wx ⟨rfl, hbx⟩
  replace hM := hM.below hbx
  replace hB := below_push2 hB hbx (Nat.le_refl _)
  clear hbx
  go_wp2_with fail
  refine (announce_any i _ hM i0 i1).mono ?_
  rintro e wx ⟨rfl, hbx⟩
  replace hM := hM.below hbx
  replace hB := below_push2 hB hbx (Nat.le_refl _)
  clear hbx
  go_wp2_with fail
  refine (done_any i _ hM i0 i1).mono ?_
  rintro e wx ⟨rfl, hbx⟩
  replace hM := hM.below hbx
  replace hB := below_push2 hB hbx (Nat.le_refl _)
  clear hbx
  go_wp2_with fail
  refine (phase_any i _ hM i0 i1).mono ?_
  rintro e wx ⟨rfl, hbx⟩
  replace hM := hM.below hbx
  replace hB := below_push2 hB hbx (Nat.le_refl _)
  clear hbx
  go_wp2_with fail
  refine (haz_any i 0 _ hM).mono ?_
  rintro e wx ⟨rfl, hbx⟩
  replace hM := hM.below hbx
  replace hB := below_push2 hB hbx (Nat.le_refl _)
  clear hbx
  go_wp2_with fail
  refine (haz_any i 1 _ hM).mono ?_
  rintro e wx ⟨rfl, hbx⟩
  replace hM := hM.below hbx
  replace hB := below_push2 hB hbx (Nat.le_refl _)
  clear hbx
  go_wp2_with fail
  refine (gate_any _ hM).mono ?_
  rintro e wx ⟨rfl, hbx⟩
  replace hM := hM.below hbx
  replace hB := below_push2 hB hbx (Nat.le_refl _)
  clear hbx
  go_wp2_with fail
  refine (node_any k _ hM k0 k1).mono ?_
  rintro e wx ⟨rfl, hbx⟩
  replace hM := hM.below hbx
  replace hB := below_push2 hB hbx (Nat.le_refl _)
  clear hbx
  go_wp2_with fail
  refine (muse_any k _ hM k0 k1).mono ?_
  rintro e wx ⟨rfl, hbx⟩
  replace hM := hM.below hbx
  replace hB := below_push2 hB hbx (Nat.le_refl _)
  clear hbx
  go_wp2_with fail
  refine (announce_any k _ hM k0 k1).mono ?_
  rintro e wx ⟨rfl, hbx⟩
  replace hM := hM.below hbx
  replace hB := below_push2 hB hbx (Nat.le_refl _)
  clear hbx
  go_wp2_with fail
  refine (done_any k _ hM k0 k1).mono ?_
  rintro e wx ⟨rfl, hbx⟩
  replace hM := hM.below hbx
  replace hB := below_push2 hB hbx (Nat.le_refl _)
  clear hbx
  go_wp2_with fail
  refine (phase_any k _ hM k0 k1).mono ?_
  rintro e wx ⟨rfl, hbx⟩
  replace hM := hM.below hbx
  replace hB := below_push2 hB hbx (Nat.le_refl _)
  clear hbx
  go_wp2_with fail
  refine (haz_any k 0 _ hM).mono ?_
  rintro e wx ⟨rfl, hbx⟩
  replace hM := hM.below hbx
  replace hB := below_push2 hB hbx (Nat.le_refl _)
  clear hbx
  go_wp2_with fail
  refine (haz_any k 1 _ hM).mono ?_
  rintro e wx ⟨rfl, hbx⟩
  replace hM := hM.below hbx
  replace hB := below_push2 hB hbx (Nat.le_refl _)
  clear hbx
  clear i0 i1 k0 k1
  go_wp2_with fail
  obtain ⟨wb, hwb⟩ : ∃ wb : World, wb = wx := ⟨_, rfl⟩
  have hM0 := hM.below ((Below.refl _ wx).alloc (Nat.le_refl _) (.cells (intsA (Vl A T i k)) 3))
  have hB0 := below_alloc2 hB (Nat.le_refl _) (.cells (intsA (Vl A T i k)) 3)
  have BV := Blk.new wx (intsA (Vl A T i k)) 3
  have hlen := hM.len
  have R0 : LR w o oc g gb gr A T L bs rs wx.heap.size (Vl A T i k) none 0 0 (wx.alloc (.cells (intsA (Vl A T i k)) 3)) :=
    ⟨⟨hB0, OwnR.nil _ _ _ _ _ _, hM0, fun q e => by simp [Value.ownBlock] at e⟩, BV, fun q e => by simp [Value.ownBlock] at e⟩
  have hbx := hB.size
  clear hM hB hM0 hB0 BV hwb
  go_loopw [12, 75] (fun u12 i' wr => ∃ q : Nat, q ≤ 15 ∧ i' = .int .i64 q ∧ ∃ a c, u12 = .slice a q c ∧ LR w o oc g gb gr A T L bs rs wx.heap.size (Vl A T i k) a c q wr) (fun _ i' _ => 15 - (intOf i').toNat)
  case atStart => exact ⟨0, Nat.zero_le _, rfl, none, 0, rfl, R0⟩
  case round =>
    clear R0
    obtain ⟨q, hq, rfl, a, c, rfl, R⟩ := hrel
    by_cases hlt : q < 15
    · have hlt' : (q : Int) < 15 := by omega
      have hv := Vl_at A T i k q hlt
      have c0 := R.v.at q (intsA_at (Vl A T i k) q hlt)
      have hr := V_rng A T i k q
      rw [hv] at c0
      have q1 : decide (Vx A T i k q < -1) = false := by simp; omega
      have q2 : decide ((L.length : Int) ≤ Vx A T i k q) = false := by simp; omega
      have hll : ((Vl A T i k).take q).length = q := by simp [Vl]; omega
      obtain ⟨g', cap, w', K⟩ := addInt w.heap.size R.ar.own (Vx A T i k q) (by omega) R.ar.b.size
      have hrun := K.run
      rw [hll] at hrun
      have hrun := Lib.hid hrun
      have R2 := R.next hlt hv K
      clear K
      go_wp2_with fail
      refine (mlen_any _ R.ar.m).mono ?_
      rintro e wy ⟨rfl, rfl⟩
      go_wp2_with (at_builtin; refine wpList_append_run hrun.out rfl (by rfl) (by rfl) (by rfl) ?_)
      go_roundw
      case rel => exact ⟨q + 1, by omega, by go_num, _, _, rfl, R2⟩
      case measure => simp [intOf]; omega
    · obtain rfl : q = 15 := by omega
      have hown : OwnI wr w.heap.size a c (Vl A T i k) := by have := R.ar.own; rwa [show (Vl A T i k).take 15 = Vl A T i k from rfl] at this
      have hM := R.ar.m
      have hB := R.ar.b
      clear R
      go_wp2_with fail
      go_loopw [94] (fun i' wr => ∃ x : Nat, x ≤ 15 ∧ i' = .int .i64 x ∧ Below w.heap.size w wr ∧ OwnI wr w.heap.size a c (Vl A T i k) ∧ MemAt wr o oc g gb gr A T L bs rs) (fun i' _ => 15 - (intOf i').toNat)
      case atStart => exact ⟨0, Nat.zero_le _, rfl, hB, hown, hM⟩
      case round =>
        clear hB hown hM
        obtain ⟨x, hx, rfl, hB, hown, hM⟩ := hrel
        by_cases hlx : x < 15
        · have hlx' : (x : Int) < 15 := by omega
          go_wp2_with fail
          go_loopw [98] (fun i' wz => ∃ y : Nat, y ≤ x ∧ i' = .int .i64 y ∧ Below wr.heap.size wr wz) (fun i' _ => x - (intOf i').toNat)
          case atStart => exact ⟨0, Nat.zero_le _, rfl, Below.refl _ _⟩
          case round =>
            obtain ⟨y, hy, rfl, hbz⟩ := hrel
            by_cases hly : y < x
            · have hly' : (y : Int) < (x : Int) := by omega
              have hyz := OwnR.below hown hbz
              obtain ⟨b, off, rfl, hbl, cx⟩ := own_cell hyz x hlx
              obtain ⟨b', off', e', _, cy⟩ := own_cell hyz y (by show y < 15; omega)
              simp only [Option.some.injEq, Addr.mk.injEq, and_true] at e'
              obtain ⟨rfl, rfl⟩ := e'
              rw [Vl_at A T i k x hlx] at cx
              rw [Vl_at A T i k y (by omega)] at cy
              have hap := apart A T i k x y hlx hly
              have hw8 : IntKind.i64.wrap ((y : Int) + 8) = (y : Int) + 8 := by rw [IntKind.wrap_i64]; omega
              have hx14 : (x : Int) < 15 := by omega
              clear hown hyz hB hM hlen
              by_cases hp : 0 ≤ Vx A T i k x
              · have q1 : decide (0 ≤ Vx A T i k x) = true := by simpa using hp
                have hap := hap hp
                generalize Vx A T i k x = vx at cx hp q1 hap
                generalize Vx A T i k y = vy at cy hap
                by_cases hik : i = k
                · have q2 : (i == k) = true := by simpa using hik
                  by_cases hxy : (x : Int) = (y : Int) + 8
                  · have q3 : ((x : Int) == (y : Int) + 8) = true := by simpa using hxy
                    have q4 : (vx == vy) = true := by simpa using hap.2 ⟨hik, by omega⟩
                    clear hap hp hik hxy
                    go_upto_region 18 with (fail)
                    go_quiet (fail)
                    go_wp2_with fail
                    go_roundw
                    case rel => exact ⟨y + 1, by omega, by go_num, below_drewN hbz _⟩
                    case measure => simp [intOf]; omega
                  · have q3 : ((x : Int) == (y : Int) + 8) = false := not_eq hxy
                    have q4 : (vx == vy) = false := not_eq (fun e => hxy (by have := (hap.1 e).2; omega))
                    clear hap hp hik hxy
                    go_upto_region 18 with (fail)
                    go_quiet (fail)
                    go_wp2_with fail
                    go_roundw
                    case rel => exact ⟨y + 1, by omega, by go_num, below_drewN hbz _⟩
                    case measure => simp [intOf]; omega
                · have q2 : (i == k) = false := not_eq hik
                  have q4 : (vx == vy) = false := not_eq (fun e => hik (hap.1 e).1)
                  clear hap hp hik
                  go_upto_region 18 with (fail)
                  go_quiet (fail)
                  go_wp2_with fail
                  go_roundw
                  case rel => exact ⟨y + 1, by omega, by go_num, below_drewN hbz _⟩
                  case measure => simp [intOf]; omega
              · have q1 : decide (0 ≤ Vx A T i k x) = false := by simpa using hp
                clear hap
                generalize Vx A T i k x = vx at cx hp q1
                generalize Vx A T i k y = vy at cy
                by_cases hik : i = k
                · have q2 : (i == k) = true := by simpa using hik
                  by_cases hxy : (x : Int) = (y : Int) + 8
                  · have q3 : ((x : Int) == (y : Int) + 8) = true := by simpa using hxy
                    clear hp hik hxy
                    go_upto_region 18 with (fail)
                    go_quiet (fail)
                    go_wp2_with fail
                    go_roundw
                    case rel => exact ⟨y + 1, by omega, by go_num, below_drewN hbz _⟩
                    case measure => simp [intOf]; omega
                  · have q3 : ((x : Int) == (y : Int) + 8) = false := not_eq hxy
                    clear hp hik hxy
                    go_upto_region 18 with (fail)
                    go_quiet (fail)
                    go_wp2_with fail
                    go_roundw
                    case rel => exact ⟨y + 1, by omega, by go_num, below_drewN hbz _⟩
                    case measure => simp [intOf]; omega
                · have q2 : (i == k) = false := not_eq hik
                  clear hp hik
                  go_upto_region 18 with (fail)
                  go_quiet (fail)
                  go_wp2_with fail
                  go_roundw
                  case rel => exact ⟨y + 1, by omega, by go_num, below_drewN hbz _⟩
                  case measure => simp [intOf]; omega
            · obtain rfl : y = x := by omega
              go_wp2_with fail
              go_roundw
              case rel => exact ⟨y + 1, by omega, by go_num, below_push2 hB hbz (Nat.le_refl _), OwnR.below hown hbz, hM.below hbz⟩
              case measure => simp [intOf]; omega
        · obtain rfl : x = 15 := by omega
          go_wp2_with fail
          refine (lives_any _).mono ?_
          rintro e w4 ⟨rfl, hb4⟩
          go_wp2_with fail
          go_ret
          exact ⟨rfl, below_push2 hB hb4 (Nat.le_refl _)⟩

set_option maxRecDepth 100000 in
theorem contract (H : Type) (enc : TypeId × Value → H) (W : World) (base : Nat) (args : Array Value) (ds : List (DataW H)) (p : List MemPlace)
    (hval : ∀ (j : Nat) t v, Try.f4.params[j]? = some t → args[j]? = some v → Value.okWide Try.prog W .any base t v)
    (hA : DataW.TrodAll enc Try.prog W 0 (fun _ => true) true Try.f4.params.toList args.toList ds p) :
    Calls Try.prog 4 args W fun e W' => e = .returned (.bool true) ∧ Below W.heap.size W W' := by
  rw [Try.params4] at hA hval
  obtain ⟨v0, vs0, d0, ds0, p0, q0, hargs, rfl, rfl, h0, r0⟩ := trodAll_cons hA
  obtain ⟨v1, vs1, d1, ds1, p1, q1, rfl, rfl, rfl, h1, r1⟩ := trodAll_cons r0
  obtain ⟨v2, vs2, d2, ds2, p2, q2, rfl, rfl, rfl, h2, r2⟩ := trodAll_cons r1
  obtain ⟨v3, vs3, d3, ds3, p3, q3, rfl, rfl, rfl, h3, r3⟩ := trodAll_cons r2
  obtain ⟨rfl, rfl, rfl⟩ := trodAll_nil r3
  obtain rfl : args = #[v0, v1, v2, v3] := by cases args; simp_all
  obtain ⟨a0, rfl, w0⟩ := Lift.int_of Try.underlying5 (hval 0 5 v0 rfl rfl) h0
  obtain ⟨a1, rfl, w1⟩ := Lift.int_of Try.underlying5 (hval 1 5 v1 rfl rfl) h1
  obtain ⟨a2, rfl, w2⟩ := Lift.int_of Try.underlying3 (hval 2 3 v2 rfl rfl) h2
  obtain ⟨a3, rfl, w3⟩ := Lift.int_of Try.underlying3 (hval 3 3 v3 rfl rfl) h3
  have u0 := Lift.u8_range w0
  have u1 := Lift.u8_range w1
  exact walk a0 a1 a2 a3 W u0.1 u0.2 u1.1 u1.2 (Lift.i64_range w2) (Lift.i64_range w3)

/-! THE ROW's STEP -/
set_option maxRecDepth 100000 in
theorem lifted (os : Os) (started : os.Started) (H : Type) (enc : TypeId × Value → H) :
    ReturnsInHanded {} Try.checked os 4 .any (Rows.memoryApartSpec.pre6 enc Try.prog Try.f4 Rows.memoryApartRow.domain false) (Rows.memoryApartSpec.post enc Try.prog Try.f4 false true false false) := by
  refine returnsInHanded_of_change (C := Try.checked) Lift.own started (by kernel_rfl) Try.func4
    (ChangeSpec.witness6 (enc := enc) (C := Try.checked) false ⟨#[], #[.int .u8 0, .int .u8 0, .int .i64 0, .int .i64 0], []⟩ 8 (by kernel_rfl) (by kernel_rfl) (by kernel_rfl) (by kernel_rfl)) ?_
  intro W base args ds gs before hval0 hW hcnd _
  have hval : ∀ (j : Nat) t v, Try.f4.params[j]? = some t → args[j]? = some v → Value.okWide Try.prog W .any base t v := hval0
  have hW' := hW
  obtain ⟨p, q, hA0, hV, rfl, hfz, hnd⟩ := hW
  have hA : DataW.TrodAll enc Try.prog W 0 (fun _ => true) true Try.f4.params.toList args.toList ds p := hA0
  have hlen : ds.length = 4 := by
    have hl := Lift.trodAll_len _ _ _ _ hA
    rw [Try.params4] at hl
    simpa using hl
  have hall := fun W' (hb : Below W.heap.size W W') => Lift.trodAll_below Lift.laidOut hb Try.f4.params.toList args.toList ds p (by kernel_rfl) hA
  obtain ⟨rfl, rfl⟩ := trodVars_none hV
  refine (contract H enc W base args ds p hval hA).mono fun e W' ⟨he, bel⟩ => ?_
  subst he
  have hspec : (Rows.memoryApartSpec.fn H (ds ++ [])).results = [.lit (.bool true)] ∧ (Rows.memoryApartSpec.fn H (ds ++ [])).args = ds ∧ (Rows.memoryApartSpec.fn H (ds ++ [])).vars = [] := by
    match ds, hlen with
    | [d1, d2, d3, d4], _ => exact ⟨rfl, rfl, rfl⟩
  exact ⟨_, rfl, _, _, _, [], _, [], hW', by rw [hspec.1]; exact trodAll_mk1 (shut_bool Try.underlying4 _), by rw [hspec.2.1]; exact hall W' bel, by rw [hspec.2.2]; rfl, bel.frame _, fun h => by cases h⟩

theorem over : Rows.memoryApartRow.holds Try.pinned (OpenSpec.ofChange Rows.memoryApartSpec) :=
  OpenClaim.holds_of_wide 4 Try.f4 rfl rfl rfl rfl rfl rfl rfl ⟨rfl, rfl, rfl, rfl, rfl⟩ rfl rfl rfl rfl rfl (by kernel_rfl) Try.func4 (by kernel_rfl)
    (of_decide_eq_true (by kernel_rfl)) (by unfold Func.isWrapper; first | (rw [if_pos (by decide +kernel)]; kernel_rfl) | (rw [if_neg (by decide +kernel)]; exact ⟨rfl, rfl⟩))
    (fun os started H enc _ => lifted os started H enc)

theorem proved : Rows.MemoryApartSaid := over
#print axioms proved
end Go.Proofs.Ytpmlbdnhgeeaoaa.memoryApart
