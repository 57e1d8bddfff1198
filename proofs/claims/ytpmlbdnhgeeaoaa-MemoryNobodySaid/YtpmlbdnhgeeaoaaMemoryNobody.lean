/-
  MemoryNobody: a memory that no call made has nothing, and does nothing. For every access; no condition.
-/
import Derived.Test.YtpmlbdnhgeeaoaaLift
import Derived.Test.YtpmlbdnhgeeaoaaMemZero
import Derived.Test.YtpmlbdnhgeeaoaaLightA
import Derived.Test.YtpmlbdnhgeeaoaaApiOpen
namespace Go.Proofs.Ytpmlbdnhgeeaoaa.memoryNobody
open Go.ChangeShapes Go.WideShapes Go.ChangeAt Go.RowKit RefP CellP MemP Dp
set_option linter.unusedVariables false
set_option linter.unusedSimpArgs false
/-- a row of one access -/
theorem one_row {w : World} {b : Nat} {q : BlockH} {x : AccV} {T : TypeId} (B : Blk w b (acc26 q x).toArray T) (h : accT.rep w [] (acc26 q x) x) : RowRep accT w [] (some ⟨b, 0, none⟩) [x] := by
  intro _
  refine ⟨b, 0, rfl, B.lt, by simp, fun i y hy => ?_⟩
  have hi : i = 0 := by
    by_cases e : i = 0
    · exact e
    · rw [List.getElem?_eq_none (by simp; omega)] at hy; cases hy
  subst hi
  simp at hy
  subst hy
  refine ⟨_, h, fun j v hj => ?_⟩
  simp only [Nat.zero_mul, Nat.zero_add]
  exact B.at j (by rw [List.getElem?_toArray]; exact hj)
abbrev zmA : Array Value := #[.pointer none, .int .i64 0, .int .i64 0, .int .i64 0, .int .i64 0, .int .i64 0, .int .i64 0, .int .i64 0, .int .i64 0, .slice none 0 0, .slice none 0 0]
set_option maxRecDepth 100000 in
set_option maxHeartbeats 6400000 in
theorem walk (q : BlockH) (x : AccV) (w : World) (hx : accT.rep w [] (acc26 q x) x) (hok : AccOk w [] q x) :
    Calls Try.prog 3 #[.agg (acc26 q x).toArray] w fun e w' => e = .returned (.bool true) ∧ Below w.heap.size w w' := by
  have hW : U64 x.word := hok.word
  obtain ⟨x0, x1⟩ := hW
  have hb2 : Below w.heap.size w ((w.alloc (.cells (acc26 q x).toArray 39)).alloc (.cells (acc26 q x).toArray 39)) := by (repeat (first | exact Below.refl _ _ | assumption | refine below_alloc2 ?_ (by first | exact Nat.le_refl _ | omega) _ | refine Below.drew ?_ | refine below_drewN ?_ _ | refine below_push2 ?_ ‹_› (by first | exact Nat.le_refl _ | omega) | refine Below.setCell ?_ (by first | (simp; done) | (simp; omega) | omega) _))
  have BX := (Blk.new w (acc26 q x).toArray 39).alloc (.cells (acc26 q x).toArray 39)
  have BY : Blk ((w.alloc (.cells (acc26 q x).toArray 39)).alloc (.cells (acc26 q x).toArray 39)) (w.heap.size + 1) (acc26 q x).toArray 39 := by
    have := Blk.new (w.alloc (.cells (acc26 q x).toArray 39)) (acc26 q x).toArray 39
    simpa using this
  have hrow := one_row BY (accT.keep hx (Keeps.of_below hb2))
  have hl := light_any [] (some ⟨w.heap.size + 1, 0, none⟩) 1 [x] _ hrow (by simp)
  clear hrow BY
  go_enter Try.func3, Try.ntmps3
  go_wp2_with (refine wpList_load_row rfl 39 _ rfl w.heap.size rfl 39 _ (0, 0) _ (Blk.new w (acc26 q x).toArray 39).h Try.underlying39 rfl (by kernel_rfl) ?_)
  refine hl.mono ?_
  rintro e w1 ⟨rfl, hb1⟩
  have hB1 := below_push2 hb2 hb1 (Nat.le_refl _)
  have BX1 := BX.below hb1
  clear hl hb2 BX hb1
  cases hL : lightL [x]
  · go_wp2_with fail
    refine (lives_any _).mono ?_
    rintro e w2 ⟨rfl, hb2⟩
    go_wp2_with fail
    go_ret
    exact ⟨rfl, below_push2 hB1 hb2 (Nat.le_refl _)⟩
  · have NM : NoMem (w1.alloc (.cells zmA 48)) w1.heap.size := NoMem.mk' (Blk.new w1 zmA 48) rfl
    have hB2 := below_alloc2 hB1 (Nat.le_refl _) (.cells zmA 48)
    have BX2 := BX1.alloc (.cells zmA 48)
    generalize hW : w1.alloc (.cells zmA 48) = w2 at NM hB2 BX2
    clear hB1 BX1
    go_wp2_with (first
      | (refine wpList_load_row rfl 39 _ rfl w.heap.size rfl 39 _ (0, 0) _ BX2.h Try.underlying39 rfl (by kernel_rfl) ?_)
      | (rw [hW]))
    refine (do_zero _ x.kind x.at_ x.ver x.word _ _ _ _ _ _ _ _ _ _ _ _ _ _ _ _ _ _ _ _ _ _ _ NM).mono ?_
    rintro e w3 ⟨rfl, hb3⟩
    have NM4 := (NM.below hb3).below ((Below.refl _ w3).alloc (Nat.le_refl _) (.cells #[.bool false, .int .u64 0, .int .u64 0, .int .i64 0, .int .i64 0, .string ⟨#[]⟩, .string ⟨#[]⟩, .bool false, .int .i64 0, .slice none 0 0, .slice none 0 0, .slice none 0 0, .int .i64 0, .int .i64 0, .string ⟨#[]⟩, .int .u64 0, .slice none 0 0, .slice none 0 0, .slice none 0 0, .slice none 0 0, .int .i64 0, .string ⟨#[]⟩, .string ⟨#[]⟩, .int .u64 0, .int .i64 0] 50))
    have hB4 := below_alloc2 (below_push2 hB2 hb3 (Nat.le_refl _)) (Nat.le_refl _) (.cells #[.bool false, .int .u64 0, .int .u64 0, .int .i64 0, .int .i64 0, .string ⟨#[]⟩, .string ⟨#[]⟩, .bool false, .int .i64 0, .slice none 0 0, .slice none 0 0, .slice none 0 0, .int .i64 0, .int .i64 0, .string ⟨#[]⟩, .int .u64 0, .slice none 0 0, .slice none 0 0, .slice none 0 0, .slice none 0 0, .int .i64 0, .string ⟨#[]⟩, .string ⟨#[]⟩, .int .u64 0, .int .i64 0] 50)
    have BX4 := (BX2.below hb3).alloc (.cells #[.bool false, .int .u64 0, .int .u64 0, .int .i64 0, .int .i64 0, .string ⟨#[]⟩, .string ⟨#[]⟩, .bool false, .int .i64 0, .slice none 0 0, .slice none 0 0, .slice none 0 0, .int .i64 0, .int .i64 0, .string ⟨#[]⟩, .int .u64 0, .slice none 0 0, .slice none 0 0, .slice none 0 0, .slice none 0 0, .int .i64 0, .string ⟨#[]⟩, .string ⟨#[]⟩, .int .u64 0, .int .i64 0] 50)
    have BR4 := Blk.new w3 #[.bool false, .int .u64 0, .int .u64 0, .int .i64 0, .int .i64 0, .string ⟨#[]⟩, .string ⟨#[]⟩, .bool false, .int .i64 0, .slice none 0 0, .slice none 0 0, .slice none 0 0, .int .i64 0, .int .i64 0, .string ⟨#[]⟩, .int .u64 0, .slice none 0 0, .slice none 0 0, .slice none 0 0, .slice none 0 0, .int .i64 0, .string ⟨#[]⟩, .string ⟨#[]⟩, .int .u64 0, .int .i64 0] 50
    clear NM hB2 BX2 hb3 hW
    generalize hW : w3.alloc (.cells #[.bool false, .int .u64 0, .int .u64 0, .int .i64 0, .int .i64 0, .string ⟨#[]⟩, .string ⟨#[]⟩, .bool false, .int .i64 0, .slice none 0 0, .slice none 0 0, .slice none 0 0, .int .i64 0, .int .i64 0, .string ⟨#[]⟩, .int .u64 0, .slice none 0 0, .slice none 0 0, .slice none 0 0, .slice none 0 0, .int .i64 0, .string ⟨#[]⟩, .string ⟨#[]⟩, .int .u64 0, .int .i64 0] 50) = w4 at NM4 hB4 BX4 BR4
    replace hW := Lib.hid hW
    have b3 : w4.cell? ⟨w.heap.size, 3, none⟩ = some (.int .u64 x.word) := BX4.at 3 rfl
    go_wp2_with (refine wpList_store_row rfl 50 _ _ rfl _ _ rfl rfl 50 _ (Blk.new w3 _ _).h (by kernel_rfl) (by rfl) (by kernel_rfl) ?_; rw [World.setRow_alloc_new, hW.out])
    clear b3
    refine (block_zero _ x.word _ NM4 x0 x1).mono ?_
    rintro e w5 ⟨rfl, hb5⟩
    have NM6 := (NM4.below hb5).below ((Below.refl _ w5).alloc (Nat.le_refl _) (.cells zbA 35))
    have hB6 := below_alloc2 (below_push2 hB4 hb5 (Nat.le_refl _)) (Nat.le_refl _) (.cells zbA 35)
    have BX6 := (BX4.below hb5).alloc (.cells zbA 35)
    have BR6 := (BR4.below hb5).alloc (.cells zbA 35)
    clear NM4 hB4 BX4 hb5 hW
    generalize hW : w5.alloc (.cells zbA 35) = w6 at NM6 hB6 BX6 BR6
    replace hW := Lib.hid hW
    have b1 : w6.cell? ⟨w.heap.size, 1, none⟩ = some (.int .i64 x.at_) := BX6.at 1 rfl
    have r0 : w6.cell? ⟨w3.heap.size, 0, none⟩ = some (.bool false) := BR6.at 0 rfl
    clear BX6 BR6
    go_wp2_with (refine wpList_store_row rfl 35 _ _ rfl _ _ rfl rfl 35 _ (Blk.new w5 _ _).h (by kernel_rfl) (by rfl) (by kernel_rfl) ?_; rw [World.setRow_alloc_new, hW.out])
    refine (mload_zero _ x.at_ _ NM6).mono ?_
    rintro e w7 ⟨rfl, rfl⟩
    clear b1 hW
    go_wp2_with fail
    refine (mlen_zero _ _ NM6).mono ?_
    rintro e w7 ⟨rfl, rfl⟩
    go_wp2_with fail
    refine (arena_zero _ _ NM6).mono ?_
    rintro e w7 ⟨rfl, rfl⟩
    go_wp2_with fail
    refine (threads_zero _ _ NM6).mono ?_
    rintro e w7 ⟨rfl, rfl⟩
    go_wp2_with fail
    refine (gate_zero _ _ NM6).mono ?_
    rintro e w7 ⟨rfl, hb7⟩
    have NM7 := NM6.below hb7
    have hB7 := below_push2 hB6 hb7 (Nat.le_refl _)
    clear NM6 hB6 hb7 r0
    go_wp2_with fail
    refine (haz_zero _ _ NM7).mono ?_
    rintro e w8 ⟨rfl, rfl⟩
    go_wp2_with fail
    refine (muse_zero _ 0 _ NM7).mono ?_
    rintro e w8 ⟨rfl, hb8⟩
    have hB8 := below_push2 hB7 hb8 (Nat.le_refl _)
    clear NM7 hB7 hb8
    go_wp2_with fail
    refine (lives_any _).mono ?_
    rintro e w9 ⟨rfl, hb9⟩
    go_wp2_with fail
    go_ret
    exact ⟨rfl, below_push2 hB8 hb9 (Nat.le_refl _)⟩

set_option maxRecDepth 100000 in
theorem contract (H : Type) (enc : TypeId × Value → H) (W : World) (base : Nat) (args : Array Value) (ds : List (DataW H)) (p : List MemPlace)
    (hval : ∀ (j : Nat) t v, Try.f3.params[j]? = some t → args[j]? = some v → Value.okWide Try.prog W .any base t v)
    (hA : DataW.TrodAll enc Try.prog W 0 (fun _ => true) true Try.f3.params.toList args.toList ds p) :
    Calls Try.prog 3 args W fun e W' => e = .returned (.bool true) ∧ Below W.heap.size W W' := by
  rw [Try.params3] at hA hval
  obtain ⟨v0, vs0, d0, ds0, p0, q0, hargs, rfl, rfl, h0, r0⟩ := trodAll_cons hA
  obtain ⟨rfl, rfl, rfl⟩ := trodAll_nil r0
  obtain rfl : args = #[v0] := by cases args; simp_all
  obtain ⟨cs, x, rfl, hx⟩ := opens_agg (ox_opens op_acc) Try.underlying39 (hval 0 39 v0 rfl rfl) h0
  obtain ⟨q, hcs, hok⟩ := accT_of hx
  have hcs' : cs.toList = acc26 q x := hcs
  obtain rfl : cs = (acc26 q x).toArray := by rw [← hcs']
  exact walk q x W hx hok

/-! THE ROW's STEP -/
set_option maxRecDepth 100000 in
theorem lifted (os : Os) (started : os.Started) (H : Type) (enc : TypeId × Value → H) :
    ReturnsInHanded {} Try.checked os 3 .any (Rows.memoryNobodySpec.pre6 enc Try.prog Try.f3 Rows.memoryNobodyRow.domain false) (Rows.memoryNobodySpec.post enc Try.prog Try.f3 false true false false) := by
  refine returnsInHanded_of_change (C := Try.checked) Lift.own started (by kernel_rfl) Try.func3
    (ChangeSpec.witness6 (enc := enc) (C := Try.checked) false ⟨#[], #[.agg #[.int .i64 0, .int .i64 0, .int .u64 0, .int .u64 0, .int .i64 0, .int .i64 0, .string ⟨#[]⟩, .string ⟨#[]⟩, .bool false, .int .i64 0, .slice none 0 0, .slice none 0 0, .slice none 0 0, .int .i64 0, .int .i64 0, .string ⟨#[]⟩, .int .u64 0, .slice none 0 0, .slice none 0 0, .slice none 0 0, .slice none 0 0, .int .i64 0, .string ⟨#[]⟩, .string ⟨#[]⟩, .int .u64 0, .int .i64 0]], []⟩ 8 (by kernel_rfl) (by kernel_rfl) (by kernel_rfl) (by kernel_rfl)) ?_
  intro W base args ds gs before hval0 hW hcnd _
  have hval : ∀ (j : Nat) t v, Try.f3.params[j]? = some t → args[j]? = some v → Value.okWide Try.prog W .any base t v := hval0
  have hW' := hW
  obtain ⟨p, q, hA0, hV, rfl, hfz, hnd⟩ := hW
  have hA : DataW.TrodAll enc Try.prog W 0 (fun _ => true) true Try.f3.params.toList args.toList ds p := hA0
  have hlen : ds.length = 1 := by
    have hl := Lift.trodAll_len _ _ _ _ hA
    rw [Try.params3] at hl
    simpa using hl
  have hall := fun W' (hb : Below W.heap.size W W') => Lift.trodAll_below Lift.laidOut hb Try.f3.params.toList args.toList ds p (by kernel_rfl) hA
  obtain ⟨rfl, rfl⟩ := trodVars_none hV
  refine (contract H enc W base args ds p hval hA).mono fun e W' ⟨he, bel⟩ => ?_
  subst he
  have hspec : (Rows.memoryNobodySpec.fn H (ds ++ [])).results = [.lit (.bool true)] ∧ (Rows.memoryNobodySpec.fn H (ds ++ [])).args = ds ∧ (Rows.memoryNobodySpec.fn H (ds ++ [])).vars = [] := by
    match ds, hlen with
    | [d1], _ => exact ⟨rfl, rfl, rfl⟩
  exact ⟨_, rfl, _, _, _, [], _, [], hW', by rw [hspec.1]; exact trodAll_mk1 (shut_bool Try.underlying4 _), by rw [hspec.2.1]; exact hall W' bel, by rw [hspec.2.2]; rfl, bel.frame _, fun h => by cases h⟩

theorem over : Rows.memoryNobodyRow.holds Try.pinned (OpenSpec.ofChange Rows.memoryNobodySpec) :=
  OpenClaim.holds_of_wide 3 Try.f3 rfl rfl rfl rfl rfl rfl rfl ⟨rfl, rfl, rfl, rfl, rfl⟩ rfl rfl rfl rfl rfl (by kernel_rfl) Try.func3 (by kernel_rfl)
    (of_decide_eq_true (by kernel_rfl)) (by unfold Func.isWrapper; first | (rw [if_pos (by decide +kernel)]; kernel_rfl) | (rw [if_neg (by decide +kernel)]; exact ⟨rfl, rfl⟩))
    (fun os started H enc _ => lifted os started H enc)

theorem proved : Rows.MemoryNobodySaid := over
#print axioms proved
end Go.Proofs.Ytpmlbdnhgeeaoaa.memoryNobody
