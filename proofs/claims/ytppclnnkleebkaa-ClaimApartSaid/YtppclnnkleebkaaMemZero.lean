/-
  A memory that no call made: named, Block, Hazard: contracts.
-/
import Derived.Test.YtppclnnkleebkaaMemLives
import Derived.Test.YtppclnnkleebkaaRefOpen
namespace Go.Proofs.Ytppclnnkleebkaa.MemP
open Go.RowKit RefP CellP
set_option linter.unusedVariables false
set_option linter.unusedSimpArgs false
set_option maxHeartbeats 1600000 in
theorem named_zero (o : Nat) (x : Int) (w : World) (h : NoMem w o) (x0 : 0 ≤ x) (x1 : x ≤ 18446744073709551615) : Calls Try.prog 36 #[.pointer (some ⟨o, 0, none⟩), .int .u64 x] w fun e w' => e = .returned (.tuple #[.int .i64 0, .bool false]) ∧ Below w.heap.size w w' := by
  have hp := (open_bounds x).1
  have q1 : decide ((0 : Int) ≤ openP x) = true := by simpa using hp
  cases ho : opensB x
  · go_enter Try.func36, Try.ntmps36
    go_wp2_with fail
    refine (open_any _ _ x0 x1).mono ?_
    rw [ho]
    rintro e w1 ⟨rfl, hb1⟩
    go_wp2_with fail
    go_ret2
    exact ⟨rfl, hb1⟩
  · go_enter Try.func36, Try.ntmps36
    go_wp2_with fail
    refine (open_any _ _ x0 x1).mono ?_
    rw [ho]
    rintro e w1 ⟨rfl, hb1⟩
    go_wp2_with fail
    refine (arena_zero _ _ (h.below hb1)).mono ?_
    rintro e w2 ⟨rfl, rfl⟩
    go_wp2_with fail
    go_ret2
    exact ⟨rfl, hb1⟩
abbrev zbA : Array Value := #[.int .i64 0, .int .i64 0, .string ⟨#[]⟩, .string ⟨#[]⟩, .bool false, .int .i64 0, .slice none 0 0, .slice none 0 0, .slice none 0 0, .int .i64 0, .int .i64 0, .string ⟨#[]⟩, .int .u64 0, .slice none 0 0, .slice none 0 0, .slice none 0 0, .slice none 0 0]
theorem results_cell_tmp {P : Program} {fn : Func} {p q : Tmp} {ty : TypeId} (h : fn.results = #[.cell p ty, .tmp q]) (tmps : Array Value) (w : World) (g : Nat) (t : TypeId) (cs : Array Value) (fr : Nat × Nat) (d : TypeDesc)
    (v : Value) (hv : tmps.getD q undef = v) (hp : tmps.getD p undef = .pointer (some ⟨g, 0, none⟩)) (hg : w.heap[g]? = some (.cells cs t fr))
    (hu : P.underlying ty = some d) (hd : (match d with | .struct _ | .array _ _ => true | _ => false) = true) (hi : (P.info? ty).map (·.size) = some cs.size) :
    (results fn tmps).run P w = .ok (.tuple #[.agg cs, v]) w := by
  subst hv
  have hp' : tmps[p]?.getD undef = .pointer (some ⟨g, 0, none⟩) := by simpa using hp
  simp [results, h, hp', asAddr, run_loadVar_row w g t ty cs fr d hg hu hd hi]
set_option maxRecDepth 100000 in
set_option maxHeartbeats 1600000 in
theorem block_zero (o : Nat) (x : Int) (w : World) (h : NoMem w o) (x0 : 0 ≤ x) (x1 : x ≤ 18446744073709551615) : Calls Try.prog 35 #[.pointer (some ⟨o, 0, none⟩), .int .u64 x] w fun e w' => e = .returned (.tuple #[.agg zbA, .bool false]) ∧ Below w.heap.size w w' := by
  have hb0 : Below w.heap.size w (w.alloc (.cells zbA 44)) := by (repeat (first | exact Below.refl _ _ | assumption | refine below_alloc2 ?_ (by first | exact Nat.le_refl _ | omega) _ | refine Below.drew ?_ | refine below_drewN ?_ _ | refine below_push2 ?_ ‹_› (by first | exact Nat.le_refl _ | omega) | refine Below.setCell ?_ (by first | (simp; done) | (simp; omega) | omega) _))
  go_enter Try.func35, Try.ntmps35
  go_wp2_with fail
  refine (named_zero _ _ _ (h.below hb0) x0 x1).mono ?_
  rintro e w1 ⟨rfl, hb1⟩
  have hB1 := below_push2 hb0 hb1 (Nat.le_refl _)
  have BR := (Blk.new w zbA 44).below hb1
  go_wp2_with (refine wpList_store_row rfl 44 _ _ rfl w.heap.size _ rfl rfl 44 _ BR.h (by kernel_rfl) (by rfl) (by kernel_rfl) ?_)
  refine bodyPost_ret (v := .tuple #[.agg zbA, .bool false]) (results_cell_tmp rfl _ _ w.heap.size 44 zbA (0, 0) _ (.bool false) rfl rfl (Blk.row BR zbA).h Try.underlying44 rfl (by kernel_rfl)) rfl ⟨rfl, below_setRow hB1 (by omega) _⟩
end Go.Proofs.Ytppclnnkleebkaa.MemP
