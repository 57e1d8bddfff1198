/-
  carry: a task that is none: contracts.
-/
import Derived.Test.YtppclnnkleebkaaMemZero
import Derived.Test.YtppclnnkleebkaaRefGate
namespace Go.Proofs.Ytppclnnkleebkaa.MemP
open Go.RowKit RefP CellP
set_option linter.unusedVariables false
set_option linter.unusedSimpArgs false
/-- an access without a block and an operation -/
abbrev accY (k i ver word : Int) : Array Value := #[.int .i64 k, .int .i64 i, .int .u64 ver, .int .u64 word, .int .i64 0, .int .i64 0, .string ⟨#[]⟩, .string ⟨#[]⟩, .bool false, .int .i64 0, .slice none 0 0, .slice none 0 0, .slice none 0 0, .int .i64 0, .int .i64 0, .string ⟨#[]⟩, .int .u64 0, .slice none 0 0, .slice none 0 0, .slice none 0 0, .slice none 0 0, .int .i64 0, .string ⟨#[]⟩, .string ⟨#[]⟩, .int .u64 0, .int .i64 0]
abbrev carA (m : Option Addr) (hp s t x ver at_ : Int) (st : Value) (done : Int) (tu en : Bool) : Array Value := #[.pointer m, .int .i64 hp, .int .i64 s, .int .i64 t, .int .u64 x, .int .u64 ver, .int .i64 at_, st, .int .u64 done, .bool tu, .bool en]
theorem setCell_self {w : World} {b i : Nat} {cs : Array Value} {T : TypeId} (h : Blk w b cs T) {v : Value} (hv : cs[i]? = some v) : w.setCell ⟨b, i, none⟩ v = w := by
  have e : cs.setIfInBounds i v = cs := by
    apply Array.ext_getElem?
    intro k
    rw [Array.getElem?_setIfInBounds]
    split
    · rename_i hk
      subst hk
      split
      · exact hv.symm
      · rename_i hn
        rw [Array.getElem?_eq_none (by omega)] at hv; cases hv
    · rfl
  have e2 : ∀ f : Obj → Obj, f (.cells cs T (0, 0)) = .cells cs T (0, 0) → w.heap.modify b f = w.heap := by
    intro f hf
    apply Array.ext_getElem?
    intro k
    rw [Array.getElem?_modify]
    split
    · rename_i hk
      subst hk
      rw [h.h]; simp [hf]
    · rfl
  unfold World.setCell
  rw [e2 _ (by simp [e])]
theorem shut_low {s t x : Int} (h : (shutI s t x == 18446744073709551615) = false) (x0 : 0 ≤ x) : 0 ≤ s ∧ s ≤ 3 := by
  cases hg : gateB s t x
  · rw [shutI_no hg, topW_eq] at h; simp at h
  · have := gateB_bounds hg x0; omega
end Go.Proofs.Ytppclnnkleebkaa.MemP
