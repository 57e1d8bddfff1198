/-
  The example of chapter 26 is true.
-/
import Derived.Test.YtppclnnkleebkaaMemDoW
import Derived.Deep.WholeRow
namespace Go.Proofs.Ytppclnnkleebkaa.MemP
open Go.RowKit RefP CellP
set_option linter.unusedVariables false
set_option linter.unusedSimpArgs false
/-- a reply is kept in a variable of its own -/
theorem rep_ok (a : Bool) (b c : Int) (W : World) : (Instr.field 53 (.agg #[.bool a, .int .u64 b, .int .u64 c, .int .i64 0, .int .i64 0, .string ⟨#[]⟩, .string ⟨#[]⟩, .bool false, .int .i64 0, .slice none 0 0, .slice none 0 0, .slice none 0 0, .int .i64 0, .int .i64 0, .string ⟨#[]⟩, .int .u64 0, .slice none 0 0, .slice none 0 0, .slice none 0 0, .slice none 0 0, .int .i64 0, .string ⟨#[]⟩, .string ⟨#[]⟩, .int .u64 0, .int .i64 0]) 0).run Try.prog W = .ok (.bool a) W := by kernel_rfl
theorem rep_word (a : Bool) (b c : Int) (W : World) : (Instr.field 53 (.agg #[.bool a, .int .u64 b, .int .u64 c, .int .i64 0, .int .i64 0, .string ⟨#[]⟩, .string ⟨#[]⟩, .bool false, .int .i64 0, .slice none 0 0, .slice none 0 0, .slice none 0 0, .int .i64 0, .int .i64 0, .string ⟨#[]⟩, .int .u64 0, .slice none 0 0, .slice none 0 0, .slice none 0 0, .slice none 0 0, .int .i64 0, .string ⟨#[]⟩, .string ⟨#[]⟩, .int .u64 0, .int .i64 0]) 1).run Try.prog W = .ok (.int .u64 b) W := by kernel_rfl
theorem rep_ver (a : Bool) (b c : Int) (W : World) : (Instr.field 53 (.agg #[.bool a, .int .u64 b, .int .u64 c, .int .i64 0, .int .i64 0, .string ⟨#[]⟩, .string ⟨#[]⟩, .bool false, .int .i64 0, .slice none 0 0, .slice none 0 0, .slice none 0 0, .int .i64 0, .int .i64 0, .string ⟨#[]⟩, .int .u64 0, .slice none 0 0, .slice none 0 0, .slice none 0 0, .slice none 0 0, .int .i64 0, .string ⟨#[]⟩, .string ⟨#[]⟩, .int .u64 0, .int .i64 0]) 2).run Try.prog W = .ok (.int .u64 c) W := by kernel_rfl
theorem ex1 : casB (freshL 4 2 0) 18 0 = true := by decide +kernel
theorem ex2 : casB (casL (freshL 4 2 0) 18 0 5) 18 0 = false := by decide +kernel
theorem ex3 : loadW (casL (freshL 4 2 0) 18 0 5) 18 = 5 := by decide +kernel
theorem ex4 : (casL (freshL 4 2 0) 18 0 5).length = 19 := by decide +kernel
theorem ex5 : gateI 4 2 = 18 := by decide
end Go.Proofs.Ytppclnnkleebkaa.MemP
