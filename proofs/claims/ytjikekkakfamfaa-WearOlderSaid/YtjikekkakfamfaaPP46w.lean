/- Plain Lean: what the laws of this program's functions come to, in numbers and lists; no program is run here. -/
import Derived.Test.YtjikekkakfamfaaPP46d
set_option linter.unusedVariables false
set_option linter.unusedSimpArgs false
set_option maxRecDepth 100000
namespace Go.Proofs.Ytjikekkakfamfaa
open Go Go.Ab Go.Proofs Go.IntWalk
/- car.Right in plain Lean (r17), second half. -/
theorem u32_i64 (a : Int) (h : 0 ≤ a ∧ a < 4294967296) : IntKind.i64.wrap a = a := i64_in _ (by omega)
theorem bytes8 : Try.prog.types[22].bytes = 8 := by kernel_rfl
end Go.Proofs.Ytjikekkakfamfaa
