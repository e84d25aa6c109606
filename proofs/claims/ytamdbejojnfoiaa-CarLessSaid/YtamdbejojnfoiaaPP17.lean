/- Plain Lean: what the laws of this program's functions come to, in numbers and lists; no program is run here. -/
import Derived.Test.YtamdbejojnfoiaaPP17g
set_option linter.unusedVariables false
set_option linter.unusedSimpArgs false
set_option maxRecDepth 100000
namespace Go.Proofs.Ytamdbejojnfoiaa
open Go Go.Ab Go.Proofs Go.IntWalk
/- What the rows ask for (r17). -/
theorem true3o (y : Sh.Ts [CarSh]) (hy : Sh.oks [CarSh] y) : fn3 y = some (true, ()) :=
  have h1 := hy.1.2.2.2.2.2.2.2.2.2.2.2.2.2.2.2.2.2.2.2.2.2.2.2.1
  have h2 := hy.1.2.2.2.2.2.2.2.2.2.2.2.2.2.2.2.2.2.2.2.2.2.2.2.2.1
  true3 y.1 ⟨h1.1, Int.lt_of_le_of_lt h1.2 (by decide)⟩ ⟨h2.1, Int.lt_of_le_of_lt h2.2 (by decide)⟩
theorem true5o (y : Sh.Ts [CarSh, .int .i64]) (hy : Sh.oks [CarSh, .int .i64] y) : fn5 y = some (true, ()) :=
  have h1 := hy.1.2.2.2.2.2.2.2.2.2.2.2.2.2.2.2.2.2.2.2.2.2.2.2.1
  have h2 := hy.1.2.2.2.2.2.2.2.2.2.2.2.2.2.2.2.2.2.2.2.2.2.2.2.2.1
  true5 y.1 y.2.1 ⟨h1.1, Int.lt_of_le_of_lt h1.2 (by decide)⟩ ⟨h2.1, Int.lt_of_le_of_lt h2.2 (by decide)⟩
end Go.Proofs.Ytamdbejojnfoiaa
