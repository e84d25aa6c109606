/- Plain Lean: what the laws of this program's functions come to, in numbers and lists; no program is run here. -/
import Derived.Test.YtkgoflpkdcdajaaGreatPP28x
set_option linter.unusedVariables false
set_option linter.unusedSimpArgs false
set_option maxRecDepth 100000
namespace Go.Proofs.YtkgoflpkdcdajaaGreat
open Go Go.Ab Go.Proofs
/- The document's root, bit by bit, in plain Lean (r28). -/
theorem bindT' {α β : Type} {o : Option α} {v : α} {f : α → Option β} (h : o = some v) : Option.bind o f = f v := by subst h; rfl
end Go.Proofs.YtkgoflpkdcdajaaGreat
