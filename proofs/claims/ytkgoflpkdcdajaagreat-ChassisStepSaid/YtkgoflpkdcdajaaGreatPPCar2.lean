/- Plain Lean: what the laws of this program's functions come to, in numbers and lists; no program is run here. -/
import Derived.Test.YtkgoflpkdcdajaaGreatPPCar
set_option linter.unusedVariables false
set_option linter.unusedSimpArgs false
set_option maxRecDepth 100000
namespace Go.Ab
open Go Go.IntWalk
abbrev V3 : Type := (Int × Int × Int × Unit)
abbrev Whl : Type := (V3 × Int × Int × Int × Int × Int × Bool × Bool × Unit)
abbrev Car : Type := (Int × V3 × (Whl × Whl × Whl × Whl × Unit) × (Int × Int × Unit) × List Dot × Pan × List Dot × List Dot × Int × Int × Int × Int × Int × Int × Int × Int × List Int × Int × Int × Int × Int × Int × Int × Int × Int × Int × Int × Int × Int × Int × Int × Int × Unit)
structure FewP (p : Pan) : Prop where
  xs : p.1.length ≤ 40
  ys : p.2.1.length ≤ 40
  rows : p.2.2.1.length ≤ 40
  row : ∀ r ∈ p.2.2.1, r.length ≤ 40
structure FewC (c : Car) : Prop where
  damper : List.length (c.snd.snd.snd.snd.fst) ≤ 40
  pane : FewP (c.snd.snd.snd.snd.snd.fst)
  torque : List.length (c.snd.snd.snd.snd.snd.snd.fst) ≤ 40
  air : List.length (c.snd.snd.snd.snd.snd.snd.snd.fst) ≤ 40
  gears : List.length (c.snd.snd.snd.snd.snd.snd.snd.snd.snd.snd.snd.snd.snd.snd.snd.snd.fst) ≤ 20
  steer : 0 ≤ (c.snd.snd.snd.snd.snd.snd.snd.snd.snd.snd.snd.snd.snd.snd.snd.snd.snd.snd.snd.snd.snd.snd.snd.fst : Int) ∧ (c.snd.snd.snd.snd.snd.snd.snd.snd.snd.snd.snd.snd.snd.snd.snd.snd.snd.snd.snd.snd.snd.snd.snd.fst : Int) < 4294967296
  rate : 0 ≤ (c.snd.snd.snd.snd.snd.snd.snd.snd.snd.snd.snd.snd.snd.snd.snd.snd.snd.snd.snd.snd.snd.snd.snd.snd.fst : Int) ∧ (c.snd.snd.snd.snd.snd.snd.snd.snd.snd.snd.snd.snd.snd.snd.snd.snd.snd.snd.snd.snd.snd.snd.snd.snd.fst : Int) < 4294967296
end Go.Ab
