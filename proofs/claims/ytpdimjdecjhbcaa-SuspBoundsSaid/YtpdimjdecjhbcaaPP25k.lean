/- Plain Lean: what the laws of this program's functions come to, in numbers and lists; no program is run here. -/
import Derived.Test.YtpdimjdecjhbcaaPP25t
set_option linter.unusedVariables false
set_option linter.unusedSimpArgs false
set_option maxRecDepth 100000
namespace Go.Proofs.Ytpdimjdecjhbcaa
open Go Go.Ab Go.Proofs Go.IntWalk
/- BrakeWhirl in plain Lean (r24). -/
def turnS (o : Bool) (a b t : Int) : Bool × Int := mulS (divS o a b).1 (divS o a b).2 t
def clampV (a lo hi : Int) : Int := if a < lo then lo else if a > hi then hi else a
def driveS (o : Bool) (w a b t : Int) : Bool × Int := ((addS (turnS o a b t).1 w (turnS o a b t).2).1, clampV (addS (turnS o a b t).1 w (turnS o a b t).2).2 (-17592186044416) 17592186044416)
def slowS (o : Bool) (w a b t : Int) : Bool × Int :=
  let p := turnS o a b t
  let q := absS p.1 p.2
  let r := absS q.1 w
  if r.2 ≤ q.2 then (r.1, 0) else if w < 0 then addS r.1 w q.2 else subS r.1 w q.2
theorem turnS_r (o : Bool) (a b t : Int) : I64 (turnS o a b t).2 := mulS_r _ _ _
theorem clamp37 (x : Int × Int × Int × Unit) : fn15 x = some (clampV x.1 x.2.1 x.2.2.1, ()) := by
  unfold fn15 law15 clampV
  by_cases h1 : x.1 < x.2.1 <;> by_cases h2 : x.1 > x.2.2.1 <;> simp [h1, h2]
theorem clamp40 (x : Int × Int × Int × Unit) : fn22 x = some (clampV x.1 x.2.1 x.2.2.1, ()) := by
  unfold fn22 law22 clampV
  by_cases h1 : x.1 < x.2.1 <;> by_cases h2 : x.1 > x.2.2.1 <;> simp [h1, h2]
theorem driveS_r (o : Bool) (w a b t : Int) : I64 (driveS o w a b t).2 := by
  unfold driveS clampV I64
  simp only
  split
  · exact ⟨by decide, by decide⟩
  · split
    · exact ⟨by decide, by decide⟩
    · omega
def whirlS (o : Bool) (w : Whl) (n a b s t : Int) : Bool × Int :=
  let p := mulS o b (w.snd.fst)
  let q := subS p.1 a p.2
  let r := driveS q.1 n q.2 (w.snd.snd.fst) t
  slowS r.1 r.2 s (w.snd.snd.fst) t
def wheelOf (c : Car) (i : Int) : Whl := if i = 0 then (c.snd.snd.fst).fst else if i = 1 then (c.snd.snd.fst).snd.fst else if i = 2 then (c.snd.snd.fst).snd.snd.fst else (c.snd.snd.fst).snd.snd.snd.fst
end Go.Proofs.Ytpdimjdecjhbcaa
