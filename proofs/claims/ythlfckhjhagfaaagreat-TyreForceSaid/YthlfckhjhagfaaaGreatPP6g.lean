/- Plain Lean: what the laws of this program's functions come to, in numbers and lists; no program is run here. -/
import Derived.Test.YthlfckhjhagfaaaGreatPP6f
set_option linter.unusedVariables false
set_option linter.unusedSimpArgs false
set_option maxRecDepth 100000
namespace Go.Proofs.YthlfckhjhagfaaaGreat
open Go Go.Ab Go.Proofs Go.IntWalk
theorem true3o (y : Sh.Ts [CarSh, .st [.int .i64, .int .i64, .int .i64, .int .i64]]) (hy : Sh.oks [CarSh, .st [.int .i64, .int .i64, .int .i64, .int .i64]] y) : fn3 y = some (true, ()) := by
  have hok : OkC y.1 := okC hy.1
  have h1 : I64 y.2.1.1 := hy.2.1.1
  have h2 : I64 y.2.1.2.1 := hy.2.1.2.1
  have h3 : I64 y.2.1.2.2.1 := hy.2.1.2.2.1
  have h4 : I64 y.2.1.2.2.2.1 := hy.2.1.2.2.2.1
  obtain ⟨bb, hb, hf⟩ := ex4 y.1 hok.steer hok.rate
  show law3 y = _
  unfold law3
  cases bb
  · exact (bindT hb).trans rfl
  have hf := hf rfl
  refine (bindT hb).trans ((bifF rfl).trans ?_)
  refine (bindT (grip5 false (y.1, y.2.1.1, y.2.1.2.2.1, ()) hf.pane hok.tyre h1 h3)).trans ((bindT (grip6 false (y.1, y.2.1.1, y.2.1.2.2.1, ()) hf.pane hok.tyre h1 h3)).trans ?_)
  refine (bifF (by simp)).trans ((bifF (by simp)).trans ?_)
  obtain ⟨r, e7, e8⟩ := force78 (gripS false y.1.2.2.2.2.2.1 y.2.1.1 y.2.1.2.2.1).1 (y.1, y.2.1.1, y.2.1.2.1, y.2.1.2.2.1, y.2.1.2.2.2.1, ()) hf.pane hok.tyre hok.i8 h1 h2 h3 h4
  refine (bindT e7).trans ((bindT e8).trans ?_)
  exact (bifT (by simp)).trans ((bifT (by simp)).trans (bifT (by simp)))
end Go.Proofs.YthlfckhjhagfaaaGreat
