/- Plain Lean: what the laws of this program's functions come to, in numbers and lists; no program is run here. -/
import Derived.Test.YtkobnmpilcpojaaGreatPP7g
set_option linter.unusedVariables false
set_option linter.unusedSimpArgs false
set_option maxRecDepth 100000
namespace Go.Proofs.YtkobnmpilcpojaaGreat
open Go Go.Ab Go.Proofs Go.IntWalk
theorem okV64 {v : V3T} (h : Sh.ok V3Sh v) : V64 v := ⟨h.1, h.2.1, h.2.2.1⟩
theorem true3o (y : Sh.Ts [CarSh, RestSh]) (hy : Sh.oks [CarSh, RestSh] y) : fn3 y = some (true, ()) := by
  have hok : OkC y.1 := okC hy.1
  have hr := hy.2.1
  obtain ⟨bb, hb, hf⟩ := ex6 y.1 hok.steer hok.rate
  show law3 y = _
  unfold law3
  cases bb
  · exact (bindT hb).trans rfl
  have hf := hf rfl
  refine (bindT hb).trans ((bifF rfl).trans ?_)
  have hs := hr.2.1
  obtain ⟨z, e7, e8⟩ := push2 false (y.1, y.2.1) hok.w0.radius hok.w1.radius hok.w2.radius hok.w3.radius hf.pane hok.tyre hok.i8 (okV64 hs.2.2.2.1) (okV64 hs.2.2.2.2.1) (okV64 hs.2.2.2.2.2.1) hs.2.2.2.2.2.2.1 hs.2.2.2.2.2.2.2.1 hr.2.2.1.1 hr.2.2.1.2.1 hr.2.2.2.1 hr.2.2.2.2.1
  refine (bindT e7).trans ((bindT e8).trans ?_)
  exact (bifT (by simp)).trans ((bifT (by simp)).trans ((bifT (by simp)).trans (bifT (by simp))))
end Go.Proofs.YtkobnmpilcpojaaGreat
