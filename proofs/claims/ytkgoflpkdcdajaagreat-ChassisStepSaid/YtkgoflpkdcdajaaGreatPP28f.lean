/- Plain Lean: what the laws of this program's functions come to, in numbers and lists; no program is run here. -/
import Derived.Test.YtkgoflpkdcdajaaGreatPP28h
set_option linter.unusedVariables false
set_option linter.unusedSimpArgs false
set_option maxRecDepth 100000
namespace Go.Proofs.YtkgoflpkdcdajaaGreat
open Go Go.Ab Go.Proofs Go.IntWalk
theorem okV64 {v : V3T} (h : Sh.ok V3Sh v) : V64 v := ⟨h.1, h.2.1, h.2.2.1⟩
theorem okQ64 {v : QuatT} (h : Sh.ok QuatSh v) : Q64 v := ⟨h.1, h.2.1, h.2.2.1, h.2.2.2.1⟩
theorem okP64 {l : List PushT} (h : Sh.ok (.sl PushSh) l) : P64 l := fun p hp => ⟨okV64 (h.1 p hp).1, okV64 (h.1 p hp).2.1⟩
theorem sameB (b : BodyT) : (b.1.1 == b.1.1 && (b.1.2.1 == b.1.2.1 && b.1.2.2.1 == b.1.2.2.1) && (b.2.1.1 == b.2.1.1 && (b.2.1.2.1 == b.2.1.2.1 && b.2.1.2.2.1 == b.2.1.2.2.1) && (b.2.2.1.1 == b.2.2.1.1 && (b.2.2.1.2.1 == b.2.2.1.2.1 && (b.2.2.1.2.2.1 == b.2.2.1.2.2.1 && b.2.2.1.2.2.2.1 == b.2.2.1.2.2.2.1)) && (b.2.2.2.1.1 == b.2.2.2.1.1 && (b.2.2.2.1.2.1 == b.2.2.2.1.2.1 && b.2.2.2.1.2.2.1 == b.2.2.2.1.2.2.1))))) = true := by simp
theorem true4o (y : Sh.Ts [CarSh, BodySh, AskSh]) (hy : Sh.oks [CarSh, BodySh, AskSh] y) : fn4 y = some (true, ()) := by
  have hok : OkC y.1 := okC hy.1
  have hp : V64 y.2.1.1 := okV64 hy.2.1.1
  have hv : V64 y.2.1.2.1 := okV64 hy.2.1.2.1
  have hq : Q64 y.2.1.2.2.1 := okQ64 hy.2.1.2.2.1
  have hw : V64 y.2.1.2.2.2.1 := okV64 hy.2.1.2.2.2.1
  have hl : P64 y.2.2.1.1 := okP64 hy.2.2.1.1
  have hd : I64 y.2.2.1.2.1 := hy.2.2.1.2.1
  have hJ : V64 y.1.2.1 := ⟨hok.inertia.x, hok.inertia.y, hok.inertia.z⟩
  obtain ⟨bb, hb, hf⟩ := ex9 y.1 hok.steer hok.rate
  show law4 y = _
  unfold law4
  cases bb
  · exact (bindT hb).trans rfl
  have hf := hf rfl
  refine (bindT hb).trans ((bifF rfl).trans ?_)
  by_cases hn : (y.2.2.1.1.length : Int) ≤ 20
  case neg => exact bifT (by rw [Bool.not_eq_true', decide_eq_false_iff_not]; exact hn)
  refine (bifF (by rw [Bool.not_eq_false', decide_eq_true_eq]; exact hn)).trans ?_
  have hn : y.2.2.1.1.length ≤ 20 := by omega
  have ht : Tab y.1.2.2.2.2.2.2.2.1 := ⟨by have := hf.air; omega, hok.air⟩
  refine (bindT (st20 (false, ()) (y.1, y.2.1, y.2.2.1) ⟨hok.i0, hJ, ht, hp, hv, hq, hw, hl, hn, hd⟩)).trans ((bindT (st21 (false, ()) (y.1, y.2.1, y.2.2.1) hok.i0 hJ ht hp hv hq hw hl hn hd)).trans ?_)
  refine (bifT (sameB _)).trans ?_
  exact bifT (by simp)
end Go.Proofs.YtkgoflpkdcdajaaGreat
