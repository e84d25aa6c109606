/- Plain Lean: what the laws of this program's functions come to, in numbers and lists; no program is run here. -/
import Derived.Test.YtkgoflpkdcdajaaGreatPP28h
set_option linter.unusedVariables false
set_option linter.unusedSimpArgs false
set_option maxRecDepth 100000
namespace Go.Proofs.YtkgoflpkdcdajaaGreat
open Go Go.Ab Go.Proofs Go.IntWalk
/- ChassisForce and ChassisStep in plain Lean (r28). -/
theorem okV64 {v : V3T} (h : Sh.ok V3Sh v) : V64 v := ⟨h.1, h.2.1, h.2.2.1⟩
theorem okP64 {l : List PushT} (h : Sh.ok (.sl PushSh) l) : P64 l := fun p hp => ⟨okV64 (h.1 p hp).1, okV64 (h.1 p hp).2.1⟩
theorem same3 (v : V3T) : (v.1 == v.1 && (v.2.1 == v.2.1 && (v.2.2.1 == v.2.2.1 && true))) = true := by simp
theorem same3' (v : V3T) : (v.1 == v.1 && (v.2.1 == v.2.1 && v.2.2.1 == v.2.2.1)) = true := by simp
theorem true3o (y : Sh.Ts [CarSh, BodySh, .sl PushSh]) (hy : Sh.oks [CarSh, BodySh, .sl PushSh] y) : fn3 y = some (true, ()) := by
  have hok : OkC y.1 := okC hy.1
  have hv : V64 y.2.1.2.1 := okV64 hy.2.1.2.1
  have hw : V64 y.2.1.2.2.2.1 := okV64 hy.2.1.2.2.2.1
  have hl : P64 y.2.2.1 := okP64 hy.2.2.1
  have hJ : V64 y.1.2.1 := ⟨hok.inertia.x, hok.inertia.y, hok.inertia.z⟩
  obtain ⟨bb, hb, hf⟩ := ex9 y.1 hok.steer hok.rate
  show law3 y = _
  unfold law3
  cases bb
  · exact (bindT hb).trans rfl
  have hf := hf rfl
  refine (bindT hb).trans ((bifF rfl).trans ?_)
  by_cases hn : (y.2.2.1.length : Int) ≤ 20
  case neg => exact bifT (by rw [Bool.not_eq_true', decide_eq_false_iff_not]; exact hn)
  refine (bifF (by rw [Bool.not_eq_false', decide_eq_true_eq]; exact hn)).trans ?_
  have hn : y.2.2.1.length ≤ 20 := by omega
  have ht : Tab y.1.2.2.2.2.2.2.2.1 := ⟨by have := hf.air; omega, hok.air⟩
  refine (bindT (ar11 (false, ()) (y.1, y.2.1.2.1, ()) ht hv)).trans ((bindT (ar12 (false, ()) (y.1, y.2.1.2.1, ()) ht hv)).trans ?_)
  refine (bifF (by rw [same3]; rfl)).trans ?_
  refine (bindT (fo13 _ y hok.i0 ht hv hl hn)).trans ((bindT (fo14 _ y hok.i0 ht hv hl hn)).trans ?_)
  refine (bifF (by rw [same3]; rfl)).trans ?_
  refine (bifF (by simp)).trans ?_
  refine (bindT (to15 _ (y.2.2.1, ()) hl hn)).trans ((bindT (to16 _ (y.2.2.1, ()) hl hn)).trans ?_)
  refine (bifT (same3' _)).trans ?_
  refine (bindT (gy17 _ (y.1, y.2.1.2.2.2.1, ()) hJ hw)).trans ((bindT (gy18 _ (y.1, y.2.1.2.2.2.1, ()) hJ hw)).trans ?_)
  refine (bifT (same3' _)).trans ?_
  exact bifT (by simp)
end Go.Proofs.YtkgoflpkdcdajaaGreat
