/- Plain Lean: what the laws of this program's functions come to, in numbers and lists; no program is run here. -/
import Derived.Test.YtkgoflpkdcdajaaGreatPP28u
set_option linter.unusedVariables false
set_option linter.unusedSimpArgs false
set_option maxRecDepth 100000
namespace Go.Ab
open Go Go.IntWalk
/-
  A body's step: air, spin, forces and torques, the flags apart from the values. It names no program.
-/
abbrev Psh := Vec × Vec × Unit
theorem Z64 : V64 (0, 0, 0, ()) := by unfold V64 I64; simp
noncomputable def arO (l : List Dot) (v : Vec) : Bool := lenO (sq3 v) || (if lenV (sq3 v) = 0 then false else (vdO v (lenV (sq3 v)) || (evO l (lenV (sq3 v)) || (so 0 (evV l (lenV (sq3 v))) || vmO (vdV v (lenV (sq3 v))) (zv 0 (evV l (lenV (sq3 v))))))))
noncomputable def arV (l : List Dot) (v : Vec) : Vec := if lenV (sq3 v) = 0 then (0, 0, 0, ()) else vmV (vdV v (lenV (sq3 v))) (zv 0 (evV l (lenV (sq3 v))))
theorem arV_r (l : List Dot) (v : Vec) : V64 (arV l v) := by
  unfold arV
  split
  · exact Z64
  · exact vmV_r _ _
def jwV (J w : Vec) : Vec := (mv J.1 w.1, mv J.2.1 w.2.1, mv J.2.2.1 w.2.2.1, ())
theorem jwV_r (J w : Vec) : V64 (jwV J w) := ⟨mv_r _ _, mv_r _ _, mv_r _ _⟩
def gyO (J w : Vec) : Bool := mo J.1 w.1 || (mo J.2.1 w.2.1 || (mo J.2.2.1 w.2.2.1 || vcO w (jwV J w)))
def gyV (J w : Vec) : Vec := vcV w (jwV J w)
def psO (v : Vec) : List Psh → Bool
  | [] => false
  | p :: l => vaO v p.1 || psO (vaV v p.1) l
def psV (v : Vec) : List Psh → Vec
  | [] => v
  | p :: l => psV (vaV v p.1) l
def tqO (v : Vec) : List Psh → Bool
  | [] => false
  | p :: l => vcO p.2.1 p.1 || (vaO v (vcV p.2.1 p.1) || tqO (vaV v (vcV p.2.1 p.1)) l)
def tqV (v : Vec) : List Psh → Vec
  | [] => v
  | p :: l => tqV (vaV v (vcV p.2.1 p.1)) l
def P64 (l : List Psh) : Prop := ∀ p ∈ l, V64 p.1 ∧ V64 p.2.1
def wtO (m : Int) : Bool := mo m 42133629174 || so 0 (mv m 42133629174)
def wtV (m : Int) : Vec := (0, 0, zv 0 (mv m 42133629174), ())
theorem wtV_r (m : Int) : V64 (wtV m) := ⟨by unfold I64; show _ ≤ (0 : Int) ∧ (0 : Int) ≤ _; omega, by unfold I64; show _ ≤ (0 : Int) ∧ (0 : Int) ≤ _; omega, zv_r _ _⟩
theorem va_zero {v : Vec} (h : V64 v) : vaV (0, 0, 0, ()) v = v ∧ vaO (0, 0, 0, ()) v = false := by
  obtain ⟨x, y, z, _⟩ := v
  obtain ⟨h1, h2, h3⟩ := h
  simp only at h1 h2 h3
  unfold vaV vaO av ao
  simp only [Int.zero_add, sv_in h1, sv_in h2, sv_in h3, ov_in h1, ov_in h2, ov_in h3, Bool.or_self, and_self]
noncomputable def f0V (m : Int) (t : List Dot) (v : Vec) : Vec := vaV (wtV m) (arV t v)
noncomputable def foO (m : Int) (t : List Dot) (v : Vec) (l : List Psh) : Bool := wtO m || (arO t v || (vaO (wtV m) (arV t v) || psO (f0V m t v) l))
noncomputable def foV (m : Int) (t : List Dot) (v : Vec) (l : List Psh) : Vec := vkV (psV (f0V m t v) l) 18014398509481984
def toO (l : List Psh) : Bool := tqO (0, 0, 0, ()) l
def toV (l : List Psh) : Vec := vkV (tqV (0, 0, 0, ()) l) 288230376151711744
end Go.Ab
