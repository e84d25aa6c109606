/- Plain Lean: what the laws of this program's functions come to, in numbers and lists; no program is run here. -/
import Derived.Test.YtkgoflpkdcdajaaGreatPP28u
set_option linter.unusedVariables false
set_option linter.unusedSimpArgs false
set_option maxRecDepth 100000
namespace Go.Ab
open Go Go.IntWalk
abbrev Psh := Vec × Vec × Unit
abbrev Bod := Vec × Vec × Qua × Vec × Unit
theorem Z64 : V64 (0, 0, 0, ()) := by unfold V64 I64; simp
noncomputable def arO (l : List Dot) (v : Vec) : Bool := lenO (sq3 v) || (if lenV (sq3 v) = 0 then false else (vdO v (lenV (sq3 v)) || (evO l (lenV (sq3 v)) || (so 0 (evV l (lenV (sq3 v))) || vmO (vdV v (lenV (sq3 v))) (zv 0 (evV l (lenV (sq3 v))))))))
noncomputable def arV (l : List Dot) (v : Vec) : Vec := if lenV (sq3 v) = 0 then (0, 0, 0, ()) else vmV (vdV v (lenV (sq3 v))) (zv 0 (evV l (lenV (sq3 v))))
theorem arV_r (l : List Dot) (v : Vec) : V64 (arV l v) := by
  unfold arV
  split
  · exact Z64
  · exact vmV_r _ _
def jwV (J w : Vec) : Vec := (mv J.1 w.1, mv J.2.1 w.2.1, mv J.2.2.1 w.2.2.1, ())
theorem jwV_r (J w : Vec) : V64 (jwV J w) := ⟨mv_r _ _, mv_r _ _, mv_r _ _⟩
def gyO (J w : Vec) : Bool := mo J.1 w.1 || (mo J.2.1 w.2.1 || (mo J.2.2.1 w.2.2.1 || vcO w (jwV J w)))
def gyV (J w : Vec) : Vec := vcV w (jwV J w)
theorem gyV_r (J w : Vec) : V64 (gyV J w) := vcV_r _ _
def psO (v : Vec) : List Psh → Bool
  | [] => false
  | p :: l => vaO v p.1 || psO (vaV v p.1) l
def psV (v : Vec) : List Psh → Vec
  | [] => v
  | p :: l => psV (vaV v p.1) l
theorem psV_r : ∀ (l : List Psh) {v : Vec}, V64 v → V64 (psV v l)
  | [], _, h => h
  | p :: l, v, h => psV_r l (vaV_r v p.1)
def tqO (v : Vec) : List Psh → Bool
  | [] => false
  | p :: l => vcO p.2.1 p.1 || (vaO v (vcV p.2.1 p.1) || tqO (vaV v (vcV p.2.1 p.1)) l)
def tqV (v : Vec) : List Psh → Vec
  | [] => v
  | p :: l => tqV (vaV v (vcV p.2.1 p.1)) l
theorem tqV_r : ∀ (l : List Psh) {v : Vec}, V64 v → V64 (tqV v l)
  | [], _, h => h
  | p :: l, v, h => tqV_r l (vaV_r v _)
def P64 (l : List Psh) : Prop := ∀ p ∈ l, V64 p.1 ∧ V64 p.2.1
def wtO (m : Int) : Bool := mo m 42133629174 || so 0 (mv m 42133629174)
def wtV (m : Int) : Vec := (0, 0, zv 0 (mv m 42133629174), ())
theorem wtV_r (m : Int) : V64 (wtV m) := ⟨by unfold I64; show _ ≤ (0 : Int) ∧ (0 : Int) ≤ _; omega, by unfold I64; show _ ≤ (0 : Int) ∧ (0 : Int) ≤ _; omega, zv_r _ _⟩
theorem va_zero {v : Vec} (h : V64 v) : vaV (0, 0, 0, ()) v = v ∧ vaO (0, 0, 0, ()) v = false := by
  obtain ⟨x, y, z, _⟩ := v
  obtain ⟨h1, h2, h3⟩ := h
  simp only at h1 h2 h3
  unfold vaV vaO av ao
  simp only [Int.zero_add, sv_in h1, sv_in h2, sv_in h3, ov_in h1, ov_in h2, ov_in h3, Bool.or_self, and_self]
noncomputable def f0V (m : Int) (t : List Dot) (v : Vec) : Vec := vaV (wtV m) (arV t v)
noncomputable def foO (m : Int) (t : List Dot) (v : Vec) (l : List Psh) : Bool := wtO m || (arO t v || (vaO (wtV m) (arV t v) || psO (f0V m t v) l))
noncomputable def foV (m : Int) (t : List Dot) (v : Vec) (l : List Psh) : Vec := vkV (psV (f0V m t v) l) 18014398509481984
theorem kF_r : I64 18014398509481984 := by unfold I64; omega
theorem kT_r : I64 288230376151711744 := by unfold I64; omega
theorem kS_r : I64 549755813888 := by unfold I64; omega
theorem kW_r : I64 137438953472 := by unfold I64; omega
theorem foV_r (m : Int) (t : List Dot) (v : Vec) (l : List Psh) : V64 (foV m t v l) := vkV_r (psV_r l (vaV_r _ _)) kF_r
def toO (l : List Psh) : Bool := tqO (0, 0, 0, ()) l
def toV (l : List Psh) : Vec := vkV (tqV (0, 0, 0, ()) l) 288230376151711744
theorem toV_r (l : List Psh) : V64 (toV l) := vkV_r (tqV_r l Z64) kT_r
def onO (v a : Vec) (t : Int) : Bool := vmO a t || vaO v (vmV a t)
def onV (v a : Vec) (t k : Int) : Vec := vkV (vaV v (vmV a t)) k
theorem onV_r (v a : Vec) (t : Int) {k : Int} (hk : I64 k) : V64 (onV v a t k) := vkV_r (vaV_r _ _) hk
def dvJ (v J : Vec) : Vec := (dv v.1 J.1, dv v.2.1 J.2.1, dv v.2.2.1 J.2.2.1, ())
def dOJ (v J : Vec) : Bool := dO v.1 J.1 || (dO v.2.1 J.2.1 || dO v.2.2.1 J.2.2.1)
theorem dvJ_r (v J : Vec) : V64 (dvJ v J) := ⟨dv_r _ _, dv_r _ _, dv_r _ _⟩
noncomputable def tuV (b : Bod) (J : Vec) (l : List Psh) : Vec := vsV (bkV (mxV b.2.2.1) (toV l)) (gyV J b.2.2.2.1)
noncomputable def stA (m : Int) (t : List Dot) (b : Bod) (l : List Psh) : Vec := vdV (foV m t b.2.1 l) m
noncomputable def stS (m : Int) (t : List Dot) (b : Bod) (l : List Psh) (dt : Int) : Vec := onV b.2.1 (stA m t b l) dt 549755813888
noncomputable def stW (J : Vec) (b : Bod) (l : List Psh) (dt : Int) : Vec := onV b.2.2.2.1 (dvJ (tuV b J l) J) dt 137438953472
noncomputable def stV (m : Int) (J : Vec) (t : List Dot) (b : Bod) (l : List Psh) (dt : Int) : Bod :=
  (vaV b.1 (vmV (stS m t b l dt) dt), stS m t b l dt, qsV b.2.2.1 (stW J b l dt) dt, stW J b l dt, ())
noncomputable def stO (m : Int) (J : Vec) (t : List Dot) (b : Bod) (l : List Psh) (dt : Int) : Bool :=
  foO m t b.2.1 l || (vdO (foV m t b.2.1 l) m || (mxO b.2.2.1 || (toO l || (bkO (mxV b.2.2.1) (toV l) || (gyO J b.2.2.2.1 || (vsO (bkV (mxV b.2.2.1) (toV l)) (gyV J b.2.2.2.1) ||
  (dOJ (tuV b J l) J || (onO b.2.1 (stA m t b l) dt || (onO b.2.2.2.1 (dvJ (tuV b J l) J) dt || (vmO (stS m t b l dt) dt || (vaO b.1 (vmV (stS m t b l dt) dt) || qsO b.2.2.1 (stW J b l dt) dt)))))))))))
theorem stS_r (m : Int) (t : List Dot) (b : Bod) (l : List Psh) (dt : Int) : V64 (stS m t b l dt) := onV_r _ _ _ kS_r
theorem stW_r (J : Vec) (b : Bod) (l : List Psh) (dt : Int) : V64 (stW J b l dt) := onV_r _ _ _ kW_r
theorem tuV_r (b : Bod) (J : Vec) (l : List Psh) : V64 (tuV b J l) := vsV_r _ _
end Go.Ab
