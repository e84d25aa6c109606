/- Plain Lean: what the laws of this program's functions come to, in numbers and lists; no program is run here. -/
import Derived.Test.YtkgoflpkdcdajaaGreatPPTab
set_option linter.unusedVariables false
set_option linter.unusedSimpArgs false
set_option maxRecDepth 100000
namespace Go.Ab
open Go Go.IntWalk
def evO (l : List Dot) (x : Int) : Bool := (evalS false l x).1
def evV (l : List Dot) (x : Int) : Int := (evalS false l x).2
theorem evalS_eq (o : Bool) (l : List Dot) (x : Int) : evalS o l x = (o || evO l x, evV l x) := by
  unfold evO evV evalS
  split
  · simp
  · split
    · simp
    · split
      · simp
      · unfold stretchS mixS
        simp only [subS_eq, divS_eq, mulS_eq, addS_eq, Bool.false_or, Bool.or_assoc]
theorem evV_r (l : List Dot) (x : Int) (h : ∀ d ∈ l, OkD d) : I64 (evV l x) := evalS_r false l x h
abbrev Vec := Int × Int × Int × Unit
abbrev Qua := Int × Int × Int × Int × Unit
abbrev Mtx := Vec × Vec × Vec × Unit
theorem sq_nonneg (a : Int) : 0 ≤ a * a := by
  rcases Int.le_total 0 a with h | h
  · exact Int.mul_nonneg h h
  · exact Int.mul_nonneg_of_nonpos_of_nonpos h h
def sq3 (v : Vec) : Int := v.1 * v.1 + (v.2.1 * v.2.1 + (v.2.2.1 * v.2.2.1 + 0))
def sq4 (q : Qua) : Int := q.1 * q.1 + (q.2.1 * q.2.1 + (q.2.2.1 * q.2.2.1 + (q.2.2.2.1 * q.2.2.2.1 + 0)))
theorem sq3_nn (v : Vec) : 0 ≤ sq3 v := by
  unfold sq3
  have h1 := sq_nonneg v.1; have h2 := sq_nonneg v.2.1; have h3 := sq_nonneg v.2.2.1
  omega
theorem sq4_nn (v : Qua) : 0 ≤ sq4 v := by
  unfold sq4
  have h1 := sq_nonneg v.1; have h2 := sq_nonneg v.2.1; have h3 := sq_nonneg v.2.2.1; have h4 := sq_nonneg v.2.2.2.1
  omega
def V64 (v : Vec) : Prop := I64 v.1 ∧ I64 v.2.1 ∧ I64 v.2.2.1
def Q64 (v : Qua) : Prop := I64 v.1 ∧ I64 v.2.1 ∧ I64 v.2.2.1 ∧ I64 v.2.2.2.1
def M64 (A : Mtx) : Prop := V64 A.1 ∧ V64 A.2.1 ∧ V64 A.2.2.1
def vmO (v : Vec) (s : Int) : Bool := mo v.1 s || (mo v.2.1 s || mo v.2.2.1 s)
def vmV (v : Vec) (s : Int) : Vec := (mv v.1 s, mv v.2.1 s, mv v.2.2.1 s, ())
def vdO (v : Vec) (s : Int) : Bool := dO v.1 s || (dO v.2.1 s || dO v.2.2.1 s)
def vdV (v : Vec) (s : Int) : Vec := (dv v.1 s, dv v.2.1 s, dv v.2.2.1 s, ())
def vaO (v w : Vec) : Bool := ao v.1 w.1 || (ao v.2.1 w.2.1 || ao v.2.2.1 w.2.2.1)
def vaV (v w : Vec) : Vec := (av v.1 w.1, av v.2.1 w.2.1, av v.2.2.1 w.2.2.1, ())
def vsO (v w : Vec) : Bool := so v.1 w.1 || (so v.2.1 w.2.1 || so v.2.2.1 w.2.2.1)
def vsV (v w : Vec) : Vec := (zv v.1 w.1, zv v.2.1 w.2.1, zv v.2.2.1 w.2.2.1, ())
theorem vmV_r (v : Vec) (s : Int) : V64 (vmV v s) := ⟨mv_r _ _, mv_r _ _, mv_r _ _⟩
theorem vdV_r (v : Vec) (s : Int) : V64 (vdV v s) := ⟨dv_r _ _, dv_r _ _, dv_r _ _⟩
theorem vaV_r (v w : Vec) : V64 (vaV v w) := ⟨av_r _ _, av_r _ _, av_r _ _⟩
theorem vsV_r (v w : Vec) : V64 (vsV v w) := ⟨zv_r _ _, zv_r _ _, zv_r _ _⟩
def clV (x lo hi : Int) : Int := if x < lo then lo else if x > hi then hi else x
theorem clV_r {x lo hi : Int} (h : I64 x) (h1 : I64 lo) (h2 : I64 hi) : I64 (clV x lo hi) := by unfold clV; split; assumption; split <;> assumption
def vkV (v : Vec) (c : Int) : Vec := (clV v.1 (IntKind.i64.wrap (0 - c)) c, clV v.2.1 (IntKind.i64.wrap (0 - c)) c, clV v.2.2.1 (IntKind.i64.wrap (0 - c)) c, ())
theorem wrap_r (a : Int) : I64 (IntKind.i64.wrap a) := by rw [IntKind.wrap_i64]; unfold I64; omega
theorem vkV_r {v : Vec} {c : Int} (h : V64 v) (hc : I64 c) : V64 (vkV v c) := ⟨clV_r h.1 (wrap_r _) hc, clV_r h.2.1 (wrap_r _) hc, clV_r h.2.2 (wrap_r _) hc⟩
def vcL (v w : Vec) : Vec := (mv v.2.1 w.2.2.1, mv v.2.2.1 w.1, mv v.1 w.2.1, ())
def vcR (v w : Vec) : Vec := (mv v.2.2.1 w.2.1, mv v.1 w.2.2.1, mv v.2.1 w.1, ())
def vcO (v w : Vec) : Bool := mo v.2.1 w.2.2.1 || (mo v.2.2.1 w.1 || (mo v.1 w.2.1 || (mo v.2.2.1 w.2.1 || (mo v.1 w.2.2.1 || (mo v.2.1 w.1 || vsO (vcL v w) (vcR v w))))))
def vcV (v w : Vec) : Vec := vsV (vcL v w) (vcR v w)
theorem vcV_r (v w : Vec) : V64 (vcV v w) := vsV_r _ _
def dgO (a b : Int) : Bool := mo a a || (mo b b || (ao (mv a a) (mv b b) || (ao (av (mv a a) (mv b b)) (av (mv a a) (mv b b)) || so 4294967296 (av (av (mv a a) (mv b b)) (av (mv a a) (mv b b))))))
def dgV (a b : Int) : Int := zv 4294967296 (av (av (mv a a) (mv b b)) (av (mv a a) (mv b b)))
def upO (a b c d : Int) : Bool := mo a b || (mo c d || (ao (mv a b) (mv c d) || ao (av (mv a b) (mv c d)) (av (mv a b) (mv c d))))
def upV (a b c d : Int) : Int := av (av (mv a b) (mv c d)) (av (mv a b) (mv c d))
def dnO (a b c d : Int) : Bool := mo a b || (mo c d || (so (mv a b) (mv c d) || ao (zv (mv a b) (mv c d)) (zv (mv a b) (mv c d))))
def dnV (a b c d : Int) : Int := av (zv (mv a b) (mv c d)) (zv (mv a b) (mv c d))
def mxO (q : Qua) : Bool :=
  dgO q.2.2.1 q.2.2.2.1 || (dnO q.2.1 q.2.2.1 q.1 q.2.2.2.1 || (upO q.2.1 q.2.2.2.1 q.1 q.2.2.1 ||
  (upO q.2.1 q.2.2.1 q.1 q.2.2.2.1 || (dgO q.2.1 q.2.2.2.1 || (dnO q.2.2.1 q.2.2.2.1 q.1 q.2.1 ||
  (dnO q.2.1 q.2.2.2.1 q.1 q.2.2.1 || (upO q.2.2.1 q.2.2.2.1 q.1 q.2.1 || dgO q.2.1 q.2.2.1)))))))
def mxV (q : Qua) : Mtx :=
  ((dgV q.2.2.1 q.2.2.2.1, dnV q.2.1 q.2.2.1 q.1 q.2.2.2.1, upV q.2.1 q.2.2.2.1 q.1 q.2.2.1, ()),
  (upV q.2.1 q.2.2.1 q.1 q.2.2.2.1, dgV q.2.1 q.2.2.2.1, dnV q.2.2.1 q.2.2.2.1 q.1 q.2.1, ()),
  (dnV q.2.1 q.2.2.2.1 q.1 q.2.2.1, upV q.2.2.1 q.2.2.2.1 q.1 q.2.1, dgV q.2.1 q.2.2.1, ()), ())
theorem mxV_r (q : Qua) : M64 (mxV q) := ⟨⟨zv_r _ _, av_r _ _, av_r _ _⟩, ⟨av_r _ _, zv_r _ _, av_r _ _⟩, ⟨av_r _ _, av_r _ _, zv_r _ _⟩⟩
def bk1 (A : Mtx) (v : Vec) : Vec := vaV (vmV A.1 v.1) (vmV A.2.1 v.2.1)
def bkO (A : Mtx) (v : Vec) : Bool := vmO A.1 v.1 || (vmO A.2.1 v.2.1 || (vmO A.2.2.1 v.2.2.1 || (vaO (vmV A.1 v.1) (vmV A.2.1 v.2.1) || vaO (bk1 A v) (vmV A.2.2.1 v.2.2.1))))
def bkV (A : Mtx) (v : Vec) : Vec := vaV (bk1 A v) (vmV A.2.2.1 v.2.2.1)
theorem bkV_r (A : Mtx) (v : Vec) : V64 (bkV A v) := vaV_r _ _
def q0V (p q : Qua) : Int := zv (zv (zv (mv p.1 q.1) (mv p.2.1 q.2.1)) (mv p.2.2.1 q.2.2.1)) (mv p.2.2.2.1 q.2.2.2.1)
def q1V (p q : Qua) : Int := zv (av (av (mv p.1 q.2.1) (mv p.2.1 q.1)) (mv p.2.2.1 q.2.2.2.1)) (mv p.2.2.2.1 q.2.2.1)
def q2V (p q : Qua) : Int := av (av (zv (mv p.1 q.2.2.1) (mv p.2.1 q.2.2.2.1)) (mv p.2.2.1 q.1)) (mv p.2.2.2.1 q.2.1)
def q3V (p q : Qua) : Int := av (zv (av (mv p.1 q.2.2.2.1) (mv p.2.1 q.2.2.1)) (mv p.2.2.1 q.2.1)) (mv p.2.2.2.1 q.1)
def q0O (p q : Qua) : Bool := mo p.1 q.1 || (mo p.2.1 q.2.1 || (so (mv p.1 q.1) (mv p.2.1 q.2.1) || (mo p.2.2.1 q.2.2.1 || (so (zv (mv p.1 q.1) (mv p.2.1 q.2.1)) (mv p.2.2.1 q.2.2.1) || (mo p.2.2.2.1 q.2.2.2.1 || so (zv (zv (mv p.1 q.1) (mv p.2.1 q.2.1)) (mv p.2.2.1 q.2.2.1)) (mv p.2.2.2.1 q.2.2.2.1))))))
def q1O (p q : Qua) : Bool := mo p.1 q.2.1 || (mo p.2.1 q.1 || (ao (mv p.1 q.2.1) (mv p.2.1 q.1) || (mo p.2.2.1 q.2.2.2.1 || (ao (av (mv p.1 q.2.1) (mv p.2.1 q.1)) (mv p.2.2.1 q.2.2.2.1) || (mo p.2.2.2.1 q.2.2.1 || so (av (av (mv p.1 q.2.1) (mv p.2.1 q.1)) (mv p.2.2.1 q.2.2.2.1)) (mv p.2.2.2.1 q.2.2.1))))))
def q2O (p q : Qua) : Bool := mo p.1 q.2.2.1 || (mo p.2.1 q.2.2.2.1 || (so (mv p.1 q.2.2.1) (mv p.2.1 q.2.2.2.1) || (mo p.2.2.1 q.1 || (ao (zv (mv p.1 q.2.2.1) (mv p.2.1 q.2.2.2.1)) (mv p.2.2.1 q.1) || (mo p.2.2.2.1 q.2.1 || ao (av (zv (mv p.1 q.2.2.1) (mv p.2.1 q.2.2.2.1)) (mv p.2.2.1 q.1)) (mv p.2.2.2.1 q.2.1))))))
def q3O (p q : Qua) : Bool := mo p.1 q.2.2.2.1 || (mo p.2.1 q.2.2.1 || (ao (mv p.1 q.2.2.2.1) (mv p.2.1 q.2.2.1) || (mo p.2.2.1 q.2.1 || (so (av (mv p.1 q.2.2.2.1) (mv p.2.1 q.2.2.1)) (mv p.2.2.1 q.2.1) || (mo p.2.2.2.1 q.1 || ao (zv (av (mv p.1 q.2.2.2.1) (mv p.2.1 q.2.2.1)) (mv p.2.2.1 q.2.1)) (mv p.2.2.2.1 q.1))))))
def qmO (p q : Qua) : Bool := q0O p q || (q1O p q || (q2O p q || q3O p q))
def qmV (p q : Qua) : Qua := (q0V p q, q1V p q, q2V p q, q3V p q, ())
theorem qmV_r (p q : Qua) : Q64 (qmV p q) := ⟨zv_r _ _, zv_r _ _, av_r _ _, av_r _ _⟩
noncomputable def quN (q : Qua) : Int := lenV (sq4 q)
noncomputable def quO (q : Qua) : Bool := lenO (sq4 q) || (if quN q = 0 then false else (dO q.1 (quN q) || (dO q.2.1 (quN q) || (dO q.2.2.1 (quN q) || dO q.2.2.2.1 (quN q)))))
noncomputable def quV (q : Qua) : Qua := if quN q = 0 then (4294967296, 0, 0, 0, ()) else (dv q.1 (quN q), dv q.2.1 (quN q), dv q.2.2.1 (quN q), dv q.2.2.2.1 (quN q), ())
def orI (env : List Bool) : List Nat → Bool
  | [] => false
  | [i] => env.getD i false
  | i :: j :: l => env.getD i false || orI env (j :: l)
theorem orI_any (env : List Bool) : ∀ l, orI env l = l.any (fun i => env.getD i false)
  | [] => rfl
  | [i] => by simp [orI]
  | i :: j :: l => by rw [orI, orI_any env (j :: l)]; rfl
theorem orI_eq (env : List Bool) (l1 l2 : List Nat) (h1 : l1.all (fun i => l2.contains i) = true) (h2 : l2.all (fun i => l1.contains i) = true) : orI env l1 = orI env l2 := by
  rw [orI_any, orI_any, Bool.eq_iff_iff, List.any_eq_true, List.any_eq_true]
  rw [List.all_eq_true] at h1 h2
  constructor
  · rintro ⟨i, hi, h⟩; exact ⟨i, by simpa using h1 i hi, h⟩
  · rintro ⟨i, hi, h⟩; exact ⟨i, by simpa using h2 i hi, h⟩
def hfO (a t : Int) : Bool := mo a t || mo (mv a t) 2147483648
def hfV (a t : Int) : Int := mv (mv a t) 2147483648
def qnV (q : Qua) (w : Vec) (t : Int) : Qua := (av q.1 (hfV (q0V q (0, w)) t), av q.2.1 (hfV (q1V q (0, w)) t), av q.2.2.1 (hfV (q2V q (0, w)) t), av q.2.2.2.1 (hfV (q3V q (0, w)) t), ())
def qnO (q : Qua) (w : Vec) (t : Int) : Bool := qmO q (0, w) || (hfO (q0V q (0, w)) t || (hfO (q1V q (0, w)) t || (hfO (q2V q (0, w)) t || (hfO (q3V q (0, w)) t ||
  (ao q.1 (hfV (q0V q (0, w)) t) || (ao q.2.1 (hfV (q1V q (0, w)) t) || (ao q.2.2.1 (hfV (q2V q (0, w)) t) || ao q.2.2.2.1 (hfV (q3V q (0, w)) t))))))))
theorem qnV_r (q : Qua) (w : Vec) (t : Int) : Q64 (qnV q w t) := ⟨av_r _ _, av_r _ _, av_r _ _, av_r _ _⟩
noncomputable def qsO (q : Qua) (w : Vec) (t : Int) : Bool := qnO q w t || quO (qnV q w t)
noncomputable def qsV (q : Qua) (w : Vec) (t : Int) : Qua := quV (qnV q w t)
end Go.Ab
