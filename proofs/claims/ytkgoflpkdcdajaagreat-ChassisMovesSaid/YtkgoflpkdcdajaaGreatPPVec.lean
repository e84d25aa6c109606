/- Plain Lean: what the laws of this program's functions come to, in numbers and lists; no program is run here. -/
import Derived.Test.YtkgoflpkdcdajaaGreatPPTab
set_option linter.unusedVariables false
set_option linter.unusedSimpArgs false
set_option maxRecDepth 100000
namespace Go.Ab
open Go Go.IntWalk
/-
  Vectors, quaternions and matrices of fixed point numbers: what does not fit told apart from the values. One text for all seats; it names no program.
-/
def ov (v : Int) : Bool := decide (v > 9223372036854775807) || decide (v < -9223372036854775808)
def sv (v : Int) : Int := if v > 9223372036854775807 then 9223372036854775807 else if v < -9223372036854775808 then -9223372036854775808 else v
theorem satS_eq (o : Bool) (v : Int) : satS o v = (o || ov v, sv v) := by
  unfold satS ov sv
  by_cases h : v > 9223372036854775807
  · simp [h]
  · by_cases h2 : v < -9223372036854775808 <;> simp [h, h2]
theorem sv_r (v : Int) : I64 (sv v) := by unfold sv I64; split <;> (try split) <;> omega
theorem ov_in {v : Int} (h : I64 v) : ov v = false := by unfold I64 at h; unfold ov; rw [decide_eq_false (by omega), decide_eq_false (by omega)]; rfl
theorem sv_in {v : Int} (h : I64 v) : sv v = v := by unfold I64 at h; unfold sv; rw [if_neg (by omega), if_neg (by omega)]
def mo (a b : Int) : Bool := ov (mulV a b)
def mv (a b : Int) : Int := sv (mulV a b)
def ao (a b : Int) : Bool := ov (a + b)
def av (a b : Int) : Int := sv (a + b)
def so (a b : Int) : Bool := ov (a - b)
def zv (a b : Int) : Int := sv (a - b)
def dO (a b : Int) : Bool := if b = 0 then true else ov (divV a b)
def dv (a b : Int) : Int := if b = 0 then (if a = 0 then 0 else if a < 0 then -9223372036854775808 else 9223372036854775807) else sv (divV a b)
theorem mulS_eq (o : Bool) (a b : Int) : mulS o a b = (o || mo a b, mv a b) := satS_eq _ _
theorem addS_eq (o : Bool) (a b : Int) : addS o a b = (o || ao a b, av a b) := satS_eq _ _
theorem subS_eq (o : Bool) (a b : Int) : subS o a b = (o || so a b, zv a b) := satS_eq _ _
theorem divS_eq (o : Bool) (a b : Int) : divS o a b = (o || dO a b, dv a b) := by
  unfold divS dO dv
  by_cases h : b = 0
  · rw [if_pos h, if_pos h, if_pos h, Bool.or_true]
  · rw [if_neg h, if_neg h, if_neg h, satS_eq]
theorem mv_r (a b : Int) : I64 (mv a b) := sv_r _
theorem av_r (a b : Int) : I64 (av a b) := sv_r _
theorem zv_r (a b : Int) : I64 (zv a b) := sv_r _
theorem dv_r (a b : Int) : I64 (dv a b) := by
  unfold dv
  split
  · unfold I64; split <;> (try split) <;> omega
  · exact sv_r _
def evO (l : List Dot) (x : Int) : Bool := (evalS false l x).1
def evV (l : List Dot) (x : Int) : Int := (evalS false l x).2
theorem evalS_eq (o : Bool) (l : List Dot) (x : Int) : evalS o l x = (o || evO l x, evV l x) := by
  unfold evO evV evalS
  split
  · simp
  · split
    · simp
    · split
      · simp
      · unfold stretchS mixS
        simp only [subS_eq, divS_eq, mulS_eq, addS_eq, Bool.false_or, Bool.or_assoc]
theorem evV_r (l : List Dot) (x : Int) (h : ∀ d ∈ l, OkD d) : I64 (evV l x) := evalS_r false l x h
theorem root_one {S r s : Int} (h0 : 0 ≤ r) (h1 : r * r ≤ S) (h2 : S < (r + 1) * (r + 1)) (k0 : 0 ≤ s) (k1 : s * s ≤ S) (k2 : S < (s + 1) * (s + 1)) : r = s := by
  rcases Int.lt_trichotomy r s with h | h | h
  · exfalso
    have : (r + 1) * (r + 1) ≤ s * s := Int.mul_le_mul (by omega) (by omega) (by omega) (by omega)
    omega
  · exact h
  · exfalso
    have : (s + 1) * (s + 1) ≤ r * r := Int.mul_le_mul (by omega) (by omega) (by omega) (by omega)
    omega
noncomputable def rootV (S : Int) : Int := Classical.epsilon fun r => 0 ≤ r ∧ r * r ≤ S ∧ S < (r + 1) * (r + 1)
theorem rootV_eq {S r : Int} (h0 : 0 ≤ r) (h1 : r * r ≤ S) (h2 : S < (r + 1) * (r + 1)) : rootV S = r := by
  obtain ⟨k0, k1, k2⟩ := Classical.epsilon_spec (p := fun r => 0 ≤ r ∧ r * r ≤ S ∧ S < (r + 1) * (r + 1)) ⟨r, h0, h1, h2⟩
  exact root_one k0 k1 k2 h0 h1 h2
noncomputable def lenO (S : Int) : Bool := if S < 170141183460469231731687303715884105728 then decide (rootV S > 9223372036854775807) else true
noncomputable def lenV (S : Int) : Int := if S < 170141183460469231731687303715884105728 then (if rootV S > 9223372036854775807 then 9223372036854775807 else rootV S) else 9223372036854775807
noncomputable def lenS (o : Bool) (S : Int) : Bool × Int := if S < 170141183460469231731687303715884105728 then (if rootV S > 9223372036854775807 then (true, 9223372036854775807) else (o, rootV S)) else (true, 9223372036854775807)
theorem lenS_eq (o : Bool) (S : Int) : lenS o S = (o || lenO S, lenV S) := by
  unfold lenS lenO lenV
  by_cases h : S < 170141183460469231731687303715884105728
  · rw [if_pos h, if_pos h, if_pos h]
    by_cases h2 : rootV S > 9223372036854775807 <;> simp [h2]
  · rw [if_neg h, if_neg h, if_neg h, Bool.or_true]
theorem root_is : ∀ n : Nat, ∃ r : Int, 0 ≤ r ∧ r * r ≤ n ∧ (n : Int) < (r + 1) * (r + 1)
  | 0 => ⟨0, by omega, by decide, by decide⟩
  | n + 1 => by
    obtain ⟨r, h0, h1, h2⟩ := root_is n
    by_cases h : ((n + 1 : Nat) : Int) < (r + 1) * (r + 1)
    · exact ⟨r, h0, by omega, h⟩
    · refine ⟨r + 1, by omega, by omega, ?_⟩
      have : (r + 1 + 1) * (r + 1 + 1) = (r + 1) * (r + 1) + 2 * r + 3 := by grind
      omega
theorem rootV_is {S : Int} (h : 0 ≤ S) : 0 ≤ rootV S ∧ rootV S * rootV S ≤ S ∧ S < (rootV S + 1) * (rootV S + 1) := by
  obtain ⟨r, h0, h1, h2⟩ := root_is S.toNat
  rw [Int.toNat_of_nonneg h] at h1 h2
  rw [rootV_eq h0 h1 h2]
  exact ⟨h0, h1, h2⟩
theorem lenV_r {S : Int} (h : 0 ≤ S) : I64 (lenV S) := by
  have := rootV_is h
  unfold lenV I64
  split
  · split <;> omega
  · omega
theorem lenV_nn {S : Int} (h : 0 ≤ S) : 0 ≤ lenV S := by
  have := rootV_is h
  unfold lenV
  split
  · split <;> omega
  · omega
abbrev Vec := Int × Int × Int × Unit
abbrev Qua := Int × Int × Int × Int × Unit
abbrev Mtx := Vec × Vec × Vec × Unit
theorem sq_nonneg (a : Int) : 0 ≤ a * a := by
  rcases Int.le_total 0 a with h | h
  · exact Int.mul_nonneg h h
  · exact Int.mul_nonneg_of_nonpos_of_nonpos h h
def sq3 (v : Vec) : Int := v.1 * v.1 + (v.2.1 * v.2.1 + (v.2.2.1 * v.2.2.1 + 0))
def sq4 (q : Qua) : Int := q.1 * q.1 + (q.2.1 * q.2.1 + (q.2.2.1 * q.2.2.1 + (q.2.2.2.1 * q.2.2.2.1 + 0)))
theorem sq3_nn (v : Vec) : 0 ≤ sq3 v := by
  unfold sq3
  have h1 := sq_nonneg v.1; have h2 := sq_nonneg v.2.1; have h3 := sq_nonneg v.2.2.1
  omega
theorem sq4_nn (v : Qua) : 0 ≤ sq4 v := by
  unfold sq4
  have h1 := sq_nonneg v.1; have h2 := sq_nonneg v.2.1; have h3 := sq_nonneg v.2.2.1; have h4 := sq_nonneg v.2.2.2.1
  omega
def V64 (v : Vec) : Prop := I64 v.1 ∧ I64 v.2.1 ∧ I64 v.2.2.1
def Q64 (v : Qua) : Prop := I64 v.1 ∧ I64 v.2.1 ∧ I64 v.2.2.1 ∧ I64 v.2.2.2.1
def M64 (A : Mtx) : Prop := V64 A.1 ∧ V64 A.2.1 ∧ V64 A.2.2.1
def vmO (v : Vec) (s : Int) : Bool := mo v.1 s || (mo v.2.1 s || mo v.2.2.1 s)
def vmV (v : Vec) (s : Int) : Vec := (mv v.1 s, mv v.2.1 s, mv v.2.2.1 s, ())
def vdO (v : Vec) (s : Int) : Bool := dO v.1 s || (dO v.2.1 s || dO v.2.2.1 s)
def vdV (v : Vec) (s : Int) : Vec := (dv v.1 s, dv v.2.1 s, dv v.2.2.1 s, ())
def vaO (v w : Vec) : Bool := ao v.1 w.1 || (ao v.2.1 w.2.1 || ao v.2.2.1 w.2.2.1)
def vaV (v w : Vec) : Vec := (av v.1 w.1, av v.2.1 w.2.1, av v.2.2.1 w.2.2.1, ())
def vsO (v w : Vec) : Bool := so v.1 w.1 || (so v.2.1 w.2.1 || so v.2.2.1 w.2.2.1)
def vsV (v w : Vec) : Vec := (zv v.1 w.1, zv v.2.1 w.2.1, zv v.2.2.1 w.2.2.1, ())
theorem vmV_r (v : Vec) (s : Int) : V64 (vmV v s) := ⟨mv_r _ _, mv_r _ _, mv_r _ _⟩
theorem vdV_r (v : Vec) (s : Int) : V64 (vdV v s) := ⟨dv_r _ _, dv_r _ _, dv_r _ _⟩
theorem vaV_r (v w : Vec) : V64 (vaV v w) := ⟨av_r _ _, av_r _ _, av_r _ _⟩
theorem vsV_r (v w : Vec) : V64 (vsV v w) := ⟨zv_r _ _, zv_r _ _, zv_r _ _⟩
def clV (x lo hi : Int) : Int := if x < lo then lo else if x > hi then hi else x
theorem clV_r {x lo hi : Int} (h : I64 x) (h1 : I64 lo) (h2 : I64 hi) : I64 (clV x lo hi) := by unfold clV; split; assumption; split <;> assumption
def vkV (v : Vec) (c : Int) : Vec := (clV v.1 (IntKind.i64.wrap (0 - c)) c, clV v.2.1 (IntKind.i64.wrap (0 - c)) c, clV v.2.2.1 (IntKind.i64.wrap (0 - c)) c, ())
theorem wrap_r (a : Int) : I64 (IntKind.i64.wrap a) := by rw [IntKind.wrap_i64]; unfold I64; omega
theorem vkV_r {v : Vec} {c : Int} (h : V64 v) (hc : I64 c) : V64 (vkV v c) := ⟨clV_r h.1 (wrap_r _) hc, clV_r h.2.1 (wrap_r _) hc, clV_r h.2.2 (wrap_r _) hc⟩
def vcL (v w : Vec) : Vec := (mv v.2.1 w.2.2.1, mv v.2.2.1 w.1, mv v.1 w.2.1, ())
def vcR (v w : Vec) : Vec := (mv v.2.2.1 w.2.1, mv v.1 w.2.2.1, mv v.2.1 w.1, ())
def vcO (v w : Vec) : Bool := mo v.2.1 w.2.2.1 || (mo v.2.2.1 w.1 || (mo v.1 w.2.1 || (mo v.2.2.1 w.2.1 || (mo v.1 w.2.2.1 || (mo v.2.1 w.1 || vsO (vcL v w) (vcR v w))))))
def vcV (v w : Vec) : Vec := vsV (vcL v w) (vcR v w)
theorem vcV_r (v w : Vec) : V64 (vcV v w) := vsV_r _ _
def dgO (a b : Int) : Bool := mo a a || (mo b b || (ao (mv a a) (mv b b) || (ao (av (mv a a) (mv b b)) (av (mv a a) (mv b b)) || so 4294967296 (av (av (mv a a) (mv b b)) (av (mv a a) (mv b b))))))
def dgV (a b : Int) : Int := zv 4294967296 (av (av (mv a a) (mv b b)) (av (mv a a) (mv b b)))
def upO (a b c d : Int) : Bool := mo a b || (mo c d || (ao (mv a b) (mv c d) || ao (av (mv a b) (mv c d)) (av (mv a b) (mv c d))))
def upV (a b c d : Int) : Int := av (av (mv a b) (mv c d)) (av (mv a b) (mv c d))
def dnO (a b c d : Int) : Bool := mo a b || (mo c d || (so (mv a b) (mv c d) || ao (zv (mv a b) (mv c d)) (zv (mv a b) (mv c d))))
def dnV (a b c d : Int) : Int := av (zv (mv a b) (mv c d)) (zv (mv a b) (mv c d))
def mxO (q : Qua) : Bool :=
  dgO q.2.2.1 q.2.2.2.1 || (dnO q.2.1 q.2.2.1 q.1 q.2.2.2.1 || (upO q.2.1 q.2.2.2.1 q.1 q.2.2.1 ||
  (upO q.2.1 q.2.2.1 q.1 q.2.2.2.1 || (dgO q.2.1 q.2.2.2.1 || (dnO q.2.2.1 q.2.2.2.1 q.1 q.2.1 ||
  (dnO q.2.1 q.2.2.2.1 q.1 q.2.2.1 || (upO q.2.2.1 q.2.2.2.1 q.1 q.2.1 || dgO q.2.1 q.2.2.1)))))))
def mxV (q : Qua) : Mtx :=
  ((dgV q.2.2.1 q.2.2.2.1, dnV q.2.1 q.2.2.1 q.1 q.2.2.2.1, upV q.2.1 q.2.2.2.1 q.1 q.2.2.1, ()),
  (upV q.2.1 q.2.2.1 q.1 q.2.2.2.1, dgV q.2.1 q.2.2.2.1, dnV q.2.2.1 q.2.2.2.1 q.1 q.2.1, ()),
  (dnV q.2.1 q.2.2.2.1 q.1 q.2.2.1, upV q.2.2.1 q.2.2.2.1 q.1 q.2.1, dgV q.2.1 q.2.2.1, ()), ())
theorem mxV_r (q : Qua) : M64 (mxV q) := ⟨⟨zv_r _ _, av_r _ _, av_r _ _⟩, ⟨av_r _ _, zv_r _ _, av_r _ _⟩, ⟨av_r _ _, av_r _ _, zv_r _ _⟩⟩
def bk1 (A : Mtx) (v : Vec) : Vec := vaV (vmV A.1 v.1) (vmV A.2.1 v.2.1)
def bkO (A : Mtx) (v : Vec) : Bool := vmO A.1 v.1 || (vmO A.2.1 v.2.1 || (vmO A.2.2.1 v.2.2.1 || (vaO (vmV A.1 v.1) (vmV A.2.1 v.2.1) || vaO (bk1 A v) (vmV A.2.2.1 v.2.2.1))))
def bkV (A : Mtx) (v : Vec) : Vec := vaV (bk1 A v) (vmV A.2.2.1 v.2.2.1)
theorem bkV_r (A : Mtx) (v : Vec) : V64 (bkV A v) := vaV_r _ _
def q0V (p q : Qua) : Int := zv (zv (zv (mv p.1 q.1) (mv p.2.1 q.2.1)) (mv p.2.2.1 q.2.2.1)) (mv p.2.2.2.1 q.2.2.2.1)
def q1V (p q : Qua) : Int := zv (av (av (mv p.1 q.2.1) (mv p.2.1 q.1)) (mv p.2.2.1 q.2.2.2.1)) (mv p.2.2.2.1 q.2.2.1)
def q2V (p q : Qua) : Int := av (av (zv (mv p.1 q.2.2.1) (mv p.2.1 q.2.2.2.1)) (mv p.2.2.1 q.1)) (mv p.2.2.2.1 q.2.1)
def q3V (p q : Qua) : Int := av (zv (av (mv p.1 q.2.2.2.1) (mv p.2.1 q.2.2.1)) (mv p.2.2.1 q.2.1)) (mv p.2.2.2.1 q.1)
def q0O (p q : Qua) : Bool := mo p.1 q.1 || (mo p.2.1 q.2.1 || (so (mv p.1 q.1) (mv p.2.1 q.2.1) || (mo p.2.2.1 q.2.2.1 || (so (zv (mv p.1 q.1) (mv p.2.1 q.2.1)) (mv p.2.2.1 q.2.2.1) || (mo p.2.2.2.1 q.2.2.2.1 || so (zv (zv (mv p.1 q.1) (mv p.2.1 q.2.1)) (mv p.2.2.1 q.2.2.1)) (mv p.2.2.2.1 q.2.2.2.1))))))
def q1O (p q : Qua) : Bool := mo p.1 q.2.1 || (mo p.2.1 q.1 || (ao (mv p.1 q.2.1) (mv p.2.1 q.1) || (mo p.2.2.1 q.2.2.2.1 || (ao (av (mv p.1 q.2.1) (mv p.2.1 q.1)) (mv p.2.2.1 q.2.2.2.1) || (mo p.2.2.2.1 q.2.2.1 || so (av (av (mv p.1 q.2.1) (mv p.2.1 q.1)) (mv p.2.2.1 q.2.2.2.1)) (mv p.2.2.2.1 q.2.2.1))))))
def q2O (p q : Qua) : Bool := mo p.1 q.2.2.1 || (mo p.2.1 q.2.2.2.1 || (so (mv p.1 q.2.2.1) (mv p.2.1 q.2.2.2.1) || (mo p.2.2.1 q.1 || (ao (zv (mv p.1 q.2.2.1) (mv p.2.1 q.2.2.2.1)) (mv p.2.2.1 q.1) || (mo p.2.2.2.1 q.2.1 || ao (av (zv (mv p.1 q.2.2.1) (mv p.2.1 q.2.2.2.1)) (mv p.2.2.1 q.1)) (mv p.2.2.2.1 q.2.1))))))
def q3O (p q : Qua) : Bool := mo p.1 q.2.2.2.1 || (mo p.2.1 q.2.2.1 || (ao (mv p.1 q.2.2.2.1) (mv p.2.1 q.2.2.1) || (mo p.2.2.1 q.2.1 || (so (av (mv p.1 q.2.2.2.1) (mv p.2.1 q.2.2.1)) (mv p.2.2.1 q.2.1) || (mo p.2.2.2.1 q.1 || ao (zv (av (mv p.1 q.2.2.2.1) (mv p.2.1 q.2.2.1)) (mv p.2.2.1 q.2.1)) (mv p.2.2.2.1 q.1))))))
def qmO (p q : Qua) : Bool := q0O p q || (q1O p q || (q2O p q || q3O p q))
def qmV (p q : Qua) : Qua := (q0V p q, q1V p q, q2V p q, q3V p q, ())
theorem qmV_r (p q : Qua) : Q64 (qmV p q) := ⟨zv_r _ _, zv_r _ _, av_r _ _, av_r _ _⟩
noncomputable def quN (q : Qua) : Int := lenV (sq4 q)
noncomputable def quO (q : Qua) : Bool := lenO (sq4 q) || (if quN q = 0 then false else (dO q.1 (quN q) || (dO q.2.1 (quN q) || (dO q.2.2.1 (quN q) || dO q.2.2.2.1 (quN q)))))
noncomputable def quV (q : Qua) : Qua := if quN q = 0 then (4294967296, 0, 0, 0, ()) else (dv q.1 (quN q), dv q.2.1 (quN q), dv q.2.2.1 (quN q), dv q.2.2.2.1 (quN q), ())
theorem quV_r (q : Qua) : Q64 (quV q) := by
  unfold quV
  split
  · unfold Q64 I64; simp
  · exact ⟨dv_r _ _, dv_r _ _, dv_r _ _, dv_r _ _⟩
def hfO (a t : Int) : Bool := mo a t || mo (mv a t) 2147483648
def hfV (a t : Int) : Int := mv (mv a t) 2147483648
def qnV (q : Qua) (w : Vec) (t : Int) : Qua := (av q.1 (hfV (q0V q (0, w)) t), av q.2.1 (hfV (q1V q (0, w)) t), av q.2.2.1 (hfV (q2V q (0, w)) t), av q.2.2.2.1 (hfV (q3V q (0, w)) t), ())
def qnO (q : Qua) (w : Vec) (t : Int) : Bool := qmO q (0, w) || (hfO (q0V q (0, w)) t || (hfO (q1V q (0, w)) t || (hfO (q2V q (0, w)) t || (hfO (q3V q (0, w)) t ||
  (ao q.1 (hfV (q0V q (0, w)) t) || (ao q.2.1 (hfV (q1V q (0, w)) t) || (ao q.2.2.1 (hfV (q2V q (0, w)) t) || ao q.2.2.2.1 (hfV (q3V q (0, w)) t))))))))
theorem qnV_r (q : Qua) (w : Vec) (t : Int) : Q64 (qnV q w t) := ⟨av_r _ _, av_r _ _, av_r _ _, av_r _ _⟩
noncomputable def qsO (q : Qua) (w : Vec) (t : Int) : Bool := qnO q w t || quO (qnV q w t)
noncomputable def qsV (q : Qua) (w : Vec) (t : Int) : Qua := quV (qnV q w t)
theorem qsV_r (q : Qua) (w : Vec) (t : Int) : Q64 (qsV q w t) := quV_r _
end Go.Ab
