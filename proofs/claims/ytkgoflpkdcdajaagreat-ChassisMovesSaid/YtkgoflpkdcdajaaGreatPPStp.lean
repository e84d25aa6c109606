/- Plain Lean: what the laws of this program's functions come to, in numbers and lists; no program is run here. -/
import Derived.Test.YtkgoflpkdcdajaaGreatPPFin
set_option linter.unusedVariables false
set_option linter.unusedSimpArgs false
set_option maxRecDepth 100000
namespace Go.Ab
open Go Go.IntWalk
/-
  A body's step fits: a car that may be, a body and pushes within their bounds. It names no program.
-/
theorem root_in {a S r : Int} (h0 : 0 ≤ r) (h : a * a ≤ S) (h2 : S < (r + 1) * (r + 1)) : In a r := by
  unfold In
  constructor
  · rcases Int.lt_or_le a (-r) with h1 | h1
    · have this : (r + 1) * (r + 1) ≤ -a * -a := Int.mul_le_mul (by omega) (by omega) (by omega) (by omega)
      rw [Int.neg_mul_neg] at this; omega
    · exact h1
  · rcases Int.lt_or_le r a with h1 | h1
    · have this : (r + 1) * (r + 1) ≤ a * a := Int.mul_le_mul (by omega) (by omega) (by omega) (by omega)
      omega
    · exact h1
theorem len_in {S : Int} (h : 0 ≤ S) (hS : S ≤ 1267650600228229401496703205376) : lenO S = false ∧ lenV S = rootV S ∧ 0 ≤ rootV S ∧ rootV S * rootV S ≤ S ∧ S < (rootV S + 1) * (rootV S + 1) ∧ rootV S ≤ 1125899906842624 := by
  obtain ⟨h0, h1, h2⟩ := rootV_is h
  have h3 : rootV S ≤ 1125899906842624 := by
    apply Int.not_lt.1
    intro hl
    have : (1125899906842624 + 1 : Int) * (1125899906842624 + 1) ≤ rootV S * rootV S := Int.mul_le_mul (by omega) (by omega) (by decide) h0
    omega
  unfold lenO lenV
  rw [if_pos (by omega), if_pos (by omega), if_neg (by omega), decide_eq_false (by omega)]
  exact ⟨rfl, rfl, h0, h1, h2, h3⟩
theorem sq_in {a A : Int} (h : In a A) : 0 ≤ a * a ∧ a * a ≤ A * A := ⟨sq_nonneg a, mul_up h h⟩
theorem len3_in {v : Vec} (h : VIn v 549755813888) : lenO (sq3 v) = false ∧ 0 ≤ lenV (sq3 v) ∧ lenV (sq3 v) ≤ 1125899906842624 ∧ VIn v (lenV (sq3 v)) := by
  have s1 := sq_in h.1; have s2 := sq_in h.2.1; have s3 := sq_in h.2.2
  have e : sq3 v = v.1 * v.1 + (v.2.1 * v.2.1 + (v.2.2.1 * v.2.2.1 + 0)) := rfl
  obtain ⟨h1, h2, h3, h4, h5, h6⟩ := len_in (sq3_nn v) (by omega)
  rw [h2]
  exact ⟨h1, h3, h6, root_in h3 (by omega) h5, root_in h3 (by omega) h5, root_in h3 (by omega) h5⟩
theorem len4_in {q : Qua} (h : QIn q 17179869184) : lenO (sq4 q) = false ∧ lenV (sq4 q) = rootV (sq4 q) ∧ 0 ≤ rootV (sq4 q) ∧ rootV (sq4 q) * rootV (sq4 q) ≤ sq4 q ∧ sq4 q < (rootV (sq4 q) + 1) * (rootV (sq4 q) + 1) ∧ rootV (sq4 q) ≤ 1125899906842624 ∧ QIn q (rootV (sq4 q)) := by
  have s1 := sq_in h.1; have s2 := sq_in h.2.1; have s3 := sq_in h.2.2.1; have s4 := sq_in h.2.2.2
  have e : sq4 q = q.1 * q.1 + (q.2.1 * q.2.1 + (q.2.2.1 * q.2.2.1 + (q.2.2.2.1 * q.2.2.2.1 + 0))) := rfl
  obtain ⟨h1, h2, h3, h4, h5, h6⟩ := len_in (sq4_nn q) (by omega)
  exact ⟨h1, h2, h3, h4, h5, h6, root_in h3 (by omega) h5, root_in h3 (by omega) h5, root_in h3 (by omega) h5, root_in h3 (by omega) h5⟩
def Air (t : List Dot) : Prop := ∀ r, evO t r = false ∧ 0 ≤ evV t r ∧ evV t r ≤ 140737488355328
theorem ar_in {t : List Dot} {v : Vec} (ht : Air t) (h : VIn v 549755813888) : arO t v = false ∧ VIn (arV t v) 140737488355328 := by
  obtain ⟨h1, h2, h3, h4⟩ := len3_in h
  unfold arO arV
  rw [h1]
  generalize lenV (sq3 v) = n at *
  by_cases h0 : n = 0
  · rw [if_pos h0, if_pos h0]
    exact ⟨rfl, vin_zero (by decide)⟩
  · rw [if_neg h0, if_neg h0]
    obtain ⟨t1, t2, t3⟩ := ht n
    obtain ⟨a1, a2⟩ := vd_in (K := 4294967296) h4 (s := n) (by omega) (by rw [Int.mul_comm]; exact Int.le_refl _) (by decide)
    have hz : In (0 : Int) 0 := in_zero (Int.le_refl _)
    have he : In (evV t n) 140737488355328 := by unfold In; omega
    obtain ⟨b1, b2, -⟩ := sub_in (K := 140737488355328) hz he (by decide) (by decide)
    obtain ⟨c1, c2⟩ := vm_in (K := 140737488355328) a2 b2 (by decide) (by decide)
    rw [t1, a1, b1, c1]
    exact ⟨rfl, c2⟩
theorem wt_in {m : Int} (h : In m 35184372088832) : wtO m = false ∧ VIn (wtV m) 562949953421312 := by
  have hG : In 42133629174 42133629174 := by unfold In; omega
  obtain ⟨a1, a2, -⟩ := mul_in (K := 562949953421312) h hG (by decide) (by decide)
  obtain ⟨b1, b2, -⟩ := sub_in (K := 562949953421312) (in_zero (Int.le_refl 0)) a2 (by decide) (by decide)
  unfold wtO; rw [a1, b1]
  exact ⟨rfl, in_zero (by decide), in_zero (by decide), b2⟩
theorem gy_in {J w : Vec} (hJ : VIn J 281474976710656) (hw : VIn w 137438953472) : gyO J w = false ∧ VIn (gyV J w) 576460752303423488 := by
  obtain ⟨a1, a2, -⟩ := mul_in (K := 9007199254740992) hJ.1 hw.1 (by decide) (by decide)
  obtain ⟨b1, b2, -⟩ := mul_in (K := 9007199254740992) hJ.2.1 hw.2.1 (by decide) (by decide)
  obtain ⟨c1, c2, -⟩ := mul_in (K := 9007199254740992) hJ.2.2 hw.2.2 (by decide) (by decide)
  have hj : VIn (jwV J w) 9007199254740992 := ⟨a2, b2, c2⟩
  obtain ⟨d1, d2⟩ := vc_in (K := 288230376151711744) hw hj (by decide) (by decide)
  unfold gyO; rw [a1, b1, c1, d1]
  exact ⟨rfl, d2⟩
structure Fit (m : Int) (J : Vec) (t : List Dot) (b : Bod) (l : List Psh) (dt : Int) : Prop where
  m0 : 274877906944 ≤ m
  m1 : m ≤ 35184372088832
  jj : VIn J 281474976710656
  j0 : 68719476736 ≤ J.1 ∧ 68719476736 ≤ J.2.1 ∧ 68719476736 ≤ J.2.2.1
  ta : Air t
  p : VIn b.1 281406257233920
  v : VIn b.2.1 549755813888
  q : QIn b.2.2.1 4294967312
  w : VIn b.2.2.2.1 137438953472
  ps : ∀ p ∈ l, VIn p.1 18014398509481984 ∧ VIn p.2.1 34359738368
  n : l.length ≤ 8
  td : In dt 71582788
theorem fo_in {m : Int} {J : Vec} {t : List Dot} {b : Bod} {l : List Psh} {dt : Int} (h : Fit m J t b l dt) : foO m t b.2.1 l = false ∧ VIn (foV m t b.2.1 l) 18014398509481984 := by
  have hm : In m 35184372088832 := by have := h.m0; have := h.m1; unfold In; omega
  obtain ⟨a1, a2⟩ := wt_in hm
  obtain ⟨b1, b2⟩ := ar_in h.ta h.v
  obtain ⟨c1, c2⟩ := va_in (K := 703687441776640) a2 b2 (by decide) (by decide)
  have hn := h.n
  have hF : ((l.length : Int)) * 18014398509481984 ≤ 8 * 18014398509481984 := Int.mul_le_mul_of_nonneg_right (by omega) (by decide)
  obtain ⟨d1, d2⟩ := ps_in (F := 18014398509481984) (by decide) l (A := 703687441776640) (K := 288230376151711744) (fun p hp => (h.ps p hp).1) c2 (by omega) (by decide)
  unfold foO f0V; rw [a1, b1, c1, d1]
  exact ⟨rfl, vk_in (by decide)⟩
theorem to_in {l : List Psh} (hl : ∀ p ∈ l, VIn p.1 18014398509481984 ∧ VIn p.2.1 34359738368) (hn : l.length ≤ 8) : toO l = false ∧ VIn (toV l) 288230376151711744 := by
  have hF : ((l.length : Int)) * (144115188075855872 + 144115188075855872) ≤ 8 * (144115188075855872 + 144115188075855872) := Int.mul_le_mul_of_nonneg_right (by omega) (by decide)
  obtain ⟨d1, d2⟩ := tq_in (F := 18014398509481984) (R := 34359738368) (T := 144115188075855872) (by decide) (by decide) l (v := (0, 0, 0, ())) (A := 0) (K := 2305843009213693952) hl (vin_zero (Int.le_refl _)) (by omega) (by decide)
  unfold toO; rw [d1]
  exact ⟨rfl, vk_in (by decide)⟩
theorem qm_in {q : Qua} {w : Vec} (hq : QIn q 4294967312) (hw : VIn w 137438953472) : qmO q (0, w) = false ∧ QIn (qmV q (0, w)) 549755815936 := by
  have hz : In (0 : Int) 137438953472 := in_zero (by decide)
  obtain ⟨q1, q2, q3, q4⟩ := hq
  obtain ⟨w1, w2, w3⟩ := hw
  have P := fun {a b : Int} (ha : In a 4294967312) (hb : In b 137438953472) => mul_in (K := 137438953984) ha hb (by decide) (by decide)
  have A2 := fun {a b : Int} (ha : In a 137438953984) (hb : In b 137438953984) => add_in (K := 274877907968) ha hb (by decide) (by decide)
  have Z2 := fun {a b : Int} (ha : In a 137438953984) (hb : In b 137438953984) => sub_in (K := 274877907968) ha hb (by decide) (by decide)
  have A3 := fun {a b : Int} (ha : In a 274877907968) (hb : In b 137438953984) => add_in (K := 412316861952) ha hb (by decide) (by decide)
  have Z3 := fun {a b : Int} (ha : In a 274877907968) (hb : In b 137438953984) => sub_in (K := 412316861952) ha hb (by decide) (by decide)
  have A4 := fun {a b : Int} (ha : In a 412316861952) (hb : In b 137438953984) => add_in (K := 549755815936) ha hb (by decide) (by decide)
  have Z4 := fun {a b : Int} (ha : In a 412316861952) (hb : In b 137438953984) => sub_in (K := 549755815936) ha hb (by decide) (by decide)
  have k0 : q0O q (0, w) = false ∧ In (q0V q (0, w)) 549755815936 := by
    unfold q0O q0V
    have x1 := P q1 hz; have x2 := P q2 w1; have x3 := P q3 w2; have x4 := P q4 w3
    have y1 := Z2 x1.2.1 x2.2.1; have y2 := Z3 y1.2.1 x3.2.1; have y3 := Z4 y2.2.1 x4.2.1
    exact ⟨by simp only [x1.1, x2.1, x3.1, x4.1, y1.1, y2.1, y3.1, Bool.or_self], y3.2.1⟩
  have k1 : q1O q (0, w) = false ∧ In (q1V q (0, w)) 549755815936 := by
    unfold q1O q1V
    have x1 := P q1 w1; have x2 := P q2 hz; have x3 := P q3 w3; have x4 := P q4 w2
    have y1 := A2 x1.2.1 x2.2.1; have y2 := A3 y1.2.1 x3.2.1; have y3 := Z4 y2.2.1 x4.2.1
    exact ⟨by simp only [x1.1, x2.1, x3.1, x4.1, y1.1, y2.1, y3.1, Bool.or_self], y3.2.1⟩
  have k2 : q2O q (0, w) = false ∧ In (q2V q (0, w)) 549755815936 := by
    unfold q2O q2V
    have x1 := P q1 w2; have x2 := P q2 w3; have x3 := P q3 hz; have x4 := P q4 w1
    have y1 := Z2 x1.2.1 x2.2.1; have y2 := A3 y1.2.1 x3.2.1; have y3 := A4 y2.2.1 x4.2.1
    exact ⟨by simp only [x1.1, x2.1, x3.1, x4.1, y1.1, y2.1, y3.1, Bool.or_self], y3.2.1⟩
  have k3 : q3O q (0, w) = false ∧ In (q3V q (0, w)) 549755815936 := by
    unfold q3O q3V
    have x1 := P q1 w3; have x2 := P q2 w2; have x3 := P q3 w1; have x4 := P q4 hz
    have y1 := A2 x1.2.1 x2.2.1; have y2 := Z3 y1.2.1 x3.2.1; have y3 := A4 y2.2.1 x4.2.1
    exact ⟨by simp only [x1.1, x2.1, x3.1, x4.1, y1.1, y2.1, y3.1, Bool.or_self], y3.2.1⟩
  unfold qmO; rw [k0.1, k1.1, k2.1, k3.1]
  exact ⟨rfl, k0.2, k1.2, k2.2, k3.2⟩
theorem hf_in {a t : Int} (ha : In a 549755815936) (ht : In t 71582788) : hfO a t = false ∧ In (hfV a t) 4581500000 := by
  obtain ⟨a1, a2, -⟩ := mul_in (K := 9163000000) ha ht (by decide) (by decide)
  have h2 : In 2147483648 2147483648 := by unfold In; omega
  obtain ⟨b1, b2, -⟩ := mul_in (K := 4581500000) a2 h2 (by decide) (by decide)
  unfold hfO hfV; rw [a1, b1]
  exact ⟨rfl, b2⟩
theorem qn_in {q : Qua} {w : Vec} {t : Int} (hq : QIn q 4294967312) (hw : VIn w 137438953472) (ht : In t 71582788) : qnO q w t = false ∧ QIn (qnV q w t) 17179869184 := by
  obtain ⟨m1, m2⟩ := qm_in hq hw
  obtain ⟨a1, a2⟩ := hf_in m2.1 ht
  obtain ⟨b1, b2⟩ := hf_in m2.2.1 ht
  obtain ⟨c1, c2⟩ := hf_in m2.2.2.1 ht
  obtain ⟨d1, d2⟩ := hf_in m2.2.2.2 ht
  simp only [qmV] at a1 a2 b1 b2 c1 c2 d1 d2
  obtain ⟨e1, e2, -⟩ := add_in (K := 17179869184) hq.1 a2 (by decide) (by decide)
  obtain ⟨f1, f2, -⟩ := add_in (K := 17179869184) hq.2.1 b2 (by decide) (by decide)
  obtain ⟨g1, g2, -⟩ := add_in (K := 17179869184) hq.2.2.1 c2 (by decide) (by decide)
  obtain ⟨i1, i2, -⟩ := add_in (K := 17179869184) hq.2.2.2 d2 (by decide) (by decide)
  unfold qnO; rw [m1, a1, b1, c1, d1, e1, f1, g1, i1]
  exact ⟨rfl, e2, f2, g2, i2⟩
theorem qu_in {q : Qua} (h : QIn q 17179869184) : quO q = false ∧ QIn (quV q) 4294967296 := by
  obtain ⟨h1, h2, h3, h4, h5, h6, h7⟩ := len4_in h
  unfold quO quV quN
  rw [h1, h2]
  generalize rootV (sq4 q) = n at *
  by_cases h0 : n = 0
  · rw [if_pos h0, if_pos h0]
    refine ⟨rfl, ?_, in_zero (by decide), in_zero (by decide), in_zero (by decide)⟩
    show In 4294967296 4294967296
    unfold In; omega
  · rw [if_neg h0, if_neg h0]
    have D := fun {a : Int} (ha : In a n) => div_in (K := 4294967296) ha (b := n) (by omega) (by rw [Int.mul_comm]; exact Int.le_refl _) (by decide)
    have d1 := D h7.1; have d2 := D h7.2.1; have d3 := D h7.2.2.1; have d4 := D h7.2.2.2
    rw [d1.1, d2.1, d3.1, d4.1]
    exact ⟨rfl, d1.2.1, d2.2.1, d3.2.1, d4.2.1⟩
theorem qs_in {q : Qua} {w : Vec} {t : Int} (hq : QIn q 4294967312) (hw : VIn w 137438953472) (ht : In t 71582788) : qsO q w t = false ∧ QIn (qsV q w t) 4294967296 := by
  obtain ⟨a1, a2⟩ := qn_in hq hw ht
  obtain ⟨b1, b2⟩ := qu_in a2
  unfold qsO; rw [a1, b1]
  exact ⟨rfl, b2⟩
theorem tu_in {m : Int} {J : Vec} {t : List Dot} {b : Bod} {l : List Psh} {dt : Int} (h : Fit m J t b l dt) : mxO b.2.2.1 = false ∧ toO l = false ∧ bkO (mxV b.2.2.1) (toV l) = false ∧ gyO J b.2.2.2.1 = false ∧ vsO (bkV (mxV b.2.2.1) (toV l)) (gyV J b.2.2.2.1) = false ∧ dOJ (tuV b J l) J = false ∧ VIn (dvJ (tuV b J l) J) 468374361246531584 := by
  obtain ⟨a1, a2, a3, a4⟩ := mx_in h.q
  obtain ⟨b1, b2⟩ := to_in h.ps h.n
  obtain ⟨c1, c2⟩ := bk_in (K := 2305843009213693952) a2 a3 a4 b2 (by decide) (by decide)
  obtain ⟨d1, d2⟩ := gy_in h.jj h.w
  obtain ⟨e1, e2⟩ := vs_in (K := 7493989779944505344) c2 d2 (by decide) (by decide)
  obtain ⟨j1, j2, j3⟩ := h.j0
  have D := fun {a j : Int} (ha : In a 7493989779944505344) (hj : 68719476736 ≤ j) => div_in (K := 468374361246531584) ha (b := j) (by omega) (by
    have : (468374361246531584 : Int) * 68719476736 ≤ 468374361246531584 * j := Int.mul_le_mul_of_nonneg_left hj (by decide)
    omega) (by decide)
  have f1 := D e2.1 j1; have f2 := D e2.2.1 j2; have f3 := D e2.2.2 j3
  refine ⟨a1, b1, c1, d1, e1, ?_, f1.2.1, f2.2.1, f3.2.1⟩
  unfold dOJ tuV
  rw [f1.1, f2.1, f3.1]; rfl
theorem st_in {m : Int} {J : Vec} {t : List Dot} {b : Bod} {l : List Psh} {dt : Int} (h : Fit m J t b l dt) : stO m J t b l dt = false := by
  obtain ⟨a1, a2⟩ := fo_in h
  obtain ⟨b1, b2, b3, b4, b5, b6, b7⟩ := tu_in h
  have hm := h.m0
  obtain ⟨c1, c2⟩ := vd_in (K := 281474976710656) a2 (s := m) (by omega) (by omega) (by decide)
  obtain ⟨d1, d2⟩ := vm_in (K := 8796093022208) c2 h.td (by decide) (by decide)
  obtain ⟨e1, e2⟩ := va_in (K := 17592186044416) h.v d2 (by decide) (by decide)
  obtain ⟨f1, f2⟩ := vm_in (K := 9007199254740992) b7 h.td (by decide) (by decide)
  obtain ⟨g1, g2⟩ := va_in (K := 18014398509481984) h.w f2 (by decide) (by decide)
  have hs : VIn (stS m t b l dt) 549755813888 := vk_in (by decide)
  have hw : VIn (stW J b l dt) 137438953472 := vk_in (by decide)
  obtain ⟨i1, i2⟩ := vm_in (K := 17179869184) hs h.td (by decide) (by decide)
  obtain ⟨j1, j2⟩ := va_in (K := 562949953421312) h.p i2 (by decide) (by decide)
  obtain ⟨k1, k2⟩ := qs_in h.q hw h.td
  unfold stO onO stA
  rw [a1, b1, b2, b3, b4, b5, b6, c1, d1, e1, f1, g1, i1, j1, k1]
  rfl
end Go.Ab
