/- Plain Lean: what the laws of this program's functions come to, in numbers and lists; no program is run here. -/
import Derived.Test.YtkgoflpkdcdajaaGreatPPMov
set_option linter.unusedVariables false
set_option linter.unusedSimpArgs false
set_option maxRecDepth 100000
namespace Go.Proofs.YtkgoflpkdcdajaaGreat
open Go Go.Ab Go.Proofs Go.IntWalk
/- ChassisMoves in plain Lean (r28). -/
def cmpV (a b : Int) : Int := if a < b then -1 else if a > b then 1 else 0
theorem cmp118 (x : Int × Int × Unit) : fn118 x = some (cmpV x.1 x.2.1, ()) := by
  show law118 x = _; unfold law118 cmpV
  refine (bifF (by simp)).trans ((bifF (by simp)).trans ?_)
  by_cases h1 : x.1 < x.2.1
  · rw [if_pos h1]; exact bifT (decide_eq_true h1)
  · rw [if_neg h1]
    refine (bifF (decide_eq_false h1)).trans ?_
    by_cases h2 : x.1 > x.2.1
    · rw [if_pos h2]; exact bifT (decide_eq_true h2)
    · rw [if_neg h2]; exact bifF (decide_eq_false h2)
theorem cmp119 (x : Int × Int × Unit) : fn119 x = some (cmpV x.1 x.2.1, ()) := by
  show law119 x = _; unfold law119 cmpV
  refine (bifF (by simp)).trans ((bifF (by simp)).trans ?_)
  by_cases h1 : x.1 < x.2.1
  · rw [if_pos h1]; exact bifT (decide_eq_true h1)
  · rw [if_neg h1]
    refine (bifF (decide_eq_false h1)).trans ?_
    by_cases h2 : x.1 > x.2.1
    · rw [if_pos h2]; exact bifT (decide_eq_true h2)
    · rw [if_neg h2]; exact bifF (decide_eq_false h2)
theorem lx117 (M : Nat) (a b : Int) : law117 (M + 3) ([a, b], ()) = some (if a ≠ 0 then a else b, ()) := by
  unfold law117
  have w1 : IntKind.i64.wrap ((0 : Int) + 1) = 1 := by decide
  have w2 : IntKind.i64.wrap ((1 : Int) + 1) = 2 := by decide
  by_cases ha : a = 0
  · rw [if_neg (by omega)]
    subst ha
    refine (bifT rfl).trans ((bifT rfl).trans ((bindT (v := (0 : Int)) rfl).trans ((bifF rfl).trans ?_)))
    rw [w1]
    refine (bifT rfl).trans ((bifT rfl).trans ((bindT (v := b) rfl).trans ?_))
    by_cases hb : b = 0
    · subst hb
      refine (bifF rfl).trans ?_
      rw [w2]
      exact (bifF rfl).trans rfl
    · exact bifT (by simpa using hb)
  · rw [if_pos ha]
    exact (bifT rfl).trans ((bifT rfl).trans ((bindT (v := a) rfl).trans (bifT (by simpa using ha))))
theorem or117 (a b : Int) : fn117 ([a, b], ()) = some (if a ≠ 0 then a else b, ()) := by
  obtain ⟨M, hM⟩ : ∃ M, 10 ^ 30 = M + 3 := ⟨10 ^ 30 - 3, by omega⟩
  have := lx117 M a b
  rw [← hM] at this
  exact this
theorem cmp72 (a b : Int) : fn72 (wd a, wd b, ()) = some (cmpV a b, ()) := by
  show law72 _ = _; unfold law72
  refine (bindT (cmp118 ((wd a).1, (wd b).1, ()))).trans ((bindT (cmp119 ((wd a).2.1, (wd b).2.1, ()))).trans ((bindT (or117 _ _)).trans ?_))
  have : (if cmpV (wd a).1 (wd b).1 ≠ 0 then cmpV (wd a).1 (wd b).1 else cmpV (wd a).2.1 (wd b).2.1) = cmpV a b := by
    unfold cmpV wd
    simp only
    repeat' split
    all_goals omega
  simp only [this]
theorem ex26 (x : Int × Int × Int × Unit) (h0 : I64 x.1) (h1 : I64 x.2.1) (h2 : I64 x.2.2.1) (h : In (x.2.1 * x.2.2.1 - x.1 * 4294967296) 2147483648) (hw : I64 (x.1 * 2)) : fn26 x = some (true, ()) := by
  have j : I64 4294967296 := by unfold I64; omega
  unfold In at h
  unfold I64 at hw
  have e0 := mul39 (x.1, 4294967296, ()) h0 j
  have e1 := neg31 (x.1 * 4294967296) (by unfold I128; omega) (by omega)
  have e2 := mul39 (x.2.1, x.2.2.1, ()) h1 h2
  have e3 := add33 (x.2.1 * x.2.2.1) (-(x.1 * 4294967296)) (by unfold I128; omega) (by unfold I128; omega) (by unfold I128; omega)
  have p1 : ((Int.fdiv 2147483648 (2 ^ min (Int.toNat 63) 64), IntKind.u64.wrap 2147483648, ()) : Int × Int × Unit) = wd 2147483648 := by decide
  have p2 : (((-2147483648 : Int).fdiv (2 ^ min (Int.toNat 63) 64), IntKind.u64.wrap (-2147483648), ()) : Int × Int × Unit) = wd (-2147483648) := by decide
  have c1 := cmp72 (x.2.1 * x.2.2.1 + -(x.1 * 4294967296)) 2147483648
  have c2 := cmp72 (x.2.1 * x.2.2.1 + -(x.1 * 4294967296)) (-2147483648)
  show law26 x = _; unfold law26
  refine (bindT e0).trans ((bindT e1).trans ((bindT e2).trans ((bindT e3).trans ((bifT rfl).trans ?_))))
  rw [p1, p2]
  refine (bindT c1).trans ((bifT (by rw [decide_eq_true_eq]; unfold cmpV; simp only; split <;> (try split) <;> omega)).trans ((bindT c2).trans ?_))
  have : decide (cmpV (x.2.1 * x.2.2.1 + -(x.1 * 4294967296)) (-2147483648) ≥ 0) = true := by rw [decide_eq_true_eq]; unfold cmpV; split <;> (try split) <;> omega
  simp only [this]
theorem pos_near {p s d : Int} (hp : In p 281406257233920) (hs : In s 549755813888) (hd : In d 71582788) : fn26 (IntKind.i64.wrap (av p (mv s d) - p), s, d, ()) = some (true, ()) := by
  obtain ⟨a1, a2, a3⟩ := mul_in (K := 17179869184) hs hd (by decide) (by decide)
  have n := mul_near (K := 17179869184) hs hd (by decide) (by decide)
  obtain ⟨b1, b2, b3⟩ := add_in (K := 562949953421312) hp a2 (by decide) (by decide)
  rw [b3]
  have e : IntKind.i64.wrap (p + mv s d - p) = mv s d := by
    rw [show p + mv s d - p = mv s d by omega, IntKind.wrap_i64]
    unfold In at a2; omega
  rw [e]
  refine ex26 _ (a2.i64 (by decide)) (hs.i64 (by decide)) (hd.i64 (by decide)) ?_ ?_
  · unfold In at *; simp only; omega
  · unfold In at a2; unfold I64; simp only; omega
theorem root_of_len {q : Qua} (h1 : 4294967280 ≤ lenV (sq4 q)) (h2 : lenV (sq4 q) ≤ 4294967312) : 4294967280 ≤ rootV (sq4 q) := by
  obtain ⟨k0, k1, k2, k3, k4, k5⟩ := len4_in (q := q) (by
    have := qin_len h2
    exact ⟨this.1.le (by decide), this.2.1.le (by decide), this.2.2.1.le (by decide), this.2.2.2.le (by decide)⟩)
  rw [← k1]; exact h1
theorem true8o (y : Sh.Ts [CarSh, BodySh, AskSh]) (hy : Sh.oks [CarSh, BodySh, AskSh] y) : fn8 y = some (true, ()) := by
  have hok : OkC y.1 := okC hy.1
  have hp : V64 y.2.1.1 := okV64' hy.2.1.1
  have hv : V64 y.2.1.2.1 := okV64' hy.2.1.2.1
  have hq : Q64 y.2.1.2.2.1 := okQ64' hy.2.1.2.2.1
  have hw : V64 y.2.1.2.2.2.1 := okV64' hy.2.1.2.2.2.1
  have hl : P64 y.2.2.1.1 := okP64' hy.2.2.1.1
  have hd : I64 y.2.2.1.2.1 := hy.2.2.1.2.1
  obtain ⟨bb, hb, hf⟩ := ex9 y.1 hok.steer hok.rate
  show law8 y = _
  unfold law8
  cases bb
  · exact (bindT hb).trans rfl
  have hf := hf rfl
  refine (bindT hb).trans ((bifF rfl).trans ?_)
  by_cases hn : (y.2.2.1.1.length : Int) ≤ 20
  case neg => exact bifT (by rw [Bool.not_eq_true', decide_eq_false_iff_not]; exact hn)
  refine (bifF (by rw [Bool.not_eq_false', decide_eq_true_eq]; exact hn)).trans ?_
  have hn : y.2.2.1.1.length ≤ 20 := by omega
  obtain ⟨t, h22, ht⟩ := ex22 y hf hq
  refine (bindT h22).trans ?_
  cases t
  · exact bifT rfl
  obtain ⟨k1, k2, k3, k4, k5, k6⟩ := ht rfl
  refine (bifF rfl).trans ?_
  have hfit := fit_of hok k1 k2 k3 k4 k5 k6
  have es := st20 (false, ()) (y.1, y.2.1, y.2.2.1) (ask_of hok hf hp hv hq hw hl hn hd)
  have hs : VIn (stS y.1.1 y.1.2.2.2.2.2.2.2.1 y.2.1 y.2.2.1.1 y.2.2.1.2.1) 549755813888 := vk_in (by decide)
  have hr : VIn (stW y.1.2.1 y.2.1 y.2.2.1.1 y.2.2.1.2.1) 137438953472 := vk_in (by decide)
  have hu := qs_len hfit.q (root_of_len k2.q.1 k2.q.2) hr hfit.td
  have e25 := fun m => len25 m (qsV y.2.1.2.2.1 (stW y.1.2.1 y.2.1 y.2.2.1.1 y.2.2.1.2.1) y.2.2.1.2.1) (qsV_r _ _ _)
  refine (bindT es).trans ((bindT (e25 _)).trans ?_)
  refine (bindT (pos_near hfit.p.1 hs.1 hfit.td)).trans ((bifT rfl).trans ?_)
  refine (bindT (pos_near hfit.p.2.1 hs.2.1 hfit.td)).trans ((bifT rfl).trans ?_)
  refine (bindT (pos_near hfit.p.2.2 hs.2.2 hfit.td)).trans ((bifT rfl).trans ?_)
  exact (bifT (decide_eq_true hu.1)).trans (bifT (decide_eq_true hu.2))
end Go.Proofs.YtkgoflpkdcdajaaGreat
