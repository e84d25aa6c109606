/- Plain Lean: what the laws of this program's functions come to, in numbers and lists; no program is run here. -/
import Derived.Test.YtkgoflpkdcdajaaGreatPPFree
set_option linter.unusedVariables false
set_option linter.unusedSimpArgs false
set_option maxRecDepth 100000
namespace Go.Proofs.YtkgoflpkdcdajaaGreat
open Go Go.Ab Go.Proofs Go.IntWalk
/- ChassisFree in plain Lean (r28). -/
def sizeV (a : Int) : Int := if a < 0 then -a else a
theorem ab24 (m : MT) (a K : Int) (h : In a K) (hK : K ≤ 9223372036854775807) : fn24 m (a, ()) = some ((m.1, ()), sizeV a, ()) := by
  rw [abs14 m (a, ()) (h.i64 hK)]
  unfold absS sizeV res
  simp only
  split
  · unfold subS
    rw [satS_in (by unfold In at h; unfold I64; omega)]
    simp only [Int.zero_sub]
  · rfl
theorem size_le {a K : Int} : sizeV a ≤ K ↔ In a K := by unfold sizeV In; split <;> omega
theorem size_in (a : Int) : In a (sizeV a) := size_le.1 (Int.le_refl _)
theorem near16 (m : MT) (a b : Int) (h : In (a - b) 16) : fn24 m (IntKind.i64.wrap (a - b), ()) = some ((m.1, ()), sizeV (a - b), ()) ∧ decide (sizeV (a - b) ≤ 16) = true := by
  have e : IntKind.i64.wrap (a - b) = a - b := by rw [IntKind.wrap_i64]; unfold In at h; omega
  rw [e]
  exact ⟨ab24 m (a - b) 16 h (by decide), decide_eq_true (size_le.2 h)⟩
theorem max1 (v : Int) : 4294967296 ≤ (if 4294967296 > sizeV v then 4294967296 else sizeV v) ∧ In v (if 4294967296 > sizeV v then 4294967296 else sizeV v) := by
  have := size_in v
  split
  · exact ⟨Int.le_refl _, this.le (by omega)⟩
  · exact ⟨by omega, this⟩
theorem true7o (y : Sh.Ts [CarSh, BodySh, .int .i64]) (hy : Sh.oks [CarSh, BodySh, .int .i64] y) : fn7 y = some (true, ()) := by
  have hok : OkC y.1 := okC hy.1
  have hp : V64 y.2.1.1 := okV64' hy.2.1.1
  have hv : V64 y.2.1.2.1 := okV64' hy.2.1.2.1
  have hq : Q64 y.2.1.2.2.1 := okQ64' hy.2.1.2.2.1
  have hd : I64 y.2.2.1 := hy.2.2.1
  obtain ⟨bb, hb, hf⟩ := ex9 y.1 hok.steer hok.rate
  show law7 y = _
  unfold law7
  cases bb
  · exact (bindT hb).trans rfl
  have hf := hf rfl
  refine (bindT hb).trans ((bifF rfl).trans ?_)
  obtain ⟨t, h22, ht⟩ := ex22 (y.1, y.2.1, ([], y.2.2.1, ()), ()) hf hq
  refine (bindT h22).trans ?_
  cases t
  · exact bifT rfl
  obtain ⟨k1, k2, k3, k4, k5, k6⟩ := ht rfl
  simp only at k1 k2 k3 k4 k5 k6
  refine (bifF rfl).trans ?_
  have k2' : Bin (y.2.1.1, y.2.1.2.1, y.2.1.2.2.1, (0, 0, 0, ()), ()) := ⟨k2.p, k2.v, vin_zero (by decide), k2.q⟩
  have hfit := fit_of (l := []) hok k1 k2' (by simp) k4 k5 (by simp)
  have es := st20 (false, ()) (y.1, (y.2.1.1, y.2.1.2.1, y.2.1.2.2.1, (0, 0, 0, ()), ()), [], y.2.2.1, ()) (ask_of hok hf hp hv hq Z64 (by intro p hp; cases hp) (by simp) hd)
  refine (bindT es).trans ?_
  have hs : VIn (stS y.1.1 y.1.2.2.2.2.2.2.2.1 (y.2.1.1, y.2.1.2.1, y.2.1.2.2.1, (0, 0, 0, ()), ()) [] y.2.2.1) 549755813888 := vk_in (by decide)
  have hr := rot_zero y.1.2.1 (y.2.1.1, y.2.1.2.1, y.2.1.2.2.1, (0, 0, 0, ()), ()) rfl y.2.2.1
  obtain ⟨q0, q1, q2, q3⟩ := att_near hfit.q k2.q.1 k2.q.2 y.2.2.1
  have hslow : 4398046511104 ≤ y.1.1 → _ := fun hm => (fun K => free_slow (b := (y.2.1.1, y.2.1.2.1, y.2.1.2.2.1, (0, 0, 0, ()), ())) (t := y.1.2.2.2.2.2.2.2.1) (m := y.1.1) (dt := y.2.2.1) (K := K) hfit.ta hfit.v hm k4 k5)
  unfold stV
  simp only
  rw [hr]
  generalize stS y.1.1 y.1.2.2.2.2.2.2.2.1 (y.2.1.1, y.2.1.2.1, y.2.1.2.2.1, (0, 0, 0, ()), ()) [] y.2.2.1 = S at *
  generalize stO y.1.1 y.1.2.1 y.1.2.2.2.2.2.2.2.1 (y.2.1.1, y.2.1.2.1, y.2.1.2.2.1, (0, 0, 0, ()), ()) [] y.2.2.1 = O
  generalize qsV y.2.1.2.2.1 (0, 0, 0, ()) y.2.2.1 = A at *
  refine (bindT (ab24 _ S.1 _ hs.1 (by decide))).trans ((bindT (ab24 _ y.2.1.2.1.1 _ k2.v.1 (by decide))).trans ?_)
  by_cases c1 : sizeV S.1 ≤ (if 4294967296 > sizeV y.2.1.2.1.1 then 4294967296 else sizeV y.2.1.2.1.1)
  · refine (bifT (decide_eq_true c1)).trans ?_
    refine (bindT (ab24 _ S.2.1 _ hs.2.1 (by decide))).trans ((bindT (ab24 _ y.2.1.2.1.2.1 _ k2.v.2.1 (by decide))).trans ?_)
    refine (bifT rfl).trans ?_
    refine (bindT (near16 _ _ _ q0).1).trans ((bifT (near16 (false, ()) _ _ q0).2).trans ?_)
    refine (bindT (near16 _ _ _ q1).1).trans ((bifT (near16 (false, ()) _ _ q1).2).trans ?_)
    refine (bindT (near16 _ _ _ q2).1).trans ((bifT (near16 (false, ()) _ _ q2).2).trans ?_)
    refine (bindT (near16 _ _ _ q3).1).trans ((bifT (near16 (false, ()) _ _ q3).2).trans ?_)
    by_cases c2 : sizeV S.2.1 ≤ (if 4294967296 > sizeV y.2.1.2.1.2.1 then 4294967296 else sizeV y.2.1.2.1.2.1)
    · exact bifT (decide_eq_true c2)
    · refine (bifF (decide_eq_false c2)).trans (bifT (decide_eq_true ?_))
      apply Int.not_le.1
      intro hm
      exact c2 (size_le.2 ((hslow hm _ (max1 _).1).2 (max1 _).2))
  · refine (bifF (decide_eq_false c1)).trans ?_
    refine (bifT rfl).trans ?_
    refine (bindT (near16 _ _ _ q0).1).trans ((bifT (near16 (false, ()) _ _ q0).2).trans ?_)
    refine (bindT (near16 _ _ _ q1).1).trans ((bifT (near16 (false, ()) _ _ q1).2).trans ?_)
    refine (bindT (near16 _ _ _ q2).1).trans ((bifT (near16 (false, ()) _ _ q2).2).trans ?_)
    refine (bindT (near16 _ _ _ q3).1).trans ((bifT (near16 (false, ()) _ _ q3).2).trans ?_)
    refine bifT (decide_eq_true ?_)
    apply Int.not_le.1
    intro hm
    exact c1 (size_le.2 ((hslow hm _ (max1 _).1).1 (max1 _).2))
end Go.Proofs.YtkgoflpkdcdajaaGreat
