/- Plain Lean: what the laws of this program's functions come to, in numbers and lists; no program is run here. -/
import Derived.Test.YtkobnmpilcpojaaGreatPP7d
set_option linter.unusedVariables false
set_option linter.unusedSimpArgs false
set_option maxRecDepth 100000
namespace Go.Proofs.YtkobnmpilcpojaaGreat
open Go Go.Ab Go.Proofs Go.IntWalk
theorem ex204 (x : Int × Unit) : fn204 x = some (farI x.fst, ()) := by
  obtain ⟨a, u⟩ := x
  unfold fn204 law204 farI
  show (bif decide ((a : Int) > 4503599627370496) then some (true, ()) else some (decide ((a : Int) < -4503599627370496), ())) = some (decide ((a : Int) > 4503599627370496) || decide ((a : Int) < -4503599627370496), ())
  cases decide ((a : Int) > 4503599627370496) <;> rfl
theorem ex179 (l : List Int) (hl : (l.length : Int) < 2 ^ 62) : fn179 (l, ()) = some (l.any farI, ()) := by
  unfold fn179 law179
  refine (any_law l farI (some (true, ())) (some (false, ())) (fun n j => law179o0 (10 ^ 30) (l, ()) (some (true, ())) (some (false, ())) n j) hl (fun n j v hv => ?_) (fun n j hj => ?_) (10 ^ 30) (big30 _ hl)).trans ?_
  · conv => lhs; unfold law179o0
    simp only [idx0, idxB hv, Bool.and_self, cond_true, Int.toNat_natCast, hv, Option.bind_some, ex204]
  · conv => lhs; unfold law179o0
    simp only [hj, decide_false, cond_false]
  · cases l.any farI <;> rfl
theorem lx180o0 (N0 : Nat) (l : List Int) (hl : (l.length : Int) < 2 ^ 62) : ∀ (n j : Nat), j + 1 ≤ l.length → l.length - j < n → law180o0 N0 (l, ()) (some (true, ())) (some (false, ())) n ((j + 1 : Nat) : Int) = (some (!risesL (l.drop j), ()) : Option (Bool × Unit))
  | 0, j, _, h => by omega
  | n + 1, j, hj, h => by
    unfold law180o0
    by_cases hc : j + 1 < l.length
    · have hv : l[j + 1]? = some l[j + 1] := List.getElem?_eq_getElem hc
      have hv' : l[j]? = some l[j] := List.getElem?_eq_getElem (by omega)
      have ih := lx180o0 N0 l hl n (j + 1) (by omega) (by omega)
      have hw : IntKind.i64.wrap (((j + 1 : Nat) : Int) - 1) = (j : Int) := by rw [i64_in _ (by omega)]; omega
      simp only [idx0, idxB hv, hw, idxB hv', Bool.and_self, cond_true, Int.toNat_natCast, hv, hv', Option.bind_some]
      rw [wrapNat (j + 1) (by omega), ih, List.drop_eq_getElem_cons (show j < l.length by omega), List.drop_eq_getElem_cons hc]
      simp only [risesL]
      by_cases hh : l[j + 1] ≤ l[j]
      · have : ¬ l[j] < l[j + 1] := by omega
        simp only [hh, this, decide_true, decide_false, cond_true, Bool.false_and, Bool.not_false]
      · have : l[j] < l[j + 1] := by omega
        simp only [hh, this, decide_true, decide_false, cond_false, Bool.true_and]
    · have : decide (((j + 1 : Nat) : Int) < (l.length : Int)) = false := by simp; omega
      simp only [this, cond_false]
      have e : (l.drop j).length = 1 := by rw [List.length_drop]; omega
      match l.drop j, e with
      | [a], _ => rfl
theorem ex180 (l : List Int) (hl : (l.length : Int) < 2 ^ 62) : fn180 (l, ()) = some (!risesL l, ()) := by
  unfold fn180 law180
  cases l with
  | nil => rfl
  | cons a l =>
    exact (lx180o0 (10 ^ 30) (a :: l) hl (10 ^ 30) 0 (by simp) (big30 _ (by omega))).trans rfl
theorem lx156 (M0 M1 : Nat) (hM0 : 100 ≤ M0) (hM1 : 100 ≤ M1) (p : Pan) (hp : FewP p) : law156 M0 M1 (p, ()) = some (paneR p, ()) := by
  obtain ⟨h1, h2, h3, h4⟩ := hp
  unfold law156
  have ea : ∀ k0 k1 : Option (Int × Unit), law156o0 M0 M1 (p, ()) k0 k1 M0 0 = bif p.2.2.1.any (fun r => (r.length : Int) != (p.1.length : Int)) then k0 else k1 := fun k0 k1 => by
    refine any_law p.2.2.1 _ k0 k1 (fun n j => law156o0 M0 M1 (p, ()) k0 k1 n j) (by omega) (fun n j v hv => ?_) (fun n j hj => ?_) M0 (by omega)
    · conv => lhs; unfold law156o0
      simp only [idx0, idxB hv, Bool.and_self, cond_true, Int.toNat_natCast, hv, Option.bind_some]
    · conv => lhs; unfold law156o0
      simp only [hj, decide_false, cond_false]
  have eb : ∀ k0 k1 : Option (Int × Unit), law156o1o1 M0 M1 (p, ()) k0 k1 M1 0 = bif p.2.2.1.any (fun r => List.any (α := Int) r farI) then k0 else k1 := fun k0 k1 => by
    refine any_law p.2.2.1 _ k0 k1 (fun n j => law156o1o1 M0 M1 (p, ()) k0 k1 n j) (by omega) (fun n j v hv => ?_) (fun n j hj => ?_) M1 (by omega)
    · conv => lhs; unfold law156o1o1
      have := h4 v (List.mem_of_getElem? hv)
      simp only [idx0, idxB hv, Bool.and_self, cond_true, Int.toNat_natCast, hv, Option.bind_some, ex179 v (by omega)]
    · conv => lhs; unfold law156o1o1
      simp only [hj, decide_false, cond_false]
  rw [ea, eb]
  simp only [ex179 p.1 (by omega), ex179 p.2.1 (by omega), ex180 p.1 (by omega), ex180 p.2.1 (by omega), Option.bind_some]
  have en := any_ne p.2.2.1 p.1.length
  unfold paneR countedP mayN
  rw [← en]
  have m1 : decide ((p.1.length : Int) < 2) = !decide (2 ≤ p.1.length) := by by_cases h : 2 ≤ p.1.length <;> simp [h] <;> omega
  have m2 : decide ((p.1.length : Int) > 32) = !decide (p.1.length ≤ 32) := by by_cases h : p.1.length ≤ 32 <;> simp [h] <;> omega
  have m3 : decide ((p.2.1.length : Int) < 2) = !decide (2 ≤ p.2.1.length) := by by_cases h : 2 ≤ p.2.1.length <;> simp [h] <;> omega
  have m4 : decide ((p.2.1.length : Int) > 32) = !decide (p.2.1.length ≤ 32) := by by_cases h : p.2.1.length ≤ 32 <;> simp [h] <;> omega
  have m5 : ((p.2.2.1.length : Int) != (p.2.1.length : Int)) = !decide (p.2.2.1.length = p.2.1.length) := by
    by_cases h : p.2.2.1.length = p.2.1.length
    · simp [h]
    · have : ¬ (p.2.2.1.length : Int) = (p.2.1.length : Int) := by omega
      simp [h, this]
  rw [m1, m2, m3, m4, m5]
  cases decide (2 ≤ p.1.length)
  case false => rfl
  cases decide (p.1.length ≤ 32)
  case false => rfl
  cases decide (2 ≤ p.2.1.length)
  case false => rfl
  cases decide (p.2.1.length ≤ 32)
  case false => rfl
  cases decide (p.2.2.1.length = p.2.1.length)
  case false => rfl
  cases p.2.2.1.any (fun r => (r.length : Int) != (p.1.length : Int))
  case true => rfl
  cases p.1.any farI
  case true => rfl
  cases p.2.1.any farI
  case true => rfl
  cases p.2.2.1.any (fun r => List.any (α := Int) r farI)
  case true => rfl
  cases risesL p.1
  case false => rfl
  cases risesL p.2.1 <;> rfl
theorem ex156 (p : Pan) (hp : FewP p) : fn156 (p, ()) = some (paneR p, ()) := lx156 _ _ (by decide) (by decide) p hp
end Go.Proofs.YtkobnmpilcpojaaGreat
