/- Plain Lean: what the laws of this program's functions come to, in numbers and lists; no program is run here. -/
import Derived.Test.YtjikekkakfamfaaPPCar2
set_option linter.unusedVariables false
set_option linter.unusedSimpArgs false
set_option maxRecDepth 100000
namespace Go.Proofs.Ytjikekkakfamfaa
open Go Go.Ab Go.Proofs Go.IntWalk
/- car.Right in plain Lean (r17). -/
theorem alike_law (a b : Int) : (bif decide ((if b < a then b else a) < 0) then some ((!decide ((if b > a then b else a) > 0), ())) else some ((!false, ()))) = (some (alikeD (a, b, ()), ()) : Option (Bool × Unit)) := by
  unfold alikeD
  by_cases h1 : b < a <;> by_cases h2 : b > a <;> by_cases h3 : a < 0 <;> by_cases h4 : b < 0 <;> by_cases h5 : a > 0 <;> by_cases h6 : b > 0 <;> simp [h1, h2, h3, h4, h5, h6] <;> omega
def prevX (l : List Dot) : Nat → Option Int
  | 0 => none
  | j + 1 => l[j]?.map Prod.fst
theorem maxmin (a b : Int) (p q : Option (Sh.Ts [.int .i64])) : (bif decide ((if b > a then b else a) > 4503599627370496) then p else (bif decide ((if b < a then b else a) < -4503599627370496) then p else q)) = bif farI a || farI b then p else q := by
  unfold farI
  by_cases h1 : b < a <;> by_cases h2 : b > a <;> by_cases h3 : a > 4503599627370496 <;> by_cases h4 : b > 4503599627370496 <;> by_cases h5 : a < -4503599627370496 <;> by_cases h6 : b < -4503599627370496 <;> simp [h1, h2, h3, h4, h5, h6] <;> omega
theorem ex28o0 (N0 : Nat) (x : Sh.Ts [DotSh.sl]) (hl : (x.fst.length : Int) < 2 ^ 62) : ∀ (n j : Nat), j ≤ x.fst.length → x.fst.length - j < n → law28o0 N0 x (fun w => some (w, ())) (some (0, ())) n (j : Int) = some (tabGo (prevX x.fst j) (x.fst.drop j), ())
  | 0, j, _, h => by omega
  | n + 1, j, hj, h => by
    unfold law28o0
    by_cases hc : j < x.fst.length
    · have hv : x.fst[j]? = some x.fst[j] := List.getElem?_eq_getElem hc
      rw [List.drop_eq_getElem_cons hc]
      have ih := ex28o0 N0 x hl n (j + 1) (by omega) (by omega)
      simp only [idx0, idxB hv, Bool.and_self, cond_true, Int.toNat_natCast, hv, Option.bind_some, tabGo]
      refine (maxmin (x.fst[j]).1 (x.fst[j]).2.1 _ _).trans ?_
      rw [wrapNat j (by omega), ih]
      have e1 : prevX x.fst (j + 1) = some (x.fst[j]).1 := by simp [prevX, hv]
      rw [e1]
      cases farI (x.fst[j]).1 || farI (x.fst[j]).2.1
      · simp only [cond_false]
        cases j with
        | zero => rfl
        | succ j =>
          have hw : IntKind.i64.wrap (((j + 1 : Nat) : Int) - 1) = (j : Int) := by rw [i64_in _ (by omega)]; omega
          have hv' : x.fst[j]? = some x.fst[j] := List.getElem?_eq_getElem (by omega)
          rw [hw]
          simp only [idx0, idxB hv', Bool.and_self, cond_true, Int.toNat_natCast, hv', Option.bind_some, prevX, Option.map_some]
          have : decide (((j + 1 : Nat) : Int) > 0) = true := by simp
          simp only [this, cond_true]
          cases decide (x.fst[j + 1].1 ≤ x.fst[j].1) <;> rfl
      · rfl
    · have : decide ((j : Int) < (x.fst.length : Int)) = false := by simp; omega
      simp only [this, cond_false]
      rw [show j = x.fst.length by omega, List.drop_length]; rfl
theorem ex28 (l : List Dot) (hl : (l.length : Int) < 2 ^ 62) : fn28 (l, ()) = some (tabR l, ()) := by
  unfold fn28 law28 tabR
  have h0 : law28o0 (10 ^ 30) (l, ()) (fun w => some (w, ())) (some (0, ())) (10 ^ 30) 0 = some (tabGo none l, ()) := (ex28o0 (10 ^ 30) (l, ()) hl (10 ^ 30) 0 (Nat.zero_le _) (big30 _ (by show ((l.length - 0 : Nat) : Int) < 2 ^ 62; omega)))
  rw [h0]
  cases decide ((l.length : Int) < 2) <;> cases decide ((l.length : Int) > 32) <;> rfl
theorem any_ne {α : Type} (l : List (List α)) (n : Nat) : (!l.any fun r => ((r.length : Int) != (n : Int))) = l.all fun r => decide (r.length = n) := by
  rw [List.all_eq_not_any_not]
  congr 2; funext r
  by_cases h : r.length = n
  · simp [h]
  · have : ¬ (r.length : Int) = (n : Int) := by omega
    simp [h, this]
end Go.Proofs.Ytjikekkakfamfaa
