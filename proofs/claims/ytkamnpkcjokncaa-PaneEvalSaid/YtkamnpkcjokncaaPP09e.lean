/- Plain Lean: what the laws of this program's functions come to, in numbers and lists; no program is run here. -/
import Derived.Test.YtkamnpkcjokncaaPP09w
set_option linter.unusedVariables false
set_option linter.unusedSimpArgs false
set_option maxRecDepth 100000
namespace Go.Proofs.Ytkamnpkcjokncaa
open Go Go.Ab Go.Proofs Go.IntWalk
/- The document's Right in plain Lean (r17). -/
theorem and_chain (b c : Bool) : (bif b then some (c, ()) else some (false, ())) = (some (b && c, ()) : Option (Bool × Unit)) := by cases b <;> rfl
theorem not_chain (b : Bool) (X : Int) : (bif !b then some (40, ()) else some (X, ())) = (some (bif b then X else 40, ()) : Option (Int × Unit)) := by cases b <;> rfl
theorem bif_and (b c : Bool) (X Y : Int) : (bif b then (bif c then X else Y) else Y) = bif b && c then X else Y := by cases b <;> cases c <;> rfl
theorem le_chain (a b : Int) : (bif decide (a ≤ b) then some (41, ()) else some (0, ())) = (some (aboveR a b, ()) : Option (Int × Unit)) := by
  unfold aboveR; cases decide (a ≤ b) <;> rfl
theorem wr4 : IntKind.i64.wrap (4 * 4294967296) = 17179869184 := by decide
theorem wr16 : IntKind.i64.wrap (16 * 4294967296) = 68719476736 := by decide
theorem wr32 : IntKind.i64.wrap (32 * 4294967296) = 137438953472 := by decide
theorem wr64 : IntKind.i64.wrap (64 * 4294967296) = 274877906944 := by decide
theorem wr256 : IntKind.i64.wrap (256 * 4294967296) = 1099511627776 := by decide
theorem wr512 : IntKind.i64.wrap (512 * 4294967296) = 2199023255552 := by decide
theorem wr1024 : IntKind.i64.wrap (1024 * 4294967296) = 4398046511104 := by decide
theorem wr2048 : IntKind.i64.wrap (2048 * 4294967296) = 8796093022208 := by decide
theorem wr4096 : IntKind.i64.wrap (4096 * 4294967296) = 17592186044416 := by decide
theorem wr8192 : IntKind.i64.wrap (8192 * 4294967296) = 35184372088832 := by decide
theorem wr16384 : IntKind.i64.wrap (16384 * 4294967296) = 70368744177664 := by decide
theorem wr32768 : IntKind.i64.wrap (32768 * 4294967296) = 140737488355328 := by decide
theorem wr65536 : IntKind.i64.wrap (65536 * 4294967296) = 281474976710656 := by decide
theorem wr131072 : IntKind.i64.wrap (131072 * 4294967296) = 562949953421312 := by decide
theorem wr262144 : IntKind.i64.wrap (262144 * 4294967296) = 1125899906842624 := by decide
theorem wr1048576 : IntKind.i64.wrap (1048576 * 4294967296) = 4503599627370496 := by decide
theorem wr2 : IntKind.i64.wrap (2 * 4294967296) = 8589934592 := by decide
theorem wrn2 : IntKind.i64.wrap (-2 * 4294967296) = -8589934592 := by decide
theorem wrn4 : IntKind.i64.wrap (-4 * 4294967296) = -17179869184 := by decide
theorem wrn4096 : IntKind.i64.wrap (-4096 * 4294967296) = -17592186044416 := by decide
theorem wrn32768 : IntKind.i64.wrap (-32768 * 4294967296) = -140737488355328 := by decide
theorem far55 (a : Int) : (decide (a ≤ 4503599627370496) && decide (a ≥ IntKind.i64.wrap (0 - 4503599627370496))) = !farI a := by
  unfold farI
  rw [show IntKind.i64.wrap (0 - 4503599627370496) = -4503599627370496 by decide]
  by_cases h1 : a ≤ 4503599627370496 <;> by_cases h2 : a ≥ -4503599627370496 <;> simp [h1, h2] <;> omega
theorem ex40 (x : Int × Unit) : fn40 x = some (farI x.fst, ()) := by
  obtain ⟨a, u⟩ := x
  unfold fn40 law40 farI
  show (bif decide ((a : Int) > 4503599627370496) then some (true, ()) else some (decide ((a : Int) < -4503599627370496), ())) = some (decide ((a : Int) > 4503599627370496) || decide ((a : Int) < -4503599627370496), ())
  cases decide ((a : Int) > 4503599627370496) <;> rfl
theorem ex27 (l : List Int) (hl : (l.length : Int) < 2 ^ 62) : fn27 (l, ()) = some (l.any farI, ()) := by
  unfold fn27 law27
  refine (any_law l farI (some (true, ())) (some (false, ())) (fun n j => law27o0 (10 ^ 30) (l, ()) (some (true, ())) (some (false, ())) n j) hl (fun n j v hv => ?_) (fun n j hj => ?_) (10 ^ 30) (big30 _ hl)).trans ?_
  · conv => lhs; unfold law27o0
    simp only [idx0, idxB hv, Bool.and_self, cond_true, Int.toNat_natCast, hv, Option.bind_some, ex40]
  · conv => lhs; unfold law27o0
    simp only [hj, decide_false, cond_false]
  · cases l.any farI <;> rfl
theorem lx28o0 (N0 : Nat) (l : List Int) (hl : (l.length : Int) < 2 ^ 62) : ∀ (n j : Nat), j + 1 ≤ l.length → l.length - j < n → law28o0 N0 (l, ()) (some (true, ())) (some (false, ())) n ((j + 1 : Nat) : Int) = (some (!risesL (l.drop j), ()) : Option (Bool × Unit))
  | 0, j, _, h => by omega
  | n + 1, j, hj, h => by
    unfold law28o0
    by_cases hc : j + 1 < l.length
    · have hv : l[j + 1]? = some l[j + 1] := List.getElem?_eq_getElem hc
      have hv' : l[j]? = some l[j] := List.getElem?_eq_getElem (by omega)
      have ih := lx28o0 N0 l hl n (j + 1) (by omega) (by omega)
      have hw : IntKind.i64.wrap (((j + 1 : Nat) : Int) - 1) = (j : Int) := by rw [i64_in _ (by omega)]; omega
      simp only [idx0, idxB hv, hw, idxB hv', Bool.and_self, cond_true, Int.toNat_natCast, hv, hv', Option.bind_some]
      rw [wrapNat (j + 1) (by omega), ih, List.drop_eq_getElem_cons (show j < l.length by omega), List.drop_eq_getElem_cons hc]
      simp only [risesL]
      by_cases hh : l[j + 1] ≤ l[j]
      · have : ¬ l[j] < l[j + 1] := by omega
        simp only [hh, this, decide_true, decide_false, cond_true, Bool.false_and, Bool.not_false]
      · have : l[j] < l[j + 1] := by omega
        simp only [hh, this, decide_true, decide_false, cond_false, Bool.true_and]
    · have : decide (((j + 1 : Nat) : Int) < (l.length : Int)) = false := by simp; omega
      simp only [this, cond_false]
      have e : (l.drop j).length = 1 := by rw [List.length_drop]; omega
      match l.drop j, e with
      | [a], _ => rfl
theorem ex28 (l : List Int) (hl : (l.length : Int) < 2 ^ 62) : fn28 (l, ()) = some (!risesL l, ()) := by
  unfold fn28 law28
  cases l with
  | nil => rfl
  | cons a l =>
    exact (lx28o0 (10 ^ 30) (a :: l) hl (10 ^ 30) 0 (by simp) (big30 _ (by omega))).trans rfl
theorem lx11 (M0 M1 : Nat) (hM0 : 100 ≤ M0) (hM1 : 100 ≤ M1) (p : Pan) (hp : FewP p) : law11 M0 M1 (p, ()) = some (paneR p, ()) := by
  obtain ⟨h1, h2, h3, h4⟩ := hp
  unfold law11
  have ea : ∀ k0 k1 : Option (Int × Unit), law11o0 M0 M1 (p, ()) k0 k1 M0 0 = bif p.2.2.1.any (fun r => (r.length : Int) != (p.1.length : Int)) then k0 else k1 := fun k0 k1 => by
    refine any_law p.2.2.1 _ k0 k1 (fun n j => law11o0 M0 M1 (p, ()) k0 k1 n j) (by omega) (fun n j v hv => ?_) (fun n j hj => ?_) M0 (by omega)
    · conv => lhs; unfold law11o0
      simp only [idx0, idxB hv, Bool.and_self, cond_true, Int.toNat_natCast, hv, Option.bind_some]
    · conv => lhs; unfold law11o0
      simp only [hj, decide_false, cond_false]
  have eb : ∀ k0 k1 : Option (Int × Unit), law11o1o1 M0 M1 (p, ()) k0 k1 M1 0 = bif p.2.2.1.any (fun r => List.any (α := Int) r farI) then k0 else k1 := fun k0 k1 => by
    refine any_law p.2.2.1 _ k0 k1 (fun n j => law11o1o1 M0 M1 (p, ()) k0 k1 n j) (by omega) (fun n j v hv => ?_) (fun n j hj => ?_) M1 (by omega)
    · conv => lhs; unfold law11o1o1
      have := h4 v (List.mem_of_getElem? hv)
      simp only [idx0, idxB hv, Bool.and_self, cond_true, Int.toNat_natCast, hv, Option.bind_some, ex27 v (by omega)]
    · conv => lhs; unfold law11o1o1
      simp only [hj, decide_false, cond_false]
  rw [ea, eb]
  simp only [ex27 p.1 (by omega), ex27 p.2.1 (by omega), ex28 p.1 (by omega), ex28 p.2.1 (by omega), Option.bind_some]
  have en := any_ne p.2.2.1 p.1.length
  unfold paneR countedP mayN
  rw [← en]
  have m1 : decide ((p.1.length : Int) < 2) = !decide (2 ≤ p.1.length) := by by_cases h : 2 ≤ p.1.length <;> simp [h] <;> omega
  have m2 : decide ((p.1.length : Int) > 32) = !decide (p.1.length ≤ 32) := by by_cases h : p.1.length ≤ 32 <;> simp [h] <;> omega
  have m3 : decide ((p.2.1.length : Int) < 2) = !decide (2 ≤ p.2.1.length) := by by_cases h : 2 ≤ p.2.1.length <;> simp [h] <;> omega
  have m4 : decide ((p.2.1.length : Int) > 32) = !decide (p.2.1.length ≤ 32) := by by_cases h : p.2.1.length ≤ 32 <;> simp [h] <;> omega
  have m5 : ((p.2.2.1.length : Int) != (p.2.1.length : Int)) = !decide (p.2.2.1.length = p.2.1.length) := by
    by_cases h : p.2.2.1.length = p.2.1.length
    · simp [h]
    · have : ¬ (p.2.2.1.length : Int) = (p.2.1.length : Int) := by omega
      simp [h, this]
  rw [m1, m2, m3, m4, m5]
  cases decide (2 ≤ p.1.length)
  case false => rfl
  cases decide (p.1.length ≤ 32)
  case false => rfl
  cases decide (2 ≤ p.2.1.length)
  case false => rfl
  cases decide (p.2.1.length ≤ 32)
  case false => rfl
  cases decide (p.2.2.1.length = p.2.1.length)
  case false => rfl
  cases p.2.2.1.any (fun r => (r.length : Int) != (p.1.length : Int))
  case true => rfl
  cases p.1.any farI
  case true => rfl
  cases p.2.1.any farI
  case true => rfl
  cases p.2.2.1.any (fun r => List.any (α := Int) r farI)
  case true => rfl
  cases risesL p.1
  case false => rfl
  cases risesL p.2.1 <;> rfl
theorem ex11 (p : Pan) (hp : FewP p) : fn11 (p, ()) = some (paneR p, ()) := lx11 _ _ (by decide) (by decide) p hp
end Go.Proofs.Ytkamnpkcjokncaa
