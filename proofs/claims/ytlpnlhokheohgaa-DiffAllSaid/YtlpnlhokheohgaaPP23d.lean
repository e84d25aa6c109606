/- Plain Lean: what the laws of this program's functions come to, in numbers and lists; no program is run here. -/
import Derived.Test.YtlpnlhokheohgaaPP23b
set_option linter.unusedVariables false
set_option linter.unusedSimpArgs false
set_option maxRecDepth 100000
namespace Go.Proofs.Ytlpnlhokheohgaa
open Go Go.Ab Go.Proofs Go.IntWalk
/- car.Right in plain Lean (r17). -/
theorem ex46 (b : boundSh.T) : fn46 (b, ()) = some (outB b, ()) := by
  unfold fn46 law46 outB
  by_cases h : b.1 < b.2.1 <;> simp [h]
theorem ex58 (x : Sh.Ts [boundSh.sl]) (hl : (x.fst.length : Int) < 2 ^ 62) : fn58x46 x () = some (idxL outB x.fst, ()) := by
  unfold fn58x46 law58x46
  refine (scan_law x.fst outB (fun i _ => some (i, ())) (some (-1, ())) (fun n j => law58x46_0 (10 ^ 30) x (fun w => some (w, ())) (some (-1, ())) n j) hl (fun n j v hv => ?_) (fun n j hj => ?_) (10 ^ 30) 0 (Nat.zero_le _) (big30 _ (by omega))).trans ?_
  · conv => lhs; unfold law58x46_0
    simp only [idx0, idxB hv, Bool.and_self, cond_true, Int.toNat_natCast, hv, Option.bind_some]
    exact bindSome (ex46 v)
  · conv => lhs; unfold law58x46_0
    simp only [hj, decide_false, cond_false]
  · unfold idxL; rw [List.drop_zero]
    cases scanL outB x.fst 0 with
    | none => rfl
    | some z => rfl
theorem ex47 (x : Sh.Ts [boundSh.sl]) (hl : (x.fst.length : Int) < 2 ^ 62) : fn47x46 x () = some (x.fst.any outB, ()) := by
  unfold fn47x46 law47x46
  refine (bindSome (ex58 x hl)).trans ?_
  show some (decide (0 ≤ idxL outB x.fst), ()) = _
  rw [idxL_nonneg]
theorem ex27 (l : List Bnd) (hl : (l.length : Int) < 2 ^ 62) : fn27 (l, ()) = some (rangedR l, ()) := by
  unfold fn27 law27 rangedR
  refine (bindSome (ex47 (l, ()) hl)).trans ?_
  cases l.any outB <;> rfl
theorem alike_law (a b : Int) : (bif decide ((if b < a then b else a) < 0) then some ((!decide ((if b > a then b else a) > 0), ())) else some ((!false, ()))) = (some (alikeD (a, b, ()), ()) : Option (Bool × Unit)) := by
  unfold alikeD
  by_cases h1 : b < a <;> by_cases h2 : b > a <;> by_cases h3 : a < 0 <;> by_cases h4 : b < 0 <;> by_cases h5 : a > 0 <;> by_cases h6 : b > 0 <;> simp [h1, h2, h3, h4, h5, h6] <;> omega
theorem ex29 (d : DotSh.T) : fn29 (d, ()) = some (alikeD d, ()) := alike_law d.1 d.2.1
theorem ex31 (d : DotSh.T) : fn31 (d, ()) = some (true, ()) := rfl
def prevX (l : List Dot) : Nat → Option Int
  | 0 => none
  | j + 1 => l[j]?.map Prod.fst
theorem maxmin (a b : Int) (p q : Option (Sh.Ts [.int .i64])) : (bif decide ((if b > a then b else a) > 4503599627370496) then p else (bif decide ((if b < a then b else a) < -4503599627370496) then p else q)) = bif farI a || farI b then p else q := by
  unfold farI
  by_cases h1 : b < a <;> by_cases h2 : b > a <;> by_cases h3 : a > 4503599627370496 <;> by_cases h4 : b > 4503599627370496 <;> by_cases h5 : a < -4503599627370496 <;> by_cases h6 : b < -4503599627370496 <;> simp [h1, h2, h3, h4, h5, h6] <;> omega
theorem ex48o0 (N0 : Nat) (x : Sh.Ts [DotSh.sl]) (hl : (x.fst.length : Int) < 2 ^ 62) : ∀ (n j : Nat), j ≤ x.fst.length → x.fst.length - j < n → law48o0 N0 x (fun w => some (w, ())) (some (0, ())) n (j : Int) = some (tabGo (prevX x.fst j) (x.fst.drop j), ())
  | 0, j, _, h => by omega
  | n + 1, j, hj, h => by
    unfold law48o0
    by_cases hc : j < x.fst.length
    · have hv : x.fst[j]? = some x.fst[j] := List.getElem?_eq_getElem hc
      rw [List.drop_eq_getElem_cons hc]
      have ih := ex48o0 N0 x hl n (j + 1) (by omega) (by omega)
      simp only [idx0, idxB hv, Bool.and_self, cond_true, Int.toNat_natCast, hv, Option.bind_some, tabGo]
      refine (maxmin (x.fst[j]).1 (x.fst[j]).2.1 _ _).trans ?_
      rw [wrapNat j (by omega), ih]
      have e1 : prevX x.fst (j + 1) = some (x.fst[j]).1 := by simp [prevX, hv]
      rw [e1]
      cases farI (x.fst[j]).1 || farI (x.fst[j]).2.1
      · simp only [cond_false]
        cases j with
        | zero => rfl
        | succ j =>
          have hw : IntKind.i64.wrap (((j + 1 : Nat) : Int) - 1) = (j : Int) := by rw [i64_in _ (by omega)]; omega
          have hv' : x.fst[j]? = some x.fst[j] := List.getElem?_eq_getElem (by omega)
          rw [hw]
          simp only [idx0, idxB hv', Bool.and_self, cond_true, Int.toNat_natCast, hv', Option.bind_some, prevX, Option.map_some]
          have : decide (((j + 1 : Nat) : Int) > 0) = true := by simp
          simp only [this, cond_true]
          cases decide (x.fst[j + 1].1 ≤ x.fst[j].1) <;> rfl
      · rfl
    · have : decide ((j : Int) < (x.fst.length : Int)) = false := by simp; omega
      simp only [this, cond_false]
      rw [show j = x.fst.length by omega, List.drop_length]; rfl
theorem ex48 (l : List Dot) (hl : (l.length : Int) < 2 ^ 62) : fn48 (l, ()) = some (tabR l, ()) := by
  unfold fn48 law48 tabR
  have h0 : law48o0 (10 ^ 30) (l, ()) (fun w => some (w, ())) (some (0, ())) (10 ^ 30) 0 = some (tabGo none l, ()) := (ex48o0 (10 ^ 30) (l, ()) hl (10 ^ 30) 0 (Nat.zero_le _) (big30 _ (by show ((l.length - 0 : Nat) : Int) < 2 ^ 62; omega)))
  rw [h0]
  cases decide ((l.length : Int) < 2) <;> cases decide ((l.length : Int) > 32) <;> rfl
theorem ex28x29 (l : List Dot) (lo hi : Int) (hl : (l.length : Int) < 2 ^ 62) : fn28x29 (l, lo, hi, ()) () = some (valR alikeD l lo hi, ()) := by
  unfold fn28x29 law28x29 valR
  refine (bindSome (ex48 l hl)).trans ?_
  have h0 : law28x29_0 (10 ^ 30) (l, lo, hi, ()) (some (40, ())) (some (0, ())) (10 ^ 30) 0 = bif l.any (fun d : Dot => decide (d.2.1 < lo) || decide (d.2.1 > hi) || !alikeD d) then some (40, ()) else (some (0, ()) : Option (Sh.Ts [.int .i64])) := by
    refine any_law l (fun d : Dot => decide (d.2.1 < lo) || decide (d.2.1 > hi) || !alikeD d) (some (40, ())) (some (0, ())) (fun n j => law28x29_0 (10 ^ 30) (l, lo, hi, ()) (some (40, ())) (some (0, ())) n j) hl (fun n j v hv => ?_) (fun n j hj => ?_) (10 ^ 30) (big30 _ hl)
    · conv => lhs; unfold law28x29_0
      simp only [idx0, idxB hv, Bool.and_self, cond_true, Int.toNat_natCast, hv, Option.bind_some]
      rw [bindSome (ex29 v)]
      cases decide (v.2.1 < lo) <;> cases decide (v.2.1 > hi) <;> rfl
    · conv => lhs; unfold law28x29_0
      simp only [hj, decide_false, cond_false]
  refine (congrArg (fun z => bif tabR l != 0 then some (tabR l, ()) else z) h0).trans ?_
  cases tabR l != 0 <;> cases l.any (fun d : Dot => decide (d.2.1 < lo) || decide (d.2.1 > hi) || !alikeD d) <;> rfl
theorem ex28x31 (l : List Dot) (lo hi : Int) (hl : (l.length : Int) < 2 ^ 62) : fn28x31 (l, lo, hi, ()) () = some (valR (fun _ => true) l lo hi, ()) := by
  unfold fn28x31 law28x31 valR
  refine (bindSome (ex48 l hl)).trans ?_
  have h0 : law28x31_0 (10 ^ 30) (l, lo, hi, ()) (some (40, ())) (some (0, ())) (10 ^ 30) 0 = bif l.any (fun d : Dot => decide (d.2.1 < lo) || decide (d.2.1 > hi) || !(fun _ => true) d) then some (40, ()) else (some (0, ()) : Option (Sh.Ts [.int .i64])) := by
    refine any_law l (fun d : Dot => decide (d.2.1 < lo) || decide (d.2.1 > hi) || !(fun _ => true) d) (some (40, ())) (some (0, ())) (fun n j => law28x31_0 (10 ^ 30) (l, lo, hi, ()) (some (40, ())) (some (0, ())) n j) hl (fun n j v hv => ?_) (fun n j hj => ?_) (10 ^ 30) (big30 _ hl)
    · conv => lhs; unfold law28x31_0
      simp only [idx0, idxB hv, Bool.and_self, cond_true, Int.toNat_natCast, hv, Option.bind_some]
      cases decide (v.2.1 < lo) <;> cases decide (v.2.1 > hi) <;> rfl
    · conv => lhs; unfold law28x31_0
      simp only [hj, decide_false, cond_false]
  refine (congrArg (fun z => bif tabR l != 0 then some (tabR l, ()) else z) h0).trans ?_
  cases tabR l != 0 <;> cases l.any (fun d : Dot => decide (d.2.1 < lo) || decide (d.2.1 > hi) || !(fun _ => true) d) <;> rfl
theorem ex61 (a : Int) : fn61 (a, ()) = some (farI a, ()) := by
  unfold fn61 law61 farI
  by_cases h : a > 4503599627370496 <;> simp [h]
theorem ex69x61 (x : Sh.Ts [.sl (.int .i64)]) (hl : (x.fst.length : Int) < 2 ^ 62) : fn69x61 x () = some (idxL farI x.fst, ()) := by
  unfold fn69x61 law69x61
  refine (scan_law x.fst farI (fun i _ => some (i, ())) (some (-1, ())) (fun n j => law69x61_0 (10 ^ 30) x (fun w => some (w, ())) (some (-1, ())) n j) hl (fun n j v hv => ?_) (fun n j hj => ?_) (10 ^ 30) 0 (Nat.zero_le _) (big30 _ (by omega))).trans ?_
  · conv => lhs; unfold law69x61_0
    simp only [idx0, idxB hv, Bool.and_self, cond_true, Int.toNat_natCast, hv, Option.bind_some]
    exact bindSome (ex61 v)
  · conv => lhs; unfold law69x61_0
    simp only [hj, decide_false, cond_false]
  · unfold idxL; rw [List.drop_zero]
    cases scanL farI x.fst 0 with
    | none => rfl
    | some z => rfl
theorem ex60x61 (x : Sh.Ts [.sl (.int .i64)]) (hl : (x.fst.length : Int) < 2 ^ 62) : fn60x61 x () = some (x.fst.any farI, ()) := by
  unfold fn60x61 law60x61
  refine (bindSome (ex69x61 x  hl)).trans ?_
  show some (decide (0 ≤ idxL farI x.fst), ()) = _
  rw [idxL_nonneg]
theorem ex59 (l : List Int) (hl : (l.length : Int) < 2 ^ 62) : fn59 (l, ()) = some (l.any farI, ()) := by
  unfold fn59 law59
  exact (bindSome (ex60x61 (l, ()) hl)).trans rfl
theorem ex72x59 (x : Sh.Ts [.rows (.int .i64)]) (hl : (x.fst.length : Int) < 2 ^ 62) (hr : ∀ r ∈ x.fst, (List.length (α := Int) r : Int) < 2 ^ 62) : fn72x59 x () = some (idxL (fun r => List.any (α := Int) r farI) x.fst, ()) := by
  unfold fn72x59 law72x59
  refine (scan_law x.fst (fun r => List.any (α := Int) r farI) (fun i _ => some (i, ())) (some (-1, ())) (fun n j => law72x59_0 (10 ^ 30) x (fun w => some (w, ())) (some (-1, ())) n j) hl (fun n j v hv => ?_) (fun n j hj => ?_) (10 ^ 30) 0 (Nat.zero_le _) (big30 _ (by omega))).trans ?_
  · conv => lhs; unfold law72x59_0
    simp only [idx0, idxB hv, Bool.and_self, cond_true, Int.toNat_natCast, hv, Option.bind_some]
    exact bindSome (ex59 v (hr v (List.mem_of_getElem? hv)))
  · conv => lhs; unfold law72x59_0
    simp only [hj, decide_false, cond_false]
  · unfold idxL; rw [List.drop_zero]
    cases scanL (fun r => List.any (α := Int) r farI) x.fst 0 with
    | none => rfl
    | some z => rfl
theorem ex63x59 (x : Sh.Ts [.rows (.int .i64)]) (hl : (x.fst.length : Int) < 2 ^ 62) (hr : ∀ r ∈ x.fst, (List.length (α := Int) r : Int) < 2 ^ 62) : fn63x59 x () = some (x.fst.any (fun r => List.any (α := Int) r farI), ()) := by
  unfold fn63x59 law63x59
  refine (bindSome (ex72x59 x  hl hr)).trans ?_
  show some (decide (0 ≤ idxL (fun r => List.any (α := Int) r farI) x.fst), ()) = _
  rw [idxL_nonneg]
theorem ex72x71 (x : Sh.Ts [.rows (.int .i64)]) (xs : Sh.Ts [PaneSh]) (hl : (x.fst.length : Int) < 2 ^ 62) : fn72x71 x xs = some (idxL (fun r => ((List.length r : Int) != (xs.fst.fst.length : Int))) x.fst, ()) := by
  unfold fn72x71 law72x71
  refine (scan_law x.fst (fun r => ((List.length r : Int) != (xs.fst.fst.length : Int))) (fun i _ => some (i, ())) (some (-1, ())) (fun n j => law72x71_0 (10 ^ 30) x xs (fun w => some (w, ())) (some (-1, ())) n j) hl (fun n j v hv => ?_) (fun n j hj => ?_) (10 ^ 30) 0 (Nat.zero_le _) (big30 _ (by omega))).trans ?_
  · conv => lhs; unfold law72x71_0
    simp only [idx0, idxB hv, Bool.and_self, cond_true, Int.toNat_natCast, hv, Option.bind_some]
  · conv => lhs; unfold law72x71_0
    simp only [hj, decide_false, cond_false]
  · unfold idxL; rw [List.drop_zero]
    cases scanL (fun r => ((List.length r : Int) != (xs.fst.fst.length : Int))) x.fst 0 with
    | none => rfl
    | some z => rfl
theorem ex63x71 (x : Sh.Ts [.rows (.int .i64)]) (xs : Sh.Ts [PaneSh]) (hl : (x.fst.length : Int) < 2 ^ 62) : fn63x71 x xs = some (x.fst.any (fun r => ((List.length r : Int) != (xs.fst.fst.length : Int))), ()) := by
  unfold fn63x71 law63x71
  refine (bindSome (ex72x71 x xs hl)).trans ?_
  show some (decide (0 ≤ idxL (fun r => ((List.length r : Int) != (xs.fst.fst.length : Int))) x.fst), ()) = _
  rw [idxL_nonneg]
theorem ex70 (n : Nat) : fn70 ((n : Int), ()) = some (mayN n, ()) := by
  unfold fn70 law70 mayN
  have h1 : decide ((2 : Int) ≤ (n : Int)) = decide (2 ≤ n) := by simp only [decide_eq_decide]; omega
  have h2 : decide ((n : Int) ≤ 32) = decide (n ≤ 32) := by simp only [decide_eq_decide]; omega
  show (bif decide ((2 : Int) ≤ (n : Int)) then some (decide ((n : Int) ≤ 32), ()) else some (false, ())) = _
  rw [h1, h2]; cases decide (2 ≤ n) <;> rfl
theorem any_ne {α : Type} (l : List (List α)) (n : Nat) : (!l.any fun r => ((r.length : Int) != (n : Int))) = l.all fun r => decide (r.length = n) := by
  rw [List.all_eq_not_any_not]
  congr 2; funext r
  by_cases h : r.length = n
  · simp [h]
  · have : ¬ (r.length : Int) = (n : Int) := by omega
    simp [h, this]
theorem ex62 (p : Pan) (hl : (p.2.2.1.length : Int) < 2 ^ 62) : fn62 (p, ()) = some (countedP p, ()) := by
  unfold fn62 law62 countedP
  refine (bindSome (ex70 p.1.length)).trans ?_
  show (bif mayN p.1.length then Option.bind (fn70 ((p.2.1.length : Int), ())) _ else _) = _
  rw [bindSome (ex70 p.2.1.length)]
  have h3 : ((p.2.2.1.length : Int) == (p.2.1.length : Int)) = decide (p.2.2.1.length = p.2.1.length) := by
    by_cases h : p.2.2.1.length = p.2.1.length
    · simp [h]
    · have : ¬ (p.2.2.1.length : Int) = (p.2.1.length : Int) := by omega
      simp [h, this]
  show (bif mayN p.1.length then (bif mayN p.2.1.length then (bif ((p.2.2.1.length : Int) == (p.2.1.length : Int)) then Option.bind (fn63x71 p.2.2 (p, ())) _ else _) else _) else _) = _
  rw [h3, bindSome (ex63x71 p.2.2 (p, ()) hl), ← any_ne]
  cases mayN p.1.length <;> cases mayN p.2.1.length <;> cases decide (p.2.2.1.length = p.2.1.length) <;> rfl
theorem ex73o0 (N0 : Nat) (l : List Int) (hl : (l.length : Int) < 2 ^ 62) : ∀ (j n : Nat), j < l.length → j < n → law73x74_0 N0 (l, ()) (some (false, ())) (some (true, ())) n (j : Int) = (some (risesL (l.take (j + 1)), ()) : Option (Sh.Ts [.bool]))
  | j, 0, _, h => by omega
  | 0, n + 1, hj, h => by
    unfold law73x74_0
    have : (l.take 1).length ≤ 1 := by simp; omega
    have hr : risesL (l.take (0 + 1)) = true := by
      cases l with
      | nil => simp at hj
      | cons a l => rfl
    rw [hr]; rfl
  | j + 1, n + 1, hj, h => by
    unfold law73x74_0
    have ih := ex73o0 N0 l hl j n (by omega) (by omega)
    have hv : l[j + 1]? = some l[j + 1] := List.getElem?_eq_getElem hj
    have hv' : l[j]? = some l[j] := List.getElem?_eq_getElem (by omega)
    have hw : IntKind.i64.wrap (((j + 1 : Nat) : Int) - 1) = (j : Int) := by rw [i64_in _ (by omega)]; omega
    have h0 : decide (((j + 1 : Nat) : Int) > 0) = true := by simp
    have hrr : risesL (l.take (j + 1 + 1)) = (decide (l[j] < l[j + 1]) && risesL (l.take (j + 1))) := by
      rw [Bool.eq_iff_iff, Bool.and_eq_true, decide_eq_true_eq]
      constructor
      · intro hk
        refine ⟨risesL_get hk j _ _ (by rw [List.getElem?_take_of_lt (by omega)]; exact hv') (by rw [List.getElem?_take_of_lt (by omega)]; exact hv), risesL_of fun k a b h1 h2 => ?_⟩
        obtain ⟨h3, _⟩ := List.getElem?_eq_some_iff.1 h2
        have h3 : k + 1 < j + 1 := by simp at h3; omega
        rw [List.getElem?_take_of_lt (by omega)] at h1 h2
        exact risesL_get hk k a b (by rw [List.getElem?_take_of_lt (by omega)]; exact h1) (by rw [List.getElem?_take_of_lt (by omega)]; exact h2)
      · rintro ⟨h1, h2⟩
        refine risesL_of fun k a b h3 h4 => ?_
        obtain ⟨h5, _⟩ := List.getElem?_eq_some_iff.1 h4
        have h5 : k + 1 < j + 2 := by simp at h5; omega
        rw [List.getElem?_take_of_lt (by omega)] at h3 h4
        by_cases hk : k = j
        · have e1 : l[j] = a := Option.some.inj (hv'.symm.trans (hk ▸ h3))
          have e2 : l[j + 1] = b := Option.some.inj (hv.symm.trans (hk ▸ h4))
          rw [← e1, ← e2]; exact h1
        · exact risesL_get h2 k a b (by rw [List.getElem?_take_of_lt (by omega)]; exact h3) (by rw [List.getElem?_take_of_lt (by omega)]; exact h4)
    simp only [idx0, idxB hv, hw, idxB hv', h0, Bool.and_self, cond_true, Int.toNat_natCast, hv, hv', Option.bind_some]
    rw [ih, hrr]
    show Option.bind (fn74 (l[j + 1], l[j], ())) _ = _
    unfold fn74 law74
    show Option.bind (bif decide (l[j + 1] > l[j]) then some (1, ()) else some (-1, ())) _ = _
    by_cases hc : l[j] < l[j + 1]
    · have hc' : l[j + 1] > l[j] := hc
      simp only [hc, hc', decide_true, cond_true, Bool.true_and]; rfl
    · have hc' : ¬ l[j + 1] > l[j] := hc
      simp only [hc, hc', decide_false, cond_false, Bool.false_and]; rfl
theorem ex73 (l : List Int) (hl : (l.length : Int) < 2 ^ 62) : fn73x74 (l, ()) () = some (risesL l, ()) := by
  unfold fn73x74 law73x74
  rcases Nat.eq_zero_or_pos l.length with hle | hle
  · have hn : l = [] := List.length_eq_zero_iff.1 hle
    subst hn
    rfl
  · have h0 := ex73o0 (10 ^ 30) l hl (l.length - 1) (10 ^ 30) (by omega) (big30 _ (by omega))
    have hw : IntKind.i64.wrap ((l.length : Int) - 1) = ((l.length - 1 : Nat) : Int) := by rw [i64_in _ (by omega)]; omega
    rw [show l.length - 1 + 1 = l.length by omega, List.take_length] at h0
    exact (congrArg (law73x74_0 (10 ^ 30) (l, ()) (some (false, ())) (some (true, ())) (10 ^ 30)) hw).trans h0
theorem ex64 (l : List Int) (hl : (l.length : Int) < 2 ^ 62) : fn64 (l, ()) = some (risesL l, ()) := by
  unfold fn64 law64
  exact (bindSome (ex73 l hl)).trans rfl
theorem ex49 (p : Pan) (hp : FewP p) : fn49 (p, ()) = some (paneR p, ()) := by
  obtain ⟨h1, h2, h3, h4⟩ := hp
  unfold fn49 law49 paneR
  refine (bindSome (ex62 p (by omega))).trans ?_
  show (bif !countedP p then some (42, ()) else Option.bind (fn59 (p.1, ())) _) = _
  rw [bindSome (ex59 p.1 (by omega))]
  show (bif !countedP p then some (42, ()) else (bif p.1.any farI then some (40, ()) else Option.bind (fn59 (p.2.1, ())) _)) = _
  rw [bindSome (ex59 p.2.1 (by omega))]
  show (bif !countedP p then some (42, ()) else (bif p.1.any farI then some (40, ()) else (bif p.2.1.any farI then some (40, ()) else Option.bind (fn63x59 (p.2.2.1, ()) ()) _))) = _
  rw [bindSome (ex63x59 (p.2.2.1, ()) (by show (p.2.2.1.length : Int) < _; omega) fun r hr => by have := h4 r hr; omega)]
  show (bif !countedP p then some (42, ()) else (bif p.1.any farI then some (40, ()) else (bif p.2.1.any farI then some (40, ()) else (bif p.2.2.1.any (fun r => r.any farI) then some (40, ()) else Option.bind (fn64 (p.1, ())) _)))) = _
  rw [bindSome (ex64 p.1 (by omega))]
  show (bif !countedP p then some (42, ()) else (bif p.1.any farI then some (40, ()) else (bif p.2.1.any farI then some (40, ()) else (bif p.2.2.1.any (fun r => r.any farI) then some (40, ()) else (bif !risesL p.1 then some (41, ()) else Option.bind (fn64 (p.2.1, ())) _))))) = _
  rw [bindSome (ex64 p.2.1 (by omega))]
  cases !countedP p <;> cases p.1.any farI <;> cases p.2.1.any farI <;> cases p.2.2.1.any (fun r => r.any farI) <;> cases !risesL p.1 <;> cases !risesL p.2.1 <;> rfl
end Go.Proofs.Ytlpnlhokheohgaa
