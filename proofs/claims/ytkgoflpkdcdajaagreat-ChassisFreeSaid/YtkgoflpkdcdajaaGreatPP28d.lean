/- Plain Lean: what the laws of this program's functions come to, in numbers and lists; no program is run here. -/
import Derived.Test.YtkgoflpkdcdajaaGreatPP28m
set_option linter.unusedVariables false
set_option linter.unusedSimpArgs false
set_option maxRecDepth 100000
namespace Go.Proofs.YtkgoflpkdcdajaaGreat
open Go Go.Ab Go.Proofs Go.IntWalk
/- car.Right in plain Lean (r17). -/
theorem ex151 (b : boundSh.T) : fn151 (b, ()) = some (outB b, ()) := by
  unfold fn151 law151 outB
  by_cases h : b.1 < b.2.1 <;> simp [h]
theorem ex167 (x : Sh.Ts [boundSh.sl]) (hl : (x.fst.length : Int) < 2 ^ 62) : fn167x151 x () = some (idxL outB x.fst, ()) := by
  unfold fn167x151 law167x151
  refine (scan_law x.fst outB (fun i _ => some (i, ())) (some (-1, ())) (fun n j => law167x151_0 (10 ^ 30) x (fun w => some (w, ())) (some (-1, ())) n j) hl (fun n j v hv => ?_) (fun n j hj => ?_) (10 ^ 30) 0 (Nat.zero_le _) (big30 _ (by omega))).trans ?_
  · conv => lhs; unfold law167x151_0
    simp only [idx0, idxB hv, Bool.and_self, cond_true, Int.toNat_natCast, hv, Option.bind_some]
    exact bindSome (ex151 v)
  · conv => lhs; unfold law167x151_0
    simp only [hj, decide_false, cond_false]
  · unfold idxL; rw [List.drop_zero]
    cases scanL outB x.fst 0 with
    | none => rfl
    | some z => rfl
theorem ex152 (x : Sh.Ts [boundSh.sl]) (hl : (x.fst.length : Int) < 2 ^ 62) : fn152x151 x () = some (x.fst.any outB, ()) := by
  unfold fn152x151 law152x151
  refine (bindSome (ex167 x hl)).trans ?_
  show some (decide (0 ≤ idxL outB x.fst), ()) = _
  rw [idxL_nonneg]
theorem ex133 (l : List Bnd) (hl : (l.length : Int) < 2 ^ 62) : fn133 (l, ()) = some (rangedR l, ()) := by
  unfold fn133 law133 rangedR
  refine (bindSome (ex152 (l, ()) hl)).trans ?_
  cases l.any outB <;> rfl
theorem alike_law (a b : Int) : (bif decide ((if b < a then b else a) < 0) then some ((!decide ((if b > a then b else a) > 0), ())) else some ((!false, ()))) = (some (alikeD (a, b, ()), ()) : Option (Bool × Unit)) := by
  unfold alikeD
  by_cases h1 : b < a <;> by_cases h2 : b > a <;> by_cases h3 : a < 0 <;> by_cases h4 : b < 0 <;> by_cases h5 : a > 0 <;> by_cases h6 : b > 0 <;> simp [h1, h2, h3, h4, h5, h6] <;> omega
theorem ex135 (d : DotSh.T) : fn135 (d, ()) = some (alikeD d, ()) := alike_law d.1 d.2.1
def prevX (l : List Dot) : Nat → Option Int
  | 0 => none
  | j + 1 => l[j]?.map Prod.fst
theorem maxmin (a b : Int) (p q : Option (Sh.Ts [.int .i64])) : (bif decide ((if b > a then b else a) > 4503599627370496) then p else (bif decide ((if b < a then b else a) < -4503599627370496) then p else q)) = bif farI a || farI b then p else q := by
  unfold farI
  by_cases h1 : b < a <;> by_cases h2 : b > a <;> by_cases h3 : a > 4503599627370496 <;> by_cases h4 : b > 4503599627370496 <;> by_cases h5 : a < -4503599627370496 <;> by_cases h6 : b < -4503599627370496 <;> simp [h1, h2, h3, h4, h5, h6] <;> omega
theorem ex153o0 (N0 : Nat) (x : Sh.Ts [DotSh.sl]) (hl : (x.fst.length : Int) < 2 ^ 62) : ∀ (n j : Nat), j ≤ x.fst.length → x.fst.length - j < n → law153o0 N0 x (fun w => some (w, ())) (some (0, ())) n (j : Int) = some (tabGo (prevX x.fst j) (x.fst.drop j), ())
  | 0, j, _, h => by omega
  | n + 1, j, hj, h => by
    unfold law153o0
    by_cases hc : j < x.fst.length
    · have hv : x.fst[j]? = some x.fst[j] := List.getElem?_eq_getElem hc
      rw [List.drop_eq_getElem_cons hc]
      have ih := ex153o0 N0 x hl n (j + 1) (by omega) (by omega)
      simp only [idx0, idxB hv, Bool.and_self, cond_true, Int.toNat_natCast, hv, Option.bind_some, tabGo]
      refine (maxmin (x.fst[j]).1 (x.fst[j]).2.1 _ _).trans ?_
      rw [wrapNat j (by omega), ih]
      have e1 : prevX x.fst (j + 1) = some (x.fst[j]).1 := by simp [prevX, hv]
      rw [e1]
      cases farI (x.fst[j]).1 || farI (x.fst[j]).2.1
      · simp only [cond_false]
        cases j with
        | zero => rfl
        | succ j =>
          have hw : IntKind.i64.wrap (((j + 1 : Nat) : Int) - 1) = (j : Int) := by rw [i64_in _ (by omega)]; omega
          have hv' : x.fst[j]? = some x.fst[j] := List.getElem?_eq_getElem (by omega)
          rw [hw]
          simp only [idx0, idxB hv', Bool.and_self, cond_true, Int.toNat_natCast, hv', Option.bind_some, prevX, Option.map_some]
          have : decide (((j + 1 : Nat) : Int) > 0) = true := by simp
          simp only [this, cond_true]
          cases decide (x.fst[j + 1].1 ≤ x.fst[j].1) <;> rfl
      · rfl
    · have : decide ((j : Int) < (x.fst.length : Int)) = false := by simp; omega
      simp only [this, cond_false]
      rw [show j = x.fst.length by omega, List.drop_length]; rfl
theorem ex153 (l : List Dot) (hl : (l.length : Int) < 2 ^ 62) : fn153 (l, ()) = some (tabR l, ()) := by
  unfold fn153 law153 tabR
  have h0 : law153o0 (10 ^ 30) (l, ()) (fun w => some (w, ())) (some (0, ())) (10 ^ 30) 0 = some (tabGo none l, ()) := (ex153o0 (10 ^ 30) (l, ()) hl (10 ^ 30) 0 (Nat.zero_le _) (big30 _ (by show ((l.length - 0 : Nat) : Int) < 2 ^ 62; omega)))
  rw [h0]
  cases decide ((l.length : Int) < 2) <;> cases decide ((l.length : Int) > 32) <;> rfl
theorem ex134x135 (l : List Dot) (lo hi : Int) (hl : (l.length : Int) < 2 ^ 62) : fn134x135 (l, lo, hi, ()) () = some (valR alikeD l lo hi, ()) := by
  unfold fn134x135 law134x135 valR
  refine (bindSome (ex153 l hl)).trans ?_
  have h0 : law134x135_0 (10 ^ 30) (l, lo, hi, ()) (some (40, ())) (some (0, ())) (10 ^ 30) 0 = bif l.any (fun d : Dot => decide (d.2.1 < lo) || decide (d.2.1 > hi) || !alikeD d) then some (40, ()) else (some (0, ()) : Option (Sh.Ts [.int .i64])) := by
    refine any_law l (fun d : Dot => decide (d.2.1 < lo) || decide (d.2.1 > hi) || !alikeD d) (some (40, ())) (some (0, ())) (fun n j => law134x135_0 (10 ^ 30) (l, lo, hi, ()) (some (40, ())) (some (0, ())) n j) hl (fun n j v hv => ?_) (fun n j hj => ?_) (10 ^ 30) (big30 _ hl)
    · conv => lhs; unfold law134x135_0
      simp only [idx0, idxB hv, Bool.and_self, cond_true, Int.toNat_natCast, hv, Option.bind_some]
      rw [bindSome (ex135 v)]
      cases decide (v.2.1 < lo) <;> cases decide (v.2.1 > hi) <;> rfl
    · conv => lhs; unfold law134x135_0
      simp only [hj, decide_false, cond_false]
  refine (congrArg (fun z => bif tabR l != 0 then some (tabR l, ()) else z) h0).trans ?_
  cases tabR l != 0 <;> cases l.any (fun d : Dot => decide (d.2.1 < lo) || decide (d.2.1 > hi) || !alikeD d) <;> rfl
theorem ex134x137 (l : List Dot) (lo hi : Int) (hl : (l.length : Int) < 2 ^ 62) : fn134x137 (l, lo, hi, ()) () = some (valR (fun _ => true) l lo hi, ()) := by
  unfold fn134x137 law134x137 valR
  refine (bindSome (ex153 l hl)).trans ?_
  have h0 : law134x137_0 (10 ^ 30) (l, lo, hi, ()) (some (40, ())) (some (0, ())) (10 ^ 30) 0 = bif l.any (fun d : Dot => decide (d.2.1 < lo) || decide (d.2.1 > hi) || !(fun _ => true) d) then some (40, ()) else (some (0, ()) : Option (Sh.Ts [.int .i64])) := by
    refine any_law l (fun d : Dot => decide (d.2.1 < lo) || decide (d.2.1 > hi) || !(fun _ => true) d) (some (40, ())) (some (0, ())) (fun n j => law134x137_0 (10 ^ 30) (l, lo, hi, ()) (some (40, ())) (some (0, ())) n j) hl (fun n j v hv => ?_) (fun n j hj => ?_) (10 ^ 30) (big30 _ hl)
    · conv => lhs; unfold law134x137_0
      simp only [idx0, idxB hv, Bool.and_self, cond_true, Int.toNat_natCast, hv, Option.bind_some]
      cases decide (v.2.1 < lo) <;> cases decide (v.2.1 > hi) <;> rfl
    · conv => lhs; unfold law134x137_0
      simp only [hj, decide_false, cond_false]
  refine (congrArg (fun z => bif tabR l != 0 then some (tabR l, ()) else z) h0).trans ?_
  cases tabR l != 0 <;> cases l.any (fun d : Dot => decide (d.2.1 < lo) || decide (d.2.1 > hi) || !(fun _ => true) d) <;> rfl
theorem ex170 (a : Int) : fn170 (a, ()) = some (farI a, ()) := by
  unfold fn170 law170 farI
  by_cases h : a > 4503599627370496 <;> simp [h]
theorem ex177x170 (x : Sh.Ts [.sl (.int .i64)]) (hl : (x.fst.length : Int) < 2 ^ 62) : fn177x170 x () = some (idxL farI x.fst, ()) := by
  unfold fn177x170 law177x170
  refine (scan_law x.fst farI (fun i _ => some (i, ())) (some (-1, ())) (fun n j => law177x170_0 (10 ^ 30) x (fun w => some (w, ())) (some (-1, ())) n j) hl (fun n j v hv => ?_) (fun n j hj => ?_) (10 ^ 30) 0 (Nat.zero_le _) (big30 _ (by omega))).trans ?_
  · conv => lhs; unfold law177x170_0
    simp only [idx0, idxB hv, Bool.and_self, cond_true, Int.toNat_natCast, hv, Option.bind_some]
    exact bindSome (ex170 v)
  · conv => lhs; unfold law177x170_0
    simp only [hj, decide_false, cond_false]
  · unfold idxL; rw [List.drop_zero]
    cases scanL farI x.fst 0 with
    | none => rfl
    | some z => rfl
theorem ex169x170 (x : Sh.Ts [.sl (.int .i64)]) (hl : (x.fst.length : Int) < 2 ^ 62) : fn169x170 x () = some (x.fst.any farI, ()) := by
  unfold fn169x170 law169x170
  refine (bindSome (ex177x170 x  hl)).trans ?_
  show some (decide (0 ≤ idxL farI x.fst), ()) = _
  rw [idxL_nonneg]
theorem ex168 (l : List Int) (hl : (l.length : Int) < 2 ^ 62) : fn168 (l, ()) = some (l.any farI, ()) := by
  unfold fn168 law168
  exact (bindSome (ex169x170 (l, ()) hl)).trans rfl
theorem ex180x168 (x : Sh.Ts [.rows (.int .i64)]) (hl : (x.fst.length : Int) < 2 ^ 62) (hr : ∀ r ∈ x.fst, (List.length (α := Int) r : Int) < 2 ^ 62) : fn180x168 x () = some (idxL (fun r => List.any (α := Int) r farI) x.fst, ()) := by
  unfold fn180x168 law180x168
  refine (scan_law x.fst (fun r => List.any (α := Int) r farI) (fun i _ => some (i, ())) (some (-1, ())) (fun n j => law180x168_0 (10 ^ 30) x (fun w => some (w, ())) (some (-1, ())) n j) hl (fun n j v hv => ?_) (fun n j hj => ?_) (10 ^ 30) 0 (Nat.zero_le _) (big30 _ (by omega))).trans ?_
  · conv => lhs; unfold law180x168_0
    simp only [idx0, idxB hv, Bool.and_self, cond_true, Int.toNat_natCast, hv, Option.bind_some]
    exact bindSome (ex168 v (hr v (List.mem_of_getElem? hv)))
  · conv => lhs; unfold law180x168_0
    simp only [hj, decide_false, cond_false]
  · unfold idxL; rw [List.drop_zero]
    cases scanL (fun r => List.any (α := Int) r farI) x.fst 0 with
    | none => rfl
    | some z => rfl
theorem ex172x168 (x : Sh.Ts [.rows (.int .i64)]) (hl : (x.fst.length : Int) < 2 ^ 62) (hr : ∀ r ∈ x.fst, (List.length (α := Int) r : Int) < 2 ^ 62) : fn172x168 x () = some (x.fst.any (fun r => List.any (α := Int) r farI), ()) := by
  unfold fn172x168 law172x168
  refine (bindSome (ex180x168 x  hl hr)).trans ?_
  show some (decide (0 ≤ idxL (fun r => List.any (α := Int) r farI) x.fst), ()) = _
  rw [idxL_nonneg]
theorem ex180x179 (x : Sh.Ts [.rows (.int .i64)]) (xs : Sh.Ts [PaneSh]) (hl : (x.fst.length : Int) < 2 ^ 62) : fn180x179 x xs = some (idxL (fun r => ((List.length r : Int) != (xs.fst.fst.length : Int))) x.fst, ()) := by
  unfold fn180x179 law180x179
  refine (scan_law x.fst (fun r => ((List.length r : Int) != (xs.fst.fst.length : Int))) (fun i _ => some (i, ())) (some (-1, ())) (fun n j => law180x179_0 (10 ^ 30) x xs (fun w => some (w, ())) (some (-1, ())) n j) hl (fun n j v hv => ?_) (fun n j hj => ?_) (10 ^ 30) 0 (Nat.zero_le _) (big30 _ (by omega))).trans ?_
  · conv => lhs; unfold law180x179_0
    simp only [idx0, idxB hv, Bool.and_self, cond_true, Int.toNat_natCast, hv, Option.bind_some]
  · conv => lhs; unfold law180x179_0
    simp only [hj, decide_false, cond_false]
  · unfold idxL; rw [List.drop_zero]
    cases scanL (fun r => ((List.length r : Int) != (xs.fst.fst.length : Int))) x.fst 0 with
    | none => rfl
    | some z => rfl
theorem ex172x179 (x : Sh.Ts [.rows (.int .i64)]) (xs : Sh.Ts [PaneSh]) (hl : (x.fst.length : Int) < 2 ^ 62) : fn172x179 x xs = some (x.fst.any (fun r => ((List.length r : Int) != (xs.fst.fst.length : Int))), ()) := by
  unfold fn172x179 law172x179
  refine (bindSome (ex180x179 x xs hl)).trans ?_
  show some (decide (0 ≤ idxL (fun r => ((List.length r : Int) != (xs.fst.fst.length : Int))) x.fst), ()) = _
  rw [idxL_nonneg]
theorem ex178 (n : Nat) : fn178 ((n : Int), ()) = some (mayN n, ()) := by
  unfold fn178 law178 mayN
  have h1 : decide ((2 : Int) ≤ (n : Int)) = decide (2 ≤ n) := by simp only [decide_eq_decide]; omega
  have h2 : decide ((n : Int) ≤ 32) = decide (n ≤ 32) := by simp only [decide_eq_decide]; omega
  show (bif decide ((2 : Int) ≤ (n : Int)) then some (decide ((n : Int) ≤ 32), ()) else some (false, ())) = _
  rw [h1, h2]; cases decide (2 ≤ n) <;> rfl
theorem any_ne {α : Type} (l : List (List α)) (n : Nat) : (!l.any fun r => ((r.length : Int) != (n : Int))) = l.all fun r => decide (r.length = n) := by
  rw [List.all_eq_not_any_not]
  congr 2; funext r
  by_cases h : r.length = n
  · simp [h]
  · have : ¬ (r.length : Int) = (n : Int) := by omega
    simp [h, this]
theorem ex171 (p : Pan) (hl : (p.2.2.1.length : Int) < 2 ^ 62) : fn171 (p, ()) = some (countedP p, ()) := by
  unfold fn171 law171 countedP
  refine (bindSome (ex178 p.1.length)).trans ?_
  show (bif mayN p.1.length then Option.bind (fn178 ((p.2.1.length : Int), ())) _ else _) = _
  rw [bindSome (ex178 p.2.1.length)]
  have h3 : ((p.2.2.1.length : Int) == (p.2.1.length : Int)) = decide (p.2.2.1.length = p.2.1.length) := by
    by_cases h : p.2.2.1.length = p.2.1.length
    · simp [h]
    · have : ¬ (p.2.2.1.length : Int) = (p.2.1.length : Int) := by omega
      simp [h, this]
  show (bif mayN p.1.length then (bif mayN p.2.1.length then (bif ((p.2.2.1.length : Int) == (p.2.1.length : Int)) then Option.bind (fn172x179 p.2.2 (p, ())) _ else _) else _) else _) = _
  rw [h3, bindSome (ex172x179 p.2.2 (p, ()) hl), ← any_ne]
  cases mayN p.1.length <;> cases mayN p.2.1.length <;> cases decide (p.2.2.1.length = p.2.1.length) <;> rfl
theorem ex181o0 (N0 : Nat) (l : List Int) (hl : (l.length : Int) < 2 ^ 62) : ∀ (j n : Nat), j < l.length → j < n → law181x182_0 N0 (l, ()) (some (false, ())) (some (true, ())) n (j : Int) = (some (risesL (l.take (j + 1)), ()) : Option (Sh.Ts [.bool]))
  | j, 0, _, h => by omega
  | 0, n + 1, hj, h => by
    unfold law181x182_0
    have : (l.take 1).length ≤ 1 := by simp; omega
    have hr : risesL (l.take (0 + 1)) = true := by
      cases l with
      | nil => simp at hj
      | cons a l => rfl
    rw [hr]; rfl
  | j + 1, n + 1, hj, h => by
    unfold law181x182_0
    have ih := ex181o0 N0 l hl j n (by omega) (by omega)
    have hv : l[j + 1]? = some l[j + 1] := List.getElem?_eq_getElem hj
    have hv' : l[j]? = some l[j] := List.getElem?_eq_getElem (by omega)
    have hw : IntKind.i64.wrap (((j + 1 : Nat) : Int) - 1) = (j : Int) := by rw [i64_in _ (by omega)]; omega
    have h0 : decide (((j + 1 : Nat) : Int) > 0) = true := by simp
    have hrr : risesL (l.take (j + 1 + 1)) = (decide (l[j] < l[j + 1]) && risesL (l.take (j + 1))) := by
      rw [Bool.eq_iff_iff, Bool.and_eq_true, decide_eq_true_eq]
      constructor
      · intro hk
        refine ⟨risesL_get hk j _ _ (by rw [List.getElem?_take_of_lt (by omega)]; exact hv') (by rw [List.getElem?_take_of_lt (by omega)]; exact hv), risesL_of fun k a b h1 h2 => ?_⟩
        obtain ⟨h3, _⟩ := List.getElem?_eq_some_iff.1 h2
        have h3 : k + 1 < j + 1 := by simp at h3; omega
        rw [List.getElem?_take_of_lt (by omega)] at h1 h2
        exact risesL_get hk k a b (by rw [List.getElem?_take_of_lt (by omega)]; exact h1) (by rw [List.getElem?_take_of_lt (by omega)]; exact h2)
      · rintro ⟨h1, h2⟩
        refine risesL_of fun k a b h3 h4 => ?_
        obtain ⟨h5, _⟩ := List.getElem?_eq_some_iff.1 h4
        have h5 : k + 1 < j + 2 := by simp at h5; omega
        rw [List.getElem?_take_of_lt (by omega)] at h3 h4
        by_cases hk : k = j
        · have e1 : l[j] = a := Option.some.inj (hv'.symm.trans (hk ▸ h3))
          have e2 : l[j + 1] = b := Option.some.inj (hv.symm.trans (hk ▸ h4))
          rw [← e1, ← e2]; exact h1
        · exact risesL_get h2 k a b (by rw [List.getElem?_take_of_lt (by omega)]; exact h3) (by rw [List.getElem?_take_of_lt (by omega)]; exact h4)
    simp only [idx0, idxB hv, hw, idxB hv', h0, Bool.and_self, cond_true, Int.toNat_natCast, hv, hv', Option.bind_some]
    rw [ih, hrr]
    show Option.bind (fn182 (l[j + 1], l[j], ())) _ = _
    unfold fn182 law182
    show Option.bind (bif decide (l[j + 1] > l[j]) then some (1, ()) else some (-1, ())) _ = _
    by_cases hc : l[j] < l[j + 1]
    · have hc' : l[j + 1] > l[j] := hc
      simp only [hc, hc', decide_true, cond_true, Bool.true_and]; rfl
    · have hc' : ¬ l[j + 1] > l[j] := hc
      simp only [hc, hc', decide_false, cond_false, Bool.false_and]; rfl
theorem ex181 (l : List Int) (hl : (l.length : Int) < 2 ^ 62) : fn181x182 (l, ()) () = some (risesL l, ()) := by
  unfold fn181x182 law181x182
  rcases Nat.eq_zero_or_pos l.length with hle | hle
  · have hn : l = [] := List.length_eq_zero_iff.1 hle
    subst hn
    rfl
  · have h0 := ex181o0 (10 ^ 30) l hl (l.length - 1) (10 ^ 30) (by omega) (big30 _ (by omega))
    have hw : IntKind.i64.wrap ((l.length : Int) - 1) = ((l.length - 1 : Nat) : Int) := by rw [i64_in _ (by omega)]; omega
    rw [show l.length - 1 + 1 = l.length by omega, List.take_length] at h0
    exact (congrArg (law181x182_0 (10 ^ 30) (l, ()) (some (false, ())) (some (true, ())) (10 ^ 30)) hw).trans h0
theorem ex173 (l : List Int) (hl : (l.length : Int) < 2 ^ 62) : fn173 (l, ()) = some (risesL l, ()) := by
  unfold fn173 law173
  exact (bindSome (ex181 l hl)).trans rfl
theorem ex154 (p : Pan) (hp : FewP p) : fn154 (p, ()) = some (paneR p, ()) := by
  obtain ⟨h1, h2, h3, h4⟩ := hp
  unfold fn154 law154 paneR
  refine (bindSome (ex171 p (by omega))).trans ?_
  show (bif !countedP p then some (42, ()) else Option.bind (fn168 (p.1, ())) _) = _
  rw [bindSome (ex168 p.1 (by omega))]
  show (bif !countedP p then some (42, ()) else (bif p.1.any farI then some (40, ()) else Option.bind (fn168 (p.2.1, ())) _)) = _
  rw [bindSome (ex168 p.2.1 (by omega))]
  show (bif !countedP p then some (42, ()) else (bif p.1.any farI then some (40, ()) else (bif p.2.1.any farI then some (40, ()) else Option.bind (fn172x168 (p.2.2.1, ()) ()) _))) = _
  rw [bindSome (ex172x168 (p.2.2.1, ()) (by show (p.2.2.1.length : Int) < _; omega) fun r hr => by have := h4 r hr; omega)]
  show (bif !countedP p then some (42, ()) else (bif p.1.any farI then some (40, ()) else (bif p.2.1.any farI then some (40, ()) else (bif p.2.2.1.any (fun r => r.any farI) then some (40, ()) else Option.bind (fn173 (p.1, ())) _)))) = _
  rw [bindSome (ex173 p.1 (by omega))]
  show (bif !countedP p then some (42, ()) else (bif p.1.any farI then some (40, ()) else (bif p.2.1.any farI then some (40, ()) else (bif p.2.2.1.any (fun r => r.any farI) then some (40, ()) else (bif !risesL p.1 then some (41, ()) else Option.bind (fn173 (p.2.1, ())) _))))) = _
  rw [bindSome (ex173 p.2.1 (by omega))]
  cases !countedP p <;> cases p.1.any farI <;> cases p.2.1.any farI <;> cases p.2.2.1.any (fun r => r.any farI) <;> cases !risesL p.1 <;> cases !risesL p.2.1 <;> rfl
end Go.Proofs.YtkgoflpkdcdajaaGreat
