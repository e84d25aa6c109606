/- Plain Lean: what the laws of this program's functions come to, in numbers and lists; no program is run here. -/
import Derived.Test.YtkamnpkcjokncaaPP09c
set_option linter.unusedVariables false
set_option linter.unusedSimpArgs false
set_option maxRecDepth 100000
namespace Go.Proofs.Ytkamnpkcjokncaa
open Go Go.Ab Go.Proofs Go.IntWalk
/- car.Right in plain Lean (r17). -/
theorem alike_law (a b : Int) : (bif decide ((if b < a then b else a) < 0) then some ((!decide ((if b > a then b else a) > 0), ())) else some ((!false, ()))) = (some (alikeD (a, b, ()), ()) : Option (Bool × Unit)) := by
  unfold alikeD
  by_cases h1 : b < a <;> by_cases h2 : b > a <;> by_cases h3 : a < 0 <;> by_cases h4 : b < 0 <;> by_cases h5 : a > 0 <;> by_cases h6 : b > 0 <;> simp [h1, h2, h3, h4, h5, h6] <;> omega
def prevX (l : List Dot) : Nat → Option Int
  | 0 => none
  | j + 1 => l[j]?.map Prod.fst
theorem maxmin (a b : Int) (p q : Option (Sh.Ts [.int .i64])) : (bif decide ((if b > a then b else a) > 4503599627370496) then p else (bif decide ((if b < a then b else a) < -4503599627370496) then p else q)) = bif farI a || farI b then p else q := by
  unfold farI
  by_cases h1 : b < a <;> by_cases h2 : b > a <;> by_cases h3 : a > 4503599627370496 <;> by_cases h4 : b > 4503599627370496 <;> by_cases h5 : a < -4503599627370496 <;> by_cases h6 : b < -4503599627370496 <;> simp [h1, h2, h3, h4, h5, h6] <;> omega
theorem ex23 (a : Int) : fn23 (a, ()) = some (farI a, ()) := by
  unfold fn23 law23 farI
  by_cases h : a > 4503599627370496 <;> simp [h]
theorem ex34x23 (x : Sh.Ts [.sl (.int .i64)]) (hl : (x.fst.length : Int) < 2 ^ 62) : fn34x23 x () = some (idxL farI x.fst, ()) := by
  unfold fn34x23 law34x23
  refine (scan_law x.fst farI (fun i _ => some (i, ())) (some (-1, ())) (fun n j => law34x23_0 (10 ^ 30) x (fun w => some (w, ())) (some (-1, ())) n j) hl (fun n j v hv => ?_) (fun n j hj => ?_) (10 ^ 30) 0 (Nat.zero_le _) (big30 _ (by omega))).trans ?_
  · conv => lhs; unfold law34x23_0
    simp only [idx0, idxB hv, Bool.and_self, cond_true, Int.toNat_natCast, hv, Option.bind_some]
    exact bindSome (ex23 v)
  · conv => lhs; unfold law34x23_0
    simp only [hj, decide_false, cond_false]
  · unfold idxL; rw [List.drop_zero]
    cases scanL farI x.fst 0 with
    | none => rfl
    | some z => rfl
theorem ex22x23 (x : Sh.Ts [.sl (.int .i64)]) (hl : (x.fst.length : Int) < 2 ^ 62) : fn22x23 x () = some (x.fst.any farI, ()) := by
  unfold fn22x23 law22x23
  refine (bindSome (ex34x23 x  hl)).trans ?_
  show some (decide (0 ≤ idxL farI x.fst), ()) = _
  rw [idxL_nonneg]
theorem ex21 (l : List Int) (hl : (l.length : Int) < 2 ^ 62) : fn21 (l, ()) = some (l.any farI, ()) := by
  unfold fn21 law21
  exact (bindSome (ex22x23 (l, ()) hl)).trans rfl
theorem ex37x21 (x : Sh.Ts [.rows (.int .i64)]) (hl : (x.fst.length : Int) < 2 ^ 62) (hr : ∀ r ∈ x.fst, (List.length (α := Int) r : Int) < 2 ^ 62) : fn37x21 x () = some (idxL (fun r => List.any (α := Int) r farI) x.fst, ()) := by
  unfold fn37x21 law37x21
  refine (scan_law x.fst (fun r => List.any (α := Int) r farI) (fun i _ => some (i, ())) (some (-1, ())) (fun n j => law37x21_0 (10 ^ 30) x (fun w => some (w, ())) (some (-1, ())) n j) hl (fun n j v hv => ?_) (fun n j hj => ?_) (10 ^ 30) 0 (Nat.zero_le _) (big30 _ (by omega))).trans ?_
  · conv => lhs; unfold law37x21_0
    simp only [idx0, idxB hv, Bool.and_self, cond_true, Int.toNat_natCast, hv, Option.bind_some]
    exact bindSome (ex21 v (hr v (List.mem_of_getElem? hv)))
  · conv => lhs; unfold law37x21_0
    simp only [hj, decide_false, cond_false]
  · unfold idxL; rw [List.drop_zero]
    cases scanL (fun r => List.any (α := Int) r farI) x.fst 0 with
    | none => rfl
    | some z => rfl
theorem ex25x21 (x : Sh.Ts [.rows (.int .i64)]) (hl : (x.fst.length : Int) < 2 ^ 62) (hr : ∀ r ∈ x.fst, (List.length (α := Int) r : Int) < 2 ^ 62) : fn25x21 x () = some (x.fst.any (fun r => List.any (α := Int) r farI), ()) := by
  unfold fn25x21 law25x21
  refine (bindSome (ex37x21 x  hl hr)).trans ?_
  show some (decide (0 ≤ idxL (fun r => List.any (α := Int) r farI) x.fst), ()) = _
  rw [idxL_nonneg]
theorem ex37x36 (x : Sh.Ts [.rows (.int .i64)]) (xs : Sh.Ts [PaneSh]) (hl : (x.fst.length : Int) < 2 ^ 62) : fn37x36 x xs = some (idxL (fun r => ((List.length r : Int) != (xs.fst.fst.length : Int))) x.fst, ()) := by
  unfold fn37x36 law37x36
  refine (scan_law x.fst (fun r => ((List.length r : Int) != (xs.fst.fst.length : Int))) (fun i _ => some (i, ())) (some (-1, ())) (fun n j => law37x36_0 (10 ^ 30) x xs (fun w => some (w, ())) (some (-1, ())) n j) hl (fun n j v hv => ?_) (fun n j hj => ?_) (10 ^ 30) 0 (Nat.zero_le _) (big30 _ (by omega))).trans ?_
  · conv => lhs; unfold law37x36_0
    simp only [idx0, idxB hv, Bool.and_self, cond_true, Int.toNat_natCast, hv, Option.bind_some]
  · conv => lhs; unfold law37x36_0
    simp only [hj, decide_false, cond_false]
  · unfold idxL; rw [List.drop_zero]
    cases scanL (fun r => ((List.length r : Int) != (xs.fst.fst.length : Int))) x.fst 0 with
    | none => rfl
    | some z => rfl
theorem ex25x36 (x : Sh.Ts [.rows (.int .i64)]) (xs : Sh.Ts [PaneSh]) (hl : (x.fst.length : Int) < 2 ^ 62) : fn25x36 x xs = some (x.fst.any (fun r => ((List.length r : Int) != (xs.fst.fst.length : Int))), ()) := by
  unfold fn25x36 law25x36
  refine (bindSome (ex37x36 x xs hl)).trans ?_
  show some (decide (0 ≤ idxL (fun r => ((List.length r : Int) != (xs.fst.fst.length : Int))) x.fst), ()) = _
  rw [idxL_nonneg]
theorem ex35 (n : Nat) : fn35 ((n : Int), ()) = some (mayN n, ()) := by
  unfold fn35 law35 mayN
  have h1 : decide ((2 : Int) ≤ (n : Int)) = decide (2 ≤ n) := by simp only [decide_eq_decide]; omega
  have h2 : decide ((n : Int) ≤ 32) = decide (n ≤ 32) := by simp only [decide_eq_decide]; omega
  show (bif decide ((2 : Int) ≤ (n : Int)) then some (decide ((n : Int) ≤ 32), ()) else some (false, ())) = _
  rw [h1, h2]; cases decide (2 ≤ n) <;> rfl
theorem any_ne {α : Type} (l : List (List α)) (n : Nat) : (!l.any fun r => ((r.length : Int) != (n : Int))) = l.all fun r => decide (r.length = n) := by
  rw [List.all_eq_not_any_not]
  congr 2; funext r
  by_cases h : r.length = n
  · simp [h]
  · have : ¬ (r.length : Int) = (n : Int) := by omega
    simp [h, this]
theorem ex24 (p : Pan) (hl : (p.2.2.1.length : Int) < 2 ^ 62) : fn24 (p, ()) = some (countedP p, ()) := by
  unfold fn24 law24 countedP
  refine (bindSome (ex35 p.1.length)).trans ?_
  show (bif mayN p.1.length then Option.bind (fn35 ((p.2.1.length : Int), ())) _ else _) = _
  rw [bindSome (ex35 p.2.1.length)]
  have h3 : ((p.2.2.1.length : Int) == (p.2.1.length : Int)) = decide (p.2.2.1.length = p.2.1.length) := by
    by_cases h : p.2.2.1.length = p.2.1.length
    · simp [h]
    · have : ¬ (p.2.2.1.length : Int) = (p.2.1.length : Int) := by omega
      simp [h, this]
  show (bif mayN p.1.length then (bif mayN p.2.1.length then (bif ((p.2.2.1.length : Int) == (p.2.1.length : Int)) then Option.bind (fn25x36 p.2.2 (p, ())) _ else _) else _) else _) = _
  rw [h3, bindSome (ex25x36 p.2.2 (p, ()) hl), ← any_ne]
  cases mayN p.1.length <;> cases mayN p.2.1.length <;> cases decide (p.2.2.1.length = p.2.1.length) <;> rfl
theorem ex38o0 (N0 : Nat) (l : List Int) (hl : (l.length : Int) < 2 ^ 62) : ∀ (j n : Nat), j < l.length → j < n → law38x39_0 N0 (l, ()) (some (false, ())) (some (true, ())) n (j : Int) = (some (risesL (l.take (j + 1)), ()) : Option (Sh.Ts [.bool]))
  | j, 0, _, h => by omega
  | 0, n + 1, hj, h => by
    unfold law38x39_0
    have : (l.take 1).length ≤ 1 := by simp; omega
    have hr : risesL (l.take (0 + 1)) = true := by
      cases l with
      | nil => simp at hj
      | cons a l => rfl
    rw [hr]; rfl
  | j + 1, n + 1, hj, h => by
    unfold law38x39_0
    have ih := ex38o0 N0 l hl j n (by omega) (by omega)
    have hv : l[j + 1]? = some l[j + 1] := List.getElem?_eq_getElem hj
    have hv' : l[j]? = some l[j] := List.getElem?_eq_getElem (by omega)
    have hw : IntKind.i64.wrap (((j + 1 : Nat) : Int) - 1) = (j : Int) := by rw [i64_in _ (by omega)]; omega
    have h0 : decide (((j + 1 : Nat) : Int) > 0) = true := by simp
    have hrr : risesL (l.take (j + 1 + 1)) = (decide (l[j] < l[j + 1]) && risesL (l.take (j + 1))) := by
      rw [Bool.eq_iff_iff, Bool.and_eq_true, decide_eq_true_eq]
      constructor
      · intro hk
        refine ⟨risesL_get hk j _ _ (by rw [List.getElem?_take_of_lt (by omega)]; exact hv') (by rw [List.getElem?_take_of_lt (by omega)]; exact hv), risesL_of fun k a b h1 h2 => ?_⟩
        obtain ⟨h3, _⟩ := List.getElem?_eq_some_iff.1 h2
        have h3 : k + 1 < j + 1 := by simp at h3; omega
        rw [List.getElem?_take_of_lt (by omega)] at h1 h2
        exact risesL_get hk k a b (by rw [List.getElem?_take_of_lt (by omega)]; exact h1) (by rw [List.getElem?_take_of_lt (by omega)]; exact h2)
      · rintro ⟨h1, h2⟩
        refine risesL_of fun k a b h3 h4 => ?_
        obtain ⟨h5, _⟩ := List.getElem?_eq_some_iff.1 h4
        have h5 : k + 1 < j + 2 := by simp at h5; omega
        rw [List.getElem?_take_of_lt (by omega)] at h3 h4
        by_cases hk : k = j
        · have e1 : l[j] = a := Option.some.inj (hv'.symm.trans (hk ▸ h3))
          have e2 : l[j + 1] = b := Option.some.inj (hv.symm.trans (hk ▸ h4))
          rw [← e1, ← e2]; exact h1
        · exact risesL_get h2 k a b (by rw [List.getElem?_take_of_lt (by omega)]; exact h3) (by rw [List.getElem?_take_of_lt (by omega)]; exact h4)
    simp only [idx0, idxB hv, hw, idxB hv', h0, Bool.and_self, cond_true, Int.toNat_natCast, hv, hv', Option.bind_some]
    rw [ih, hrr]
    show Option.bind (fn39 (l[j + 1], l[j], ())) _ = _
    unfold fn39 law39
    show Option.bind (bif decide (l[j + 1] > l[j]) then some (1, ()) else some (-1, ())) _ = _
    by_cases hc : l[j] < l[j + 1]
    · have hc' : l[j + 1] > l[j] := hc
      simp only [hc, hc', decide_true, cond_true, Bool.true_and]; rfl
    · have hc' : ¬ l[j + 1] > l[j] := hc
      simp only [hc, hc', decide_false, cond_false, Bool.false_and]; rfl
theorem ex38 (l : List Int) (hl : (l.length : Int) < 2 ^ 62) : fn38x39 (l, ()) () = some (risesL l, ()) := by
  unfold fn38x39 law38x39
  rcases Nat.eq_zero_or_pos l.length with hle | hle
  · have hn : l = [] := List.length_eq_zero_iff.1 hle
    subst hn
    rfl
  · have h0 := ex38o0 (10 ^ 30) l hl (l.length - 1) (10 ^ 30) (by omega) (big30 _ (by omega))
    have hw : IntKind.i64.wrap ((l.length : Int) - 1) = ((l.length - 1 : Nat) : Int) := by rw [i64_in _ (by omega)]; omega
    rw [show l.length - 1 + 1 = l.length by omega, List.take_length] at h0
    exact (congrArg (law38x39_0 (10 ^ 30) (l, ()) (some (false, ())) (some (true, ())) (10 ^ 30)) hw).trans h0
theorem ex26 (l : List Int) (hl : (l.length : Int) < 2 ^ 62) : fn26 (l, ()) = some (risesL l, ()) := by
  unfold fn26 law26
  exact (bindSome (ex38 l hl)).trans rfl
theorem ex10 (p : Pan) (hp : FewP p) : fn10 (p, ()) = some (paneR p, ()) := by
  obtain ⟨h1, h2, h3, h4⟩ := hp
  unfold fn10 law10 paneR
  refine (bindSome (ex24 p (by omega))).trans ?_
  show (bif !countedP p then some (42, ()) else Option.bind (fn21 (p.1, ())) _) = _
  rw [bindSome (ex21 p.1 (by omega))]
  show (bif !countedP p then some (42, ()) else (bif p.1.any farI then some (40, ()) else Option.bind (fn21 (p.2.1, ())) _)) = _
  rw [bindSome (ex21 p.2.1 (by omega))]
  show (bif !countedP p then some (42, ()) else (bif p.1.any farI then some (40, ()) else (bif p.2.1.any farI then some (40, ()) else Option.bind (fn25x21 (p.2.2.1, ()) ()) _))) = _
  rw [bindSome (ex25x21 (p.2.2.1, ()) (by show (p.2.2.1.length : Int) < _; omega) fun r hr => by have := h4 r hr; omega)]
  show (bif !countedP p then some (42, ()) else (bif p.1.any farI then some (40, ()) else (bif p.2.1.any farI then some (40, ()) else (bif p.2.2.1.any (fun r => r.any farI) then some (40, ()) else Option.bind (fn26 (p.1, ())) _)))) = _
  rw [bindSome (ex26 p.1 (by omega))]
  show (bif !countedP p then some (42, ()) else (bif p.1.any farI then some (40, ()) else (bif p.2.1.any farI then some (40, ()) else (bif p.2.2.1.any (fun r => r.any farI) then some (40, ()) else (bif !risesL p.1 then some (41, ()) else Option.bind (fn26 (p.2.1, ())) _))))) = _
  rw [bindSome (ex26 p.2.1 (by omega))]
  cases !countedP p <;> cases p.1.any farI <;> cases p.2.1.any farI <;> cases p.2.2.1.any (fun r => r.any farI) <;> cases !risesL p.1 <;> cases !risesL p.2.1 <;> rfl
end Go.Proofs.Ytkamnpkcjokncaa
