/- Plain Lean: what the laws of this program's functions come to, in numbers and lists; no program is run here. -/
import Derived.Test.YtkobnmpilcpojaaGreatPP7o
set_option linter.unusedVariables false
set_option linter.unusedSimpArgs false
set_option maxRecDepth 100000
namespace Go.Proofs.YtkobnmpilcpojaaGreat
open Go Go.Ab Go.Proofs Go.IntWalk
theorem ex162 (a : Int) : fn162 (a, ()) = some (farI a, ()) := by
  unfold fn162 law162 farI
  by_cases h : a > 4503599627370496 <;> simp [h]
theorem ex142x162 (x : Sh.Ts [.sl (.int .i64)]) (hl : (x.fst.length : Int) < 2 ^ 62) : fn142x162 x () = some (idxL farI x.fst, ()) := by
  unfold fn142x162 law142x162
  refine (scan_law x.fst farI (fun i _ => some (i, ())) (some (-1, ())) (fun n j => law142x162_0 (10 ^ 30) x (fun w => some (w, ())) (some (-1, ())) n j) hl (fun n j v hv => ?_) (fun n j hj => ?_) (10 ^ 30) 0 (Nat.zero_le _) (big30 _ (by omega))).trans ?_
  · conv => lhs; unfold law142x162_0
    simp only [idx0, idxB hv, Bool.and_self, cond_true, Int.toNat_natCast, hv, Option.bind_some]
    exact bindSome (ex162 v)
  · conv => lhs; unfold law142x162_0
    simp only [hj, decide_false, cond_false]
  · unfold idxL; rw [List.drop_zero]
    cases scanL farI x.fst 0 with
    | none => rfl
    | some z => rfl
theorem ex106x162 (x : Sh.Ts [.sl (.int .i64)]) (hl : (x.fst.length : Int) < 2 ^ 62) : fn106x162 x () = some (x.fst.any farI, ()) := by
  unfold fn106x162 law106x162
  refine (bindSome (ex142x162 x  hl)).trans ?_
  show some (decide (0 ≤ idxL farI x.fst), ()) = _
  rw [idxL_nonneg]
theorem ex161 (l : List Int) (hl : (l.length : Int) < 2 ^ 62) : fn161 (l, ()) = some (l.any farI, ()) := by
  unfold fn161 law161
  exact (bindSome (ex106x162 (l, ()) hl)).trans rfl
theorem ex185x161 (x : Sh.Ts [.rows (.int .i64)]) (hl : (x.fst.length : Int) < 2 ^ 62) (hr : ∀ r ∈ x.fst, (List.length (α := Int) r : Int) < 2 ^ 62) : fn185x161 x () = some (idxL (fun r => List.any (α := Int) r farI) x.fst, ()) := by
  unfold fn185x161 law185x161
  refine (scan_law x.fst (fun r => List.any (α := Int) r farI) (fun i _ => some (i, ())) (some (-1, ())) (fun n j => law185x161_0 (10 ^ 30) x (fun w => some (w, ())) (some (-1, ())) n j) hl (fun n j v hv => ?_) (fun n j hj => ?_) (10 ^ 30) 0 (Nat.zero_le _) (big30 _ (by omega))).trans ?_
  · conv => lhs; unfold law185x161_0
    simp only [idx0, idxB hv, Bool.and_self, cond_true, Int.toNat_natCast, hv, Option.bind_some]
    exact bindSome (ex161 v (hr v (List.mem_of_getElem? hv)))
  · conv => lhs; unfold law185x161_0
    simp only [hj, decide_false, cond_false]
  · unfold idxL; rw [List.drop_zero]
    cases scanL (fun r => List.any (α := Int) r farI) x.fst 0 with
    | none => rfl
    | some z => rfl
theorem ex164x161 (x : Sh.Ts [.rows (.int .i64)]) (hl : (x.fst.length : Int) < 2 ^ 62) (hr : ∀ r ∈ x.fst, (List.length (α := Int) r : Int) < 2 ^ 62) : fn164x161 x () = some (x.fst.any (fun r => List.any (α := Int) r farI), ()) := by
  unfold fn164x161 law164x161
  refine (bindSome (ex185x161 x  hl hr)).trans ?_
  show some (decide (0 ≤ idxL (fun r => List.any (α := Int) r farI) x.fst), ()) = _
  rw [idxL_nonneg]
theorem ex185x184 (x : Sh.Ts [.rows (.int .i64)]) (xs : Sh.Ts [PaneSh]) (hl : (x.fst.length : Int) < 2 ^ 62) : fn185x184 x xs = some (idxL (fun r => ((List.length r : Int) != (xs.fst.fst.length : Int))) x.fst, ()) := by
  unfold fn185x184 law185x184
  refine (scan_law x.fst (fun r => ((List.length r : Int) != (xs.fst.fst.length : Int))) (fun i _ => some (i, ())) (some (-1, ())) (fun n j => law185x184_0 (10 ^ 30) x xs (fun w => some (w, ())) (some (-1, ())) n j) hl (fun n j v hv => ?_) (fun n j hj => ?_) (10 ^ 30) 0 (Nat.zero_le _) (big30 _ (by omega))).trans ?_
  · conv => lhs; unfold law185x184_0
    simp only [idx0, idxB hv, Bool.and_self, cond_true, Int.toNat_natCast, hv, Option.bind_some]
  · conv => lhs; unfold law185x184_0
    simp only [hj, decide_false, cond_false]
  · unfold idxL; rw [List.drop_zero]
    cases scanL (fun r => ((List.length r : Int) != (xs.fst.fst.length : Int))) x.fst 0 with
    | none => rfl
    | some z => rfl
theorem ex164x184 (x : Sh.Ts [.rows (.int .i64)]) (xs : Sh.Ts [PaneSh]) (hl : (x.fst.length : Int) < 2 ^ 62) : fn164x184 x xs = some (x.fst.any (fun r => ((List.length r : Int) != (xs.fst.fst.length : Int))), ()) := by
  unfold fn164x184 law164x184
  refine (bindSome (ex185x184 x xs hl)).trans ?_
  show some (decide (0 ≤ idxL (fun r => ((List.length r : Int) != (xs.fst.fst.length : Int))) x.fst), ()) = _
  rw [idxL_nonneg]
theorem ex183 (n : Nat) : fn183 ((n : Int), ()) = some (mayN n, ()) := by
  unfold fn183 law183 mayN
  have h1 : decide ((2 : Int) ≤ (n : Int)) = decide (2 ≤ n) := by simp only [decide_eq_decide]; omega
  have h2 : decide ((n : Int) ≤ 32) = decide (n ≤ 32) := by simp only [decide_eq_decide]; omega
  show (bif decide ((2 : Int) ≤ (n : Int)) then some (decide ((n : Int) ≤ 32), ()) else some (false, ())) = _
  rw [h1, h2]; cases decide (2 ≤ n) <;> rfl
theorem any_ne {α : Type} (l : List (List α)) (n : Nat) : (!l.any fun r => ((r.length : Int) != (n : Int))) = l.all fun r => decide (r.length = n) := by
  rw [List.all_eq_not_any_not]
  congr 2; funext r
  by_cases h : r.length = n
  · simp [h]
  · have : ¬ (r.length : Int) = (n : Int) := by omega
    simp [h, this]
theorem ex163 (p : Pan) (hl : (p.2.2.1.length : Int) < 2 ^ 62) : fn163 (p, ()) = some (countedP p, ()) := by
  unfold fn163 law163 countedP
  refine (bindSome (ex183 p.1.length)).trans ?_
  show (bif mayN p.1.length then Option.bind (fn183 ((p.2.1.length : Int), ())) _ else _) = _
  rw [bindSome (ex183 p.2.1.length)]
  have h3 : ((p.2.2.1.length : Int) == (p.2.1.length : Int)) = decide (p.2.2.1.length = p.2.1.length) := by
    by_cases h : p.2.2.1.length = p.2.1.length
    · simp [h]
    · have : ¬ (p.2.2.1.length : Int) = (p.2.1.length : Int) := by omega
      simp [h, this]
  show (bif mayN p.1.length then (bif mayN p.2.1.length then (bif ((p.2.2.1.length : Int) == (p.2.1.length : Int)) then Option.bind (fn164x184 p.2.2 (p, ())) _ else _) else _) else _) = _
  rw [h3, bindSome (ex164x184 p.2.2 (p, ()) hl), ← any_ne]
  cases mayN p.1.length <;> cases mayN p.2.1.length <;> cases decide (p.2.2.1.length = p.2.1.length) <;> rfl
theorem ex186o0 (N0 : Nat) (l : List Int) (hl : (l.length : Int) < 2 ^ 62) : ∀ (j n : Nat), j < l.length → j < n → law186x187_0 N0 (l, ()) (some (false, ())) (some (true, ())) n (j : Int) = (some (risesL (l.take (j + 1)), ()) : Option (Sh.Ts [.bool]))
  | j, 0, _, h => by omega
  | 0, n + 1, hj, h => by
    unfold law186x187_0
    have : (l.take 1).length ≤ 1 := by simp; omega
    have hr : risesL (l.take (0 + 1)) = true := by
      cases l with
      | nil => simp at hj
      | cons a l => rfl
    rw [hr]; rfl
  | j + 1, n + 1, hj, h => by
    unfold law186x187_0
    have ih := ex186o0 N0 l hl j n (by omega) (by omega)
    have hv : l[j + 1]? = some l[j + 1] := List.getElem?_eq_getElem hj
    have hv' : l[j]? = some l[j] := List.getElem?_eq_getElem (by omega)
    have hw : IntKind.i64.wrap (((j + 1 : Nat) : Int) - 1) = (j : Int) := by rw [i64_in _ (by omega)]; omega
    have h0 : decide (((j + 1 : Nat) : Int) > 0) = true := by simp
    have hrr : risesL (l.take (j + 1 + 1)) = (decide (l[j] < l[j + 1]) && risesL (l.take (j + 1))) := by
      rw [Bool.eq_iff_iff, Bool.and_eq_true, decide_eq_true_eq]
      constructor
      · intro hk
        refine ⟨risesL_get hk j _ _ (by rw [List.getElem?_take_of_lt (by omega)]; exact hv') (by rw [List.getElem?_take_of_lt (by omega)]; exact hv), risesL_of fun k a b h1 h2 => ?_⟩
        obtain ⟨h3, _⟩ := List.getElem?_eq_some_iff.1 h2
        have h3 : k + 1 < j + 1 := by simp at h3; omega
        rw [List.getElem?_take_of_lt (by omega)] at h1 h2
        exact risesL_get hk k a b (by rw [List.getElem?_take_of_lt (by omega)]; exact h1) (by rw [List.getElem?_take_of_lt (by omega)]; exact h2)
      · rintro ⟨h1, h2⟩
        refine risesL_of fun k a b h3 h4 => ?_
        obtain ⟨h5, _⟩ := List.getElem?_eq_some_iff.1 h4
        have h5 : k + 1 < j + 2 := by simp at h5; omega
        rw [List.getElem?_take_of_lt (by omega)] at h3 h4
        by_cases hk : k = j
        · have e1 : l[j] = a := Option.some.inj (hv'.symm.trans (hk ▸ h3))
          have e2 : l[j + 1] = b := Option.some.inj (hv.symm.trans (hk ▸ h4))
          rw [← e1, ← e2]; exact h1
        · exact risesL_get h2 k a b (by rw [List.getElem?_take_of_lt (by omega)]; exact h3) (by rw [List.getElem?_take_of_lt (by omega)]; exact h4)
    simp only [idx0, idxB hv, hw, idxB hv', h0, Bool.and_self, cond_true, Int.toNat_natCast, hv, hv', Option.bind_some]
    rw [ih, hrr]
    show Option.bind (fn187 (l[j + 1], l[j], ())) _ = _
    unfold fn187 law187
    show Option.bind (bif decide (l[j + 1] > l[j]) then some (1, ()) else some (-1, ())) _ = _
    by_cases hc : l[j] < l[j + 1]
    · have hc' : l[j + 1] > l[j] := hc
      simp only [hc, hc', decide_true, cond_true, Bool.true_and]; rfl
    · have hc' : ¬ l[j + 1] > l[j] := hc
      simp only [hc, hc', decide_false, cond_false, Bool.false_and]; rfl
theorem ex186 (l : List Int) (hl : (l.length : Int) < 2 ^ 62) : fn186x187 (l, ()) () = some (risesL l, ()) := by
  unfold fn186x187 law186x187
  rcases Nat.eq_zero_or_pos l.length with hle | hle
  · have hn : l = [] := List.length_eq_zero_iff.1 hle
    subst hn
    rfl
  · have h0 := ex186o0 (10 ^ 30) l hl (l.length - 1) (10 ^ 30) (by omega) (big30 _ (by omega))
    have hw : IntKind.i64.wrap ((l.length : Int) - 1) = ((l.length - 1 : Nat) : Int) := by rw [i64_in _ (by omega)]; omega
    rw [show l.length - 1 + 1 = l.length by omega, List.take_length] at h0
    exact (congrArg (law186x187_0 (10 ^ 30) (l, ()) (some (false, ())) (some (true, ())) (10 ^ 30)) hw).trans h0
theorem ex165 (l : List Int) (hl : (l.length : Int) < 2 ^ 62) : fn165 (l, ()) = some (risesL l, ()) := by
  unfold fn165 law165
  exact (bindSome (ex186 l hl)).trans rfl
theorem ex138 (p : Pan) (hp : FewP p) : fn138 (p, ()) = some (paneR p, ()) := by
  obtain ⟨h1, h2, h3, h4⟩ := hp
  unfold fn138 law138 paneR
  refine (bindSome (ex163 p (by omega))).trans ?_
  show (bif !countedP p then some (42, ()) else Option.bind (fn161 (p.1, ())) _) = _
  rw [bindSome (ex161 p.1 (by omega))]
  show (bif !countedP p then some (42, ()) else (bif p.1.any farI then some (40, ()) else Option.bind (fn161 (p.2.1, ())) _)) = _
  rw [bindSome (ex161 p.2.1 (by omega))]
  show (bif !countedP p then some (42, ()) else (bif p.1.any farI then some (40, ()) else (bif p.2.1.any farI then some (40, ()) else Option.bind (fn164x161 (p.2.2.1, ()) ()) _))) = _
  rw [bindSome (ex164x161 (p.2.2.1, ()) (by show (p.2.2.1.length : Int) < _; omega) fun r hr => by have := h4 r hr; omega)]
  show (bif !countedP p then some (42, ()) else (bif p.1.any farI then some (40, ()) else (bif p.2.1.any farI then some (40, ()) else (bif p.2.2.1.any (fun r => r.any farI) then some (40, ()) else Option.bind (fn165 (p.1, ())) _)))) = _
  rw [bindSome (ex165 p.1 (by omega))]
  show (bif !countedP p then some (42, ()) else (bif p.1.any farI then some (40, ()) else (bif p.2.1.any farI then some (40, ()) else (bif p.2.2.1.any (fun r => r.any farI) then some (40, ()) else (bif !risesL p.1 then some (41, ()) else Option.bind (fn165 (p.2.1, ())) _))))) = _
  rw [bindSome (ex165 p.2.1 (by omega))]
  cases !countedP p <;> cases p.1.any farI <;> cases p.2.1.any farI <;> cases p.2.2.1.any (fun r => r.any farI) <;> cases !risesL p.1 <;> cases !risesL p.2.1 <;> rfl
end Go.Proofs.YtkobnmpilcpojaaGreat
