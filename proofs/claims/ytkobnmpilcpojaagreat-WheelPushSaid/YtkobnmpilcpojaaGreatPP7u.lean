/- Plain Lean: what the laws of this program's functions come to, in numbers and lists; no program is run here. -/
import Derived.Test.YtkobnmpilcpojaaGreatPP7b
set_option linter.unusedVariables false
set_option linter.unusedSimpArgs false
set_option maxRecDepth 100000
namespace Go.Proofs.YtkobnmpilcpojaaGreat
open Go Go.Ab Go.Proofs Go.IntWalk
theorem lx193o0 (N : Nat) (l : List Dot) (x : Int) (hl : (l.length : Int) < 2 ^ 62) : ∀ (n m : Nat), m + 2 ≤ l.length → m < n → law193o0 N (l, x, ()) (fun w => some (w, ())) (some (0, ())) n (m : Int) = (some ((lastLE l x m : Int), ()) : Option (Int × Unit))
  | 0, m, _, h => by omega
  | n + 1, 0, _, _ => by
    unfold law193o0; rfl
  | n + 1, m + 1, hm, h => by
    unfold law193o0
    have hv := nth_get (l := l) (i := m + 1) (by omega)
    have hp : decide (((m + 1 : Nat) : Int) > 0) = true := by simp
    have hw : IntKind.i64.wrap (((m + 1 : Nat) : Int) - 1) = (m : Int) := by rw [i64_in _ (by omega)]; omega
    have ih := lx193o0 N l x hl n m (by omega) (by omega)
    simp only [hp, idx0, idxB hv, Bool.and_self, cond_true, Int.toNat_natCast, hv, Option.bind_some, hw, ih]
    have hstep : lastLE l x (m + 1) = if tX l (m + 1) ≤ x then m + 1 else lastLE l x m := rfl
    rw [hstep]
    by_cases c : tX l (m + 1) ≤ x
    · have c' : (nth l (m + 1)).1 ≤ x := c
      rw [if_pos c, decide_eq_true c']; rfl
    · have c' : ¬ (nth l (m + 1)).1 ≤ x := c
      rw [if_neg c, decide_eq_false c']; rfl
theorem ex193 (x : List Dot × Int × Unit) (hl : (x.1.length : Int) < 2 ^ 62) (h2 : 2 ≤ x.1.length) : fn193 x = some ((cellV x.1 x.2.1 : Int), ()) := by
  unfold fn193 law193 cellV
  have hw : IntKind.i64.wrap ((x.1.length : Int) - 2) = ((x.1.length - 2 : Nat) : Int) := by rw [i64_in _ (by omega)]; omega
  rw [hw]
  exact lx193o0 _ x.1 x.2.1 hl (10 ^ 30) (x.1.length - 2) (by omega) (big30 _ (by omega))
theorem sorted_law (N : Nat) (l : List Dot) (hl : (l.length : Int) < 2 ^ 62) : ∀ (n m : Nat), m < l.length → m < n → ∃ b : Bool, law191x192_0 N (l, ()) (l, ()) (some (false, ())) (some (true, ())) n (m : Int) = (some (b, ()) : Option (Bool × Unit)) ∧ (b = true → ∀ i, i + 1 ≤ m → tX l i ≤ tX l (i + 1))
  | 0, m, _, h => by omega
  | n + 1, 0, _, _ => by
    unfold law191x192_0
    exact ⟨true, rfl, fun _ i hi => by omega⟩
  | n + 1, m + 1, hm, h => by
    unfold law191x192_0
    have hv := nth_get (l := l) (i := m + 1) (by omega)
    have hv' := nth_get (l := l) (i := m) (by omega)
    have hp : decide (((m + 1 : Nat) : Int) > 0) = true := by simp
    have hw : IntKind.i64.wrap (((m + 1 : Nat) : Int) - 1) = (m : Int) := by rw [i64_in _ (by omega)]; omega
    obtain ⟨b, e, hb⟩ := sorted_law N l hl n m (by omega) (by omega)
    simp only [hp, hw, idx0, idxB hv, idxB hv', Bool.and_self, cond_true, Int.toNat_natCast, hv, hv', Option.bind_some, e]
    by_cases c : (nth l (m + 1)).1 < (nth l m).1
    · rw [decide_eq_true c]; exact ⟨false, rfl, fun h => by cases h⟩
    · rw [decide_eq_false c]
      refine ⟨b, rfl, fun hbt i hi => ?_⟩
      by_cases g : i = m
      · subst g; show (nth l i).1 ≤ (nth l (i + 1)).1; omega
      · exact hb hbt i (by omega)
theorem ex191 (l : List Dot) (hl : (l.length : Int) < 2 ^ 62) (h2 : 2 ≤ l.length) : ∃ b : Bool, fn191x192 (l, ()) (l, ()) = some (b, ()) ∧ (b = true → ∀ i, i + 1 < l.length → tX l i ≤ tX l (i + 1)) := by
  unfold fn191x192 law191x192
  have hw : IntKind.i64.wrap ((l.length : Int) - 1) = ((l.length - 1 : Nat) : Int) := by rw [i64_in _ (by omega)]; omega
  obtain ⟨b, e, hb⟩ := sorted_law (10 ^ 30) l hl (10 ^ 30) (l.length - 1) (by omega) (big30 _ (by omega))
  refine ⟨b, ?_, fun h i hi => hb h i (by omega)⟩
  rw [← hw] at e
  exact e
theorem search_law (N : Nat) (l : List Dot) (x : Int) (hl : (l.length : Int) < 2 ^ 61) (hs : ∀ i, i + 1 < l.length → tX l i ≤ tX l (i + 1)) : ∀ (n i j : Nat), i ≤ j → j + 1 ≤ l.length → j - i < n → (∀ k, k < i → tX l k ≤ x) → (∀ k, j ≤ k → k + 1 < l.length → x < tX l k) → ∃ q : Nat, law194x195_0 N (l, x, ()) (fun w => some (w, ())) n (i : Int) (j : Int) = (some ((q : Int), ()) : Option (Int × Unit)) ∧ q + 1 ≤ l.length ∧ (∀ k, k < q → tX l k ≤ x) ∧ (∀ k, q ≤ k → k + 1 < l.length → x < tX l k)
  | 0, i, j, _, _, h, _, _ => by omega
  | n + 1, i, j, hij, hj, h, h1, h2 => by
    have hle : ∀ a b : Nat, a ≤ b → b < l.length → tX l a ≤ tX l b := by
      intro a b
      induction b with
      | zero => intro q1 q2; rw [show a = 0 by omega]; omega
      | succ b ih =>
        intro q1 q2
        have := hs b q2
        by_cases g : a = b + 1
        · subst g; omega
        · have := ih (by omega) (by omega); omega
    unfold law194x195_0
    by_cases c : i < j
    · have hc : decide ((i : Int) < (j : Int)) = true := decide_eq_true (by omega)
      have hw : IntKind.i64.wrap ((IntKind.u64.wrap (IntKind.i64.wrap ((i : Int) + (j : Int)))).fdiv (2 ^ min (Int.toNat 1) 64)) = (((i + j) / 2 : Nat) : Int) := by
        rw [i64_in ((i : Int) + (j : Int)) (by omega), u64in _ (by omega)]
        have e2 : (2 : Int) ^ min (Int.toNat 1) 64 = 2 := by decide
        rw [e2, Int.fdiv_eq_ediv_of_nonneg _ (by omega), i64_in _ (by omega)]
        omega
      have hw' : IntKind.i64.wrap ((IntKind.u64.wrap (IntKind.i64.wrap ((i : Int) + (j : Int)))).fdiv (2 ^ min (Int.toNat 1) IntKind.u64.bits)) = (((i + j) / 2 : Nat) : Int) := hw
      have hv := nth_get (l := l) (i := (i + j) / 2) (by omega)
      simp only [hc, hw, hw', idx0, idxB hv, Bool.and_self, cond_true, Int.toNat_natCast, hv, Option.bind_some]
      by_cases g : (nth l ((i + j) / 2)).1 > x
      · rw [decide_eq_true g]
        exact search_law N l x hl hs n i ((i + j) / 2) (by omega) (by omega) (by omega) h1 fun k hk hk2 => by
          have := hle ((i + j) / 2) k hk (by omega)
          have g : tX l ((i + j) / 2) > x := g
          omega
      · rw [decide_eq_false g, wrapNat ((i + j) / 2) (by omega)]
        exact search_law N l x hl hs n ((i + j) / 2 + 1) j (by omega) hj (by omega) (fun k hk => by
          have := hle k ((i + j) / 2) (by omega) (by omega)
          have g : ¬ tX l ((i + j) / 2) > x := g
          omega) h2
    · have hc : decide ((i : Int) < (j : Int)) = false := decide_eq_false (by omega)
      rw [hc]
      have : i = j := by omega
      subst this
      exact ⟨i, rfl, hj, h1, h2⟩
theorem ex173 (x : List Dot × Int × Unit) (hl : (x.1.length : Int) < 2 ^ 61) : fn173 x = some ((cellV x.1 x.2.1 : Int), ()) := by
  unfold fn173 law173
  by_cases h2 : (x.1.length : Int) < 2
  · rw [decide_eq_true h2]
    have : cellV x.1 x.2.1 = 0 := by unfold cellV; rw [show x.1.length - 2 = 0 by omega]; rfl
    rw [this]; rfl
  rw [decide_eq_false h2]
  obtain ⟨b, e, hb⟩ := ex191 x.1 (by omega) (by omega)
  refine (bindSome e).trans ?_
  cases b
  · exact (bindSome (ex193 x (by omega) (by omega))).trans rfl
  · have hw : IntKind.i64.wrap ((x.1.length : Int) - 1) = ((x.1.length - 1 : Nat) : Int) := by rw [i64_in _ (by omega)]; omega
    obtain ⟨q, e2, q1, q2, q3⟩ := search_law (10 ^ 30) x.1 x.2.1 hl (hb rfl) (10 ^ 30) 0 (x.1.length - 1) (by omega) (by omega) (big30 _ (by omega)) (fun k hk => by omega) (fun k hk hk2 => by omega)
    have e3 : fn194x195 (IntKind.i64.wrap ((x.1.length : Int) - 1), ()) x = some ((q : Int), ()) := by
      rw [hw]; exact e2
    refine (bindSome e3).trans ?_
    have hcell : cellV x.1 x.2.1 = q - 1 := lastLE_eq x.1 x.2.1 q (x.1.length - 2) (by omega) q2 (fun k hk hk2 => q3 k hk (by omega))
    rw [hcell]
    have hw2 : IntKind.i64.wrap ((q : Int) - 1) = (q : Int) - 1 := i64_in _ (by omega)
    show some ((if 0 > IntKind.i64.wrap ((q : Int) - 1) then 0 else IntKind.i64.wrap ((q : Int) - 1)), ()) = some (((q - 1 : Nat) : Int), ())
    rw [hw2]
    by_cases hq : q = 0
    · subst hq; rfl
    · rw [if_neg (by omega)]; congr 2; omega
theorem mix23 (m : MT) (x : Int × Int × Int × Unit) (h0 : I64 x.1) (h1 : I64 x.2.1) (h2 : I64 x.2.2.1) : fn175 m x = some (res (mixS m.1 x.1 x.2.1 x.2.2.1)) := by
  unfold fn175 law175
  simp only [sub16, mul20, add38, subS_r, mulS_r, h0, h1, h2, Option.bind_some, res_1, res_2]
  rfl
theorem eval10 (m : MT) (x : List Dot × Int × Unit) (hl : (x.1.length : Int) < 2 ^ 61) (hd : ∀ d ∈ x.1, OkD d) (hx : I64 x.2.1) : fn153 m x = some (res (evalS m.1 x.1 x.2.1)) := by
  unfold fn153 law153 evalS
  by_cases h0 : x.1.length = 0
  · rw [if_pos h0, h0]; rfl
  rw [if_neg h0]
  have e0 : ((x.1.length : Int) == 0) = false := by rw [beq_eq_false_iff_ne]; omega
  have hv := nth_get (l := x.1) (i := 0) (by omega)
  have hz := nth_get (l := x.1) (i := x.1.length - 1) (by omega)
  have hw : IntKind.i64.wrap ((x.1.length : Int) - 1) = ((x.1.length - 1 : Nat) : Int) := by rw [i64_in _ (by omega)]; omega
  have d0 : decide (0 < (x.1.length : Int)) = true := decide_eq_true (by omega)
  have hv' : x.1[Int.toNat 0]? = some (nth x.1 0) := hv
  simp only [e0, d0, hw, cond_false, cond_true, Int.le_refl, decide_true, Bool.and_self, hv', idx0, idxB hz, Int.toNat_natCast, hz, Option.bind_some]
  by_cases c1 : x.2.1 ≤ tX x.1 0
  · have c1' : x.2.1 ≤ (nth x.1 0).1 := c1
    rw [if_pos c1, decide_eq_true c1']; rfl
  have c1' : ¬ x.2.1 ≤ (nth x.1 0).1 := c1
  rw [if_neg c1, decide_eq_false c1']
  by_cases c2 : x.2.1 ≥ tX x.1 (x.1.length - 1)
  · have c2' : x.2.1 ≥ (nth x.1 (x.1.length - 1)).1 := c2
    rw [if_pos c2, decide_eq_true c2']; rfl
  have c2' : ¬ x.2.1 ≥ (nth x.1 (x.1.length - 1)).1 := c2
  rw [if_neg c2, decide_eq_false c2']
  have h2 : 2 ≤ x.1.length := by
    rcases Nat.lt_or_ge x.1.length 2 with h | h
    · have e : x.1.length - 1 = 0 := by omega
      rw [e] at c2
      omega
    · exact h
  have hc := lastLE_le x.1 x.2.1 (x.1.length - 2)
  have hci : cellV x.1 x.2.1 ≤ x.1.length - 2 := hc
  have ha := nth_get (l := x.1) (i := cellV x.1 x.2.1) (by omega)
  have hb := nth_get (l := x.1) (i := cellV x.1 x.2.1 + 1) (by omega)
  have oa := hd _ (nth_mem (l := x.1) (i := cellV x.1 x.2.1) (by omega))
  have ob := hd _ (nth_mem (l := x.1) (i := cellV x.1 x.2.1 + 1) (by omega))
  simp only [cond_false, bindSome (ex173 x hl)]
  simp only [idx0, idxB ha, Bool.and_self, cond_true, Int.toNat_natCast, ha, Option.bind_some, wrapNat (cellV x.1 x.2.1) (by omega), idxB hb, hb]
  simp only [sub16, div30, mix23, subS_r, divS_r, oa.1, oa.2, ob.1, ob.2, hx, Option.bind_some, res_1, res_2]
  rfl
end Go.Proofs.YtkobnmpilcpojaaGreat
