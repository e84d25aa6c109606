/- Plain Lean: what the laws of this program's functions come to, in numbers and lists; no program is run here. -/
import Derived.Test.YtkobnmpilcpojaaGreatPP7c
set_option linter.unusedVariables false
set_option linter.unusedSimpArgs false
set_option maxRecDepth 100000
namespace Go.Proofs.YtkobnmpilcpojaaGreat
open Go Go.Ab Go.Proofs Go.IntWalk
theorem lx181o0 (N : Nat) (l : List Dot) (x : Int) (hl : (l.length : Int) < 2 ^ 62) : ∀ (n i : Nat), i + 1 ≤ l.length → l.length - i < n → law181o0 N (l, x, ()) (fun w => some (w, ())) n ((lastLE l x (i - 1) : Nat) : Int) (i : Int) = (some ((lastLE l x (l.length - 2) : Int), ()) : Option (Int × Unit))
  | 0, i, _, h => by omega
  | n + 1, i, hi, h => by
    unfold law181o0
    rw [wrapNat i (by omega)]
    by_cases c : i + 1 < l.length
    · have hv := nth_get (l := l) (i := i) (by omega)
      have hc : decide (((i + 1 : Nat) : Int) < (l.length : Int)) = true := decide_eq_true (by omega)
      simp only [hc, idx0, idxB hv, Bool.and_self, cond_true, Int.toNat_natCast, hv, Option.bind_some]
      have ih := lx181o0 N l x hl n (i + 1) (by omega) (by omega)
      rw [show i + 1 - 1 = i by omega] at ih
      cases i with
      | zero =>
        have e : lastLE l x 0 = 0 := rfl
        rw [show 0 - 1 = 0 from rfl]
        rw [e] at ih ⊢
        cases decide ((nth l 0).1 ≤ x)
        · exact ih
        · exact ih
      | succ i =>
        rw [show i + 1 - 1 = i by omega]
        have hstep : lastLE l x (i + 1) = if tX l (i + 1) ≤ x then i + 1 else lastLE l x i := rfl
        by_cases g : tX l (i + 1) ≤ x
        · have g' : (nth l (i + 1)).1 ≤ x := g
          rw [decide_eq_true g']
          rw [hstep, if_pos g] at ih
          exact ih
        · have g' : ¬ (nth l (i + 1)).1 ≤ x := g
          rw [decide_eq_false g']
          rw [hstep, if_neg g] at ih
          exact ih
    · have hc : decide (((i + 1 : Nat) : Int) < (l.length : Int)) = false := decide_eq_false (by omega)
      rw [hc, show i - 1 = l.length - 2 by omega]; rfl
theorem ex181 (x : List Dot × Int × Unit) (hl : (x.1.length : Int) < 2 ^ 62) : fn181 x = some ((cellV x.1 x.2.1 : Int), ()) := by
  unfold fn181 law181 cellV
  by_cases h0 : x.1.length = 0
  · obtain ⟨N, hN⟩ : ∃ N, 10 ^ 30 = N + 1 := ⟨10 ^ 30 - 1, by decide⟩
    rw [hN]
    unfold law181o0
    have hc : decide (IntKind.i64.wrap (0 + 1) < (x.1.length : Int)) = false := decide_eq_false (by rw [h0]; decide)
    rw [hc, h0]; rfl
  · exact lx181o0 (10 ^ 30) x.1 x.2.1 hl (10 ^ 30) 0 (by omega) (big30 _ (by omega))
theorem mix26 (m : Mx1T) (x : Int × Int × Int × Unit) (h0 : I64 x.1) (h1 : I64 x.2.1) (h2 : I64 x.2.2.1) : fn182 m x = some (res (mixS m.1 x.1 x.2.1 x.2.2.1)) := by
  unfold fn182 law182
  simp only [sub22, mul23, add41, subS_r, mulS_r, h0, h1, h2, Option.bind_some, res_1, res_2]
  rfl
theorem eval11 (m : Mx1T) (x : List Dot × Int × Unit) (hl : (x.1.length : Int) < 2 ^ 61) (hd : ∀ d ∈ x.1, OkD d) (hx : I64 x.2.1) : fn157 m x = some (res (evalS m.1 x.1 x.2.1)) := by
  unfold fn157 law157 evalS
  by_cases h0 : x.1.length = 0
  · rw [if_pos h0, h0]; rfl
  rw [if_neg h0]
  have e0 : ((x.1.length : Int) == 0) = false := by rw [beq_eq_false_iff_ne]; omega
  have hv := nth_get (l := x.1) (i := 0) (by omega)
  have hz := nth_get (l := x.1) (i := x.1.length - 1) (by omega)
  have hw : IntKind.i64.wrap ((x.1.length : Int) - 1) = ((x.1.length - 1 : Nat) : Int) := by rw [i64_in _ (by omega)]; omega
  have d0 : decide (0 < (x.1.length : Int)) = true := decide_eq_true (by omega)
  have hv' : x.1[Int.toNat 0]? = some (nth x.1 0) := hv
  simp only [e0, d0, hw, cond_false, cond_true, Int.le_refl, decide_true, Bool.and_self, hv', idx0, idxB hz, Int.toNat_natCast, hz, Option.bind_some]
  by_cases c1 : x.2.1 ≤ tX x.1 0
  · have c1' : x.2.1 ≤ (nth x.1 0).1 := c1
    rw [if_pos c1, decide_eq_true c1']; rfl
  have c1' : ¬ x.2.1 ≤ (nth x.1 0).1 := c1
  rw [if_neg c1, decide_eq_false c1']
  by_cases c2 : x.2.1 ≥ tX x.1 (x.1.length - 1)
  · have c2' : x.2.1 ≥ (nth x.1 (x.1.length - 1)).1 := c2
    rw [if_pos c2, decide_eq_true c2']; rfl
  have c2' : ¬ x.2.1 ≥ (nth x.1 (x.1.length - 1)).1 := c2
  rw [if_neg c2, decide_eq_false c2']
  have h2 : 2 ≤ x.1.length := by
    rcases Nat.lt_or_ge x.1.length 2 with h | h
    · have e : x.1.length - 1 = 0 := by omega
      rw [e] at c2
      omega
    · exact h
  have hc := lastLE_le x.1 x.2.1 (x.1.length - 2)
  have hci : cellV x.1 x.2.1 ≤ x.1.length - 2 := hc
  have ha := nth_get (l := x.1) (i := cellV x.1 x.2.1) (by omega)
  have hb := nth_get (l := x.1) (i := cellV x.1 x.2.1 + 1) (by omega)
  have oa := hd _ (nth_mem (l := x.1) (i := cellV x.1 x.2.1) (by omega))
  have ob := hd _ (nth_mem (l := x.1) (i := cellV x.1 x.2.1 + 1) (by omega))
  simp only [cond_false, bindSome (ex181 x (by omega))]
  simp only [idx0, idxB ha, Bool.and_self, cond_true, Int.toNat_natCast, ha, Option.bind_some, wrapNat (cellV x.1 x.2.1) (by omega), idxB hb, hb]
  simp only [sub22, div42, mix26, subS_r, divS_r, oa.1, oa.2, ob.1, ob.2, hx, Option.bind_some, res_1, res_2]
  rfl
end Go.Proofs.YtkobnmpilcpojaaGreat
