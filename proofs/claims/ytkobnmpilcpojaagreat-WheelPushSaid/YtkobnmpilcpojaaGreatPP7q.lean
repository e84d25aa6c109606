/- Plain Lean: what the laws of this program's functions come to, in numbers and lists; no program is run here. -/
import Derived.Test.YtkobnmpilcpojaaGreatPPPan
set_option linter.unusedVariables false
set_option linter.unusedSimpArgs false
set_option maxRecDepth 100000
namespace Go.Proofs.YtkobnmpilcpojaaGreat
open Go Go.Ab Go.Proofs Go.IntWalk
theorem bytes52 : Tryz.prog.types[159].bytes = 16 := by kernel_rfl
theorem idxN {j n : Nat} (h : j < n) : decide ((j : Int) < (n : Int)) = true := decide_eq_true (by omega)
theorem idxN' {j n : Nat} (h : ¬ j < n) : decide ((j : Int) < (n : Int)) = false := decide_eq_false (by omega)
theorem minI (a b : Nat) : Int.toNat (if (a : Int) < (b : Int) then (a : Int) else (b : Int)) = min a b := by
  split <;> omega
theorem push_law {γ β : Type} (L B : Nat) (e : Nat → γ) (k : Nat → List γ → Option β) (F : Nat → Nat → Int → List γ → Option β) (hL : L ≤ 1000) (hB : B ≤ 1000)
    (h0 : ∀ n m (j : Nat) a, j < L → F (n + 1) m j a = bif decide (m = a.length) && (decide ((m + 1) * B ≤ 140737488355328) && decide (m + 1 ≤ 9223372036854775807)) then F n (m + 1) (IntKind.i64.wrap ((j : Int) + 1)) (a.append [e j]) else none)
    (h1 : ∀ n m (j : Nat) a, j = L → F (n + 1) m j a = k m a) : ∀ (n j : Nat), j ≤ L → L - j < n → F n j (j : Int) ((List.range j).map e) = k L ((List.range L).map e)
  | 0, j, _, h => by omega
  | n + 1, j, hj, h => by
    by_cases hc : j < L
    · have hb : (j + 1) * B ≤ 140737488355328 := Nat.le_trans (Nat.mul_le_mul (show j + 1 ≤ 1000 by omega) hB) (by decide)
      rw [h0 n j j _ hc, decide_eq_true (show j = ((List.range j).map e).length by simp), decide_eq_true hb, decide_eq_true (show j + 1 ≤ 9223372036854775807 by omega), wrapNat j (by omega)]
      have e1 : ((List.range j).map e).append [e j] = (List.range (j + 1)).map e := by rw [List.range_succ, List.map_append]; rfl
      rw [e1]
      exact push_law L B e k F hL hB h0 h1 n (j + 1) hc (by omega)
    · have : j = L := by omega
      subst this
      exact h1 n _ _ _ rfl
theorem rowD_range (xs ys : List Int) : rowD xs ys = (List.range (min ys.length xs.length)).map fun k => (gI xs k, gI ys k, ()) := by
  apply List.ext_getElem?
  intro i
  rw [List.getElem?_map]
  by_cases h : i < min ys.length xs.length
  · rw [List.getElem?_range h, nth_get (by rw [rowD_length]; omega), rowD_nth (by omega) (by omega)]; rfl
  · rw [List.getElem?_eq_none (by rw [rowD_length]; omega), List.getElem?_eq_none (by simp; omega)]; rfl
theorem lx154 (N : Nat) (hN : 100 ≤ N) (p : Pan) (hp : FewP p) (i : Nat) (hi : i < p.2.2.1.length) : law154 N (p, (i : Int), ()) = some (rowD p.1 (gR p.2.2.1 i)) := by
  have hr := hp.row _ (gR_mem hi)
  have hx := hp.xs
  unfold law154
  simp only [decide_eq_false (show ¬ ((i : Int) < 0) by omega), decide_eq_false (show ¬ ((i : Int) ≥ (p.2.2.1.length : Int)) by omega), cond_false, idx0, idxN hi, Bool.and_self, cond_true, Int.toNat_natCast, gR_get hi, Option.bind_some, minI]
  have c1 : decide (0 ≤ if ((gR p.2.2.1 i).length : Int) < (p.1.length : Int) then ((gR p.2.2.1 i).length : Int) else (p.1.length : Int)) = true := decide_eq_true (by split <;> omega)
  have c2 : decide ((if ((gR p.2.2.1 i).length : Int) < (p.1.length : Int) then ((gR p.2.2.1 i).length : Int) else (p.1.length : Int)) ≤ (p.1.length : Int)) = true := decide_eq_true (by split <;> omega)
  rw [c1, c2]
  simp only [decide_eq_true (show (0 : Int) ≤ 0 by omega), Bool.and_self, cond_true]
  rw [rowD_range]
  generalize hL : min (gR p.2.2.1 i).length p.1.length = L
  by_cases h0 : 0 < L
  · have z0 : Int.toNat 0 = 0 := rfl
    rw [decide_eq_true (show (0 : Int) < (L : Int) by omega)]
    simp only [cond_true, z0, gI_get (show 0 < p.1.length by omega), Option.bind_some, decide_eq_true (show (0 : Int) < ((gR p.2.2.1 i).length : Int) by omega), gI_get (show 0 < (gR p.2.2.1 i).length by omega)]
    have := push_law L 16 (fun k => (gI p.1 k, gI (gR p.2.2.1 i) k, ())) (fun w27 w28 => (bif decide (w27 = w28.length) then some w28 else none)) (fun n m j a => law154o0 N (p, (i : Int), ()) (gR p.2.2.1 i) (fun w27 w28 => (bif decide (w27 = w28.length) then some w28 else none)) n m j a) (by omega) (by omega) (fun n m j a hj => ?_) (fun n m j a hj => ?_) N 1 h0 (by omega)
    · refine this.trans ?_
      simp
    · conv => lhs; unfold law154o0
      simp only [minI, hL, idx0, idxN hj, idxN hi, Bool.and_self, cond_true, Int.toNat_natCast, gI_get (show j < p.1.length by omega), gR_get hi, Option.bind_some, idxN (show j < (gR p.2.2.1 i).length by omega), gI_get (show j < (gR p.2.2.1 i).length by omega), bytes52]
    · subst hj
      conv => lhs; unfold law154o0
      simp only [minI, hL, idxN' (Nat.lt_irrefl j), cond_false]
  · rw [decide_eq_false (show ¬ (0 : Int) < (L : Int) by omega), show L = 0 by omega]; rfl
theorem lx158 (N : Nat) (hN : 100 ≤ N) (p : Pan) (hp : FewP p) (i : Nat) (hi : i < p.2.2.1.length) : law158 N (p, (i : Int), ()) = some (rowD p.1 (gR p.2.2.1 i)) := by
  have hr := hp.row _ (gR_mem hi)
  have hx := hp.xs
  unfold law158
  simp only [decide_eq_false (show ¬ ((i : Int) < 0) by omega), decide_eq_false (show ¬ ((i : Int) ≥ (p.2.2.1.length : Int)) by omega), cond_false, idx0, idxN hi, Bool.and_self, Int.toNat_natCast, gR_get hi, Option.bind_some]
  rw [rowD_range]
  generalize hL : min (gR p.2.2.1 i).length p.1.length = L
  have z0 : Int.toNat 0 = 0 := rfl
  by_cases h0 : 0 < L
  · simp only [decide_eq_true (show (0 : Int) < (p.1.length : Int) by omega), decide_eq_true (show (0 : Int) ≤ 0 by omega), Bool.and_self, cond_true, z0, gI_get (show 0 < p.1.length by omega), Option.bind_some, decide_eq_true (show (0 : Int) < ((gR p.2.2.1 i).length : Int) by omega), gI_get (show 0 < (gR p.2.2.1 i).length by omega)]
    have := push_law L 16 (fun k => (gI p.1 k, gI (gR p.2.2.1 i) k, ())) (fun w27 w28 => (bif decide (w27 = w28.length) then some w28 else none)) (fun n m j a => law158o0 N (p, (i : Int), ()) (fun w27 w28 => (bif decide (w27 = w28.length) then some w28 else none)) n m j a) (by omega) (by omega) (fun n m j a hj => ?_) (fun n m j a hj => ?_) N 1 h0 (by omega)
    · refine this.trans ?_
      simp
    · conv => lhs; unfold law158o0
      simp only [idx0, idxN hi, Bool.and_self, cond_true, Int.toNat_natCast, idxN (show j < p.1.length by omega), gI_get (show j < p.1.length by omega), gR_get hi, Option.bind_some, idxN (show j < (gR p.2.2.1 i).length by omega), gI_get (show j < (gR p.2.2.1 i).length by omega), bytes52]
    · subst hj
      conv => lhs; unfold law158o0
      by_cases hj : j < p.1.length
      · simp only [idxN hj, idx0, idxN hi, Bool.and_self, cond_true, Int.toNat_natCast, gR_get hi, Option.bind_some, idxN' (show ¬ j < (gR p.2.2.1 i).length by omega), cond_false]
      · simp only [idxN' hj, cond_false]
  · rw [show L = 0 by omega]
    by_cases hj : 0 < p.1.length
    · simp only [decide_eq_true (show (0 : Int) < (p.1.length : Int) by omega), cond_true, decide_eq_false (show ¬ (0 : Int) < ((gR p.2.2.1 i).length : Int) by omega), cond_false]; rfl
    · simp only [decide_eq_false (show ¬ (0 : Int) < (p.1.length : Int) by omega), cond_false]; rfl
theorem row13 (p : Pan) (hp : FewP p) (i : Nat) (hi : i < p.2.2.1.length) : fn154 (p, (i : Int), ()) = some (rowD p.1 (gR p.2.2.1 i)) := lx154 _ (by decide) p hp i hi
theorem row14 (p : Pan) (hp : FewP p) (i : Nat) (hi : i < p.2.2.1.length) : fn158 (p, (i : Int), ()) = some (rowD p.1 (gR p.2.2.1 i)) := lx158 _ (by decide) p hp i hi
end Go.Proofs.YtkobnmpilcpojaaGreat
