/- Plain Lean: what the laws of this program's functions come to, in numbers and lists; no program is run here. -/
import Derived.Test.YtkamnpkcjokncaaPP09d
set_option linter.unusedVariables false
set_option linter.unusedSimpArgs false
set_option maxRecDepth 100000
namespace Go.Proofs.Ytkamnpkcjokncaa
open Go Go.Ab Go.Proofs Go.IntWalk
/- car.Right in plain Lean (r17), second half. -/
theorem u32_i64 (a : Int) (h : 0 ≤ a ∧ a < 4294967296) : IntKind.i64.wrap a = a := i64_in _ (by omega)
theorem bytes8 : Try.prog.types[27].bytes = 8 := by kernel_rfl
theorem lx18 (M0 M1 : Nat) (hM0 : 100 ≤ M0) (hM1 : 100 ≤ M1) (l : List (List Int)) (hl : l.length ≤ 40) (hr : ∀ r ∈ l, r.length ≤ 40) (h0 : 0 < l.flatten.length) : law18 M0 M1 (l, ()) = some l.flatten := by
  cases l with
  | nil => simp at h0
  | cons r l =>
  have hs := FewP.sum hr
  have hlen : (r :: l).length = l.length + 1 := rfl
  have hfl : (r :: l).flatten.length = r.length + l.flatten.length := by simp
  have hr0 := hr r (by simp)
  have hs1 : ∀ j, j ≤ l.length → (l.drop j).flatten.length + (l.take j).flatten.length = l.flatten.length := fun j _ => by
    conv => rhs; rw [← List.take_append_drop j l]
    rw [List.flatten_append, List.length_append]; omega
  have hs2 : (r :: l).flatten.length ≤ 1600 := by
    have : (r :: l).length * 40 ≤ 40 * 40 := Nat.mul_le_mul_right 40 hl
    omega
  unfold law18
  have d0 : decide (0 < ((List.length (r :: l) : Nat) : Int)) = true := decide_eq_true (by omega)
  show (bif decide (0 < ((List.length (r :: l) : Nat) : Int)) then (bif decide ((0 : Int) ≤ 0) && decide (0 < ((List.length (r :: l) : Nat) : Int)) then _ else _) else _) = _
  rw [d0]
  show (bif decide (IntKind.i64.wrap (0 + (r.length : Int)) < 0) then none else _) = _
  have w0 : IntKind.i64.wrap (0 + (r.length : Int)) = (r.length : Int) := by rw [i64_in _ (by omega)]; omega
  rw [w0, show decide ((r.length : Int) < 0) = false by simp]
  have w1 : IntKind.i64.wrap (0 + 1) = ((1 : Nat) : Int) := by decide
  rw [w1]
  -- the sizes are added
  have hsum : ∀ (K : Int → Option (List Int)) (N0 N1 n j s : Nat), j ≤ (r :: l).length → (r :: l).length - j < n → s + ((r :: l).drop j).flatten.length ≤ 1600 → law18o0 N0 N1 (r :: l, ()) K n (s : Int) (j : Int) = K ((s + ((r :: l).drop j).flatten.length : Nat) : Int) := by
    intro K N0 N1 n
    induction n with
    | zero => intro j s h1 h2 _; omega
    | succ n ih =>
      intro j s h1 h2 h3
      unfold law18o0
      by_cases hc : j < (r :: l).length
      · have hv : (r :: l)[j]? = some (r :: l)[j] := List.getElem?_eq_getElem hc
        rw [List.drop_eq_getElem_cons hc, List.flatten_cons, List.length_append] at h3 ⊢
        have hw : IntKind.i64.wrap ((s : Int) + ((r :: l)[j].length : Int)) = ((s + (r :: l)[j].length : Nat) : Int) := by rw [i64_in _ (by omega)]; omega
        have hd : decide (((s + (r :: l)[j].length : Nat) : Int) < 0) = false := by simp; omega
        simp only [idx0, idxB hv, Bool.and_self, cond_true, Int.toNat_natCast, hv, Option.bind_some]
        rw [hw, hd, wrapNat j (by omega)]
        simp only [cond_false]
        rw [ih (j + 1) _ (by omega) (by omega) (by omega), Nat.add_assoc]
      · have : decide ((j : Int) < ((r :: l).length : Int)) = false := by simp at hc ⊢; omega
        simp only [this, cond_false]
        rw [show j = (r :: l).length by omega, List.drop_length]; rfl
  rw [cond_false]
  have e1 : r.length + ((r :: l).drop 1).flatten.length = (r :: l).flatten.length := by simp
  refine (hsum _ _ _ M0 1 r.length (by omega) (by omega) (by rw [e1]; omega)).trans ?_
  rw [e1]
  have w2 : IntKind.i64.wrap (((r :: l).flatten.length : Int) - IntKind.i64.wrap (0 - 0)) = ((r :: l).flatten.length : Int) := by
    rw [show IntKind.i64.wrap (0 - 0) = 0 by decide, i64_in _ (by omega)]; omega
  rw [w2, bytes8]
  have d1 : decide (((r :: l).flatten.length : Int) < 0) = false := by simp; omega
  have d2 : decide (((r :: l).flatten.length : Int) > 0) = true := by simp at h0 ⊢; omega
  have d3 : decide (0 < ((r :: l).flatten.length : Int)) = true := d2
  have d4 : decide (((r :: l).flatten.length : Int).toNat * 8 ≤ 140737488355328) = true := by simp only [Int.toNat_natCast]; exact decide_eq_true (by omega)
  have d5 : decide (((r :: l).flatten.length : Int).toNat ≤ 9223372036854775807) = true := by simp only [Int.toNat_natCast]; exact decide_eq_true (by omega)
  rw [d1, d2, d4, d5]
  show (bif decide ((0 + r.length) * 8 ≤ 140737488355328) && decide (0 + r.length ≤ 9223372036854775807) then _ else _) = _
  rw [decide_eq_true (show (0 + r.length) * 8 ≤ 140737488355328 by omega), decide_eq_true (show 0 + r.length ≤ 9223372036854775807 by omega)]
  show law18o1o1 _ _ _ _ _ (0 + r.length) _ ([].append r) = _
  have em : (((r :: l).drop 1).map (fun v => v)).flatten.length = l.flatten.length := by simp
  have := app_law (r :: l) (fun v => v) 8 (fun w27 (w28 : List Int) => (bif decide (w27 = w28.length) then some w28 else none)) (fun n m j a => law18o1o1 M0 M1 (r :: l, ()) (fun w27 w28 => (bif decide (w27 = w28.length) then some w28 else none)) n m j a) (by omega) (fun n m j a v hv => ?_) (fun n m j a hj => ?_) M1 1 r (by omega) (by omega) (by rw [em]; omega) (by rw [em]; omega)
  · rw [show (0 + r.length) = r.length by omega]
    refine this.trans ?_
    simp only [decide_true, cond_true]
    simp
  · conv => lhs; unfold law18o1o1
    simp only [idx0, idxB hv, Bool.and_self, cond_true, Int.toNat_natCast, hv, Option.bind_some]
    rw [bytes8]
  · conv => lhs; unfold law18o1o1
    simp only [hj, decide_false, cond_false]
theorem ex18 (l : List (List Int)) (hl : l.length ≤ 40) (hr : ∀ r ∈ l, r.length ≤ 40) (h0 : 0 < l.flatten.length) : fn18 (l, ()) = some l.flatten := lx18 _ _ (by decide) (by decide) l hl hr h0
theorem lx19 (M0 : Nat) (a : Int) (l : List Int) (hl : ((a :: l).length : Int) < 2 ^ 62) (hM : (a :: l).length < M0) : law19 M0 (a :: l, ()) = some (minL (a :: l), ()) := by
  unfold law19
  have d1 : decide ((((a :: l).length : Nat) : Int) < 1) = false := decide_eq_false (by rw [List.length_cons]; omega)
  have d0 : decide (0 < (((a :: l).length : Nat) : Int)) = true := decide_eq_true (by rw [List.length_cons]; omega)
  show (bif decide ((((a :: l).length : Nat) : Int) < 1) then none else (bif decide ((0 : Int) ≤ 0) && decide (0 < (((a :: l).length : Nat) : Int)) then _ else _)) = _
  rw [d1, d0]
  show law19o0 _ _ _ _ a ((1 : Nat) : Int) = _
  refine (fold_law (a :: l) (fun a b => if b < a then b else a) (fun w => some (w, ())) (fun n s j => law19o0 M0 (a :: l, ()) (fun w => some (w, ())) n s j) hl (fun n j s v hv => ?_) (fun n j s hj => ?_) M0 1 a (by simp) (by omega)).trans rfl
  · conv => lhs; unfold law19o0
    simp only [idx0, idxB hv, Bool.and_self, cond_true, Int.toNat_natCast, hv, Option.bind_some]
  · conv => lhs; unfold law19o0
    simp only [hj, decide_false, cond_false]
theorem ex19 (l : List Int) (hl : (l.length : Int) < 2 ^ 62) (h0 : 0 < l.length) : fn19 (l, ()) = some (minL l, ()) := by
  cases l with
  | nil => simp at h0
  | cons a l => exact lx19 _ a l hl (big30 _ hl)
theorem lx20 (M0 : Nat) (a : Int) (l : List Int) (hl : ((a :: l).length : Int) < 2 ^ 62) (hM : (a :: l).length < M0) : law20 M0 (a :: l, ()) = some (maxL (a :: l), ()) := by
  unfold law20
  have d1 : decide ((((a :: l).length : Nat) : Int) < 1) = false := decide_eq_false (by rw [List.length_cons]; omega)
  have d0 : decide (0 < (((a :: l).length : Nat) : Int)) = true := decide_eq_true (by rw [List.length_cons]; omega)
  show (bif decide ((((a :: l).length : Nat) : Int) < 1) then none else (bif decide ((0 : Int) ≤ 0) && decide (0 < (((a :: l).length : Nat) : Int)) then _ else _)) = _
  rw [d1, d0]
  show law20o0 _ _ _ _ a ((1 : Nat) : Int) = _
  refine (fold_law (a :: l) (fun a b => if b > a then b else a) (fun w => some (w, ())) (fun n s j => law20o0 M0 (a :: l, ()) (fun w => some (w, ())) n s j) hl (fun n j s v hv => ?_) (fun n j s hj => ?_) M0 1 a (by simp) (by omega)).trans rfl
  · conv => lhs; unfold law20o0
    simp only [idx0, idxB hv, Bool.and_self, cond_true, Int.toNat_natCast, hv, Option.bind_some]
  · conv => lhs; unfold law20o0
    simp only [hj, decide_false, cond_false]
theorem ex20 (l : List Int) (hl : (l.length : Int) < 2 ^ 62) (h0 : 0 < l.length) : fn20 (l, ()) = some (maxL l, ()) := by
  cases l with
  | nil => simp at h0
  | cons a l => exact lx20 _ a l hl (big30 _ hl)
theorem ex8 (p : Pan) (hp : FewP p) : fn8 (p, ()) = some ((boundsP p).1, (boundsP p).2, ()) := by
  unfold fn8 law8 boundsP
  refine (bindSome (ex10 p hp)).trans ?_
  show (bif paneR p != 0 then some (0, 0, ()) else _) = _
  cases h : paneR p != 0
  case true => rfl
  obtain ⟨h1, -⟩ := paneR_zero h
  obtain ⟨a1, a2, a3, a4, a5, a6⟩ := counted_le h1
  have hpos : 0 < p.2.2.1.flatten.length := by
    cases hr : p.2.2.1 with
    | nil => rw [hr] at a5; simp at a5; omega
    | cons r l =>
      have := a6 r (by rw [hr]; simp)
      simp; omega
  have hle : p.2.2.1.flatten.length ≤ 1600 := by
    have := FewP.sum (b := 40) hp.row
    have := Nat.mul_le_mul_right 40 hp.rows
    omega
  show Option.bind (fn18 (p.2.2.1, ())) _ = _
  refine (bindSome (ex18 p.2.2.1 hp.rows hp.row hpos)).trans ?_
  refine (bindSome (ex19 _ (by omega) hpos)).trans ?_
  exact (bindSome (ex20 _ (by omega) hpos)).trans rfl
end Go.Proofs.Ytkamnpkcjokncaa
