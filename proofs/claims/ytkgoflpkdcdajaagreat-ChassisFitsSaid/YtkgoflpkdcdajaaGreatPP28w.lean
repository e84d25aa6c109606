/- Plain Lean: what the laws of this program's functions come to, in numbers and lists; no program is run here. -/
import Derived.Test.YtkgoflpkdcdajaaGreatPP28d
set_option linter.unusedVariables false
set_option linter.unusedSimpArgs false
set_option maxRecDepth 100000
namespace Go.Proofs.YtkgoflpkdcdajaaGreat
open Go Go.Ab Go.Proofs Go.IntWalk
/- car.Right in plain Lean (r17), second half. -/
theorem ex132 (w : Whl) : fn132 (w, ()) = some (wheelR w, ()) := by
  unfold fn132 law132 wheelR
  exact (bindSome (ex133 _ (by simp))).trans rfl
theorem ex131 (c : Car) : fn131 (c, ()) = some (bodyR c, ()) := by
  unfold fn131 law131 bodyR
  exact (bindSome (ex133 _ (by simp))).trans rfl
theorem ex157 (a b : Int) : fn157 (a, b, ()) = some (aboveR a b, ()) := by
  unfold fn157 law157 aboveR
  show (bif decide (a ≤ b) then some (41, ()) else some (0, ())) = _
  cases decide (a ≤ b) <;> rfl
theorem ex156 (l : List Int) (hl : (l.length : Int) < 2 ^ 62) : fn156 (l, ()) = some (firstR l, ()) := by
  unfold fn156 law156 firstR
  refine (scan_law l (fun v => v != 0) (fun _ v => some (v, ())) (some (0, ())) (fun n j => law156o0 (10 ^ 30) (l, ()) (fun w => some (w, ())) (some (0, ())) n j) hl (fun n j v hv => ?_) (fun n j hj => ?_) (10 ^ 30) 0 (Nat.zero_le _) (big30 _ (by omega))).trans ?_
  · conv => lhs; unfold law156o0
    simp only [idx0, idxB hv, Bool.and_self, cond_true, Int.toNat_natCast, hv, Option.bind_some]
  · conv => lhs; unfold law156o0
    simp only [hj, decide_false, cond_false]
  · rw [List.drop_zero]
    cases scanL (fun v => v != 0) l 0 with
    | none => rfl
    | some z => rfl
theorem ex138 (c : Car) : fn138 (c, ()) = some (engineR c, ()) := by
  unfold fn138 law138 engineR
  refine (bindSome (ex133 _ (by simp))).trans ?_
  refine (bindSome (ex157 _ _)).trans ?_
  exact (bindSome (ex156 _ (by simp))).trans rfl
theorem ex141 (c : Car) : fn141 (c, ()) = some (easeR c, ()) := by
  unfold fn141 law141 easeR
  refine (bindSome (ex133 _ (by simp))).trans ?_
  refine (bindSome (ex157 _ _)).trans ?_
  exact (bindSome (ex156 _ (by simp))).trans rfl
theorem u32_i64 (a : Int) (h : 0 ≤ a ∧ a < 4294967296) : IntKind.i64.wrap a = a := i64_in _ (by omega)
theorem ex140 (c : Car) (h : FewC c) : fn140 (c, ()) = some (restR c, ()) := by
  unfold fn140 law140 restR
  have e1 := u32_i64 _ h.steer
  have e2 := u32_i64 _ h.rate
  have hr := ex133 [(c.snd.snd.snd.snd.snd.snd.snd.snd.snd.snd.snd.snd.snd.snd.snd.snd.snd.snd.snd.fst, 0, 281474976710656, ()), (c.snd.snd.snd.snd.snd.snd.snd.snd.snd.snd.snd.snd.snd.snd.snd.snd.snd.snd.snd.snd.fst, 0, 70368744177664, ()), (c.snd.snd.snd.snd.snd.snd.snd.snd.snd.snd.snd.snd.snd.snd.snd.snd.snd.snd.snd.snd.snd.fst, 0, 70368744177664, ()), (c.snd.snd.snd.snd.snd.snd.snd.snd.snd.snd.snd.snd.snd.snd.snd.snd.snd.snd.snd.snd.snd.snd.fst, 0, 4294967296, ()), (c.snd.snd.snd.snd.snd.snd.snd.snd.snd.snd.snd.snd.snd.snd.snd.snd.snd.snd.snd.snd.snd.snd.snd.fst, 0, 536870912, ()), (c.snd.snd.snd.snd.snd.snd.snd.snd.snd.snd.snd.snd.snd.snd.snd.snd.snd.snd.snd.snd.snd.snd.snd.snd.fst, 0, 2147483648, ())] (by simp)
  simp only [e1, e2]
  have hb := bindSome (f := fun v0 : Sh.Ts [.int .i64] => some (v0.fst, ())) hr
  cases (c.snd.snd.snd.snd.snd.snd.snd.snd.snd.snd.snd.snd.snd.snd.snd.snd.snd.snd.fst == (0 : Int)) <;> cases (c.snd.snd.snd.snd.snd.snd.snd.snd.snd.snd.snd.snd.snd.snd.snd.snd.snd.snd.fst == (1 : Int)) <;> cases (c.snd.snd.snd.snd.snd.snd.snd.snd.snd.snd.snd.snd.snd.snd.snd.snd.snd.snd.fst == (2 : Int)) <;> first | exact hb | rfl
theorem bytes8 : Tryz.prog.types[22].bytes = 8 := by kernel_rfl
theorem bytes24 : Tryz.prog.types[165].bytes = 24 := by kernel_rfl
theorem lx174 (M0 M1 : Nat) (hM0 : 100 ≤ M0) (hM1 : 100 ≤ M1) (l : List (List Int)) (hl : l.length ≤ 40) (hr : ∀ r ∈ l, r.length ≤ 40) (h0 : 0 < l.flatten.length) : law174 M0 M1 (l, ()) = some l.flatten := by
  cases l with
  | nil => simp at h0
  | cons r l =>
  have hs := FewP.sum hr
  have hlen : (r :: l).length = l.length + 1 := rfl
  have hfl : (r :: l).flatten.length = r.length + l.flatten.length := by simp
  have hr0 := hr r (by simp)
  have hs1 : ∀ j, j ≤ l.length → (l.drop j).flatten.length + (l.take j).flatten.length = l.flatten.length := fun j _ => by
    conv => rhs; rw [← List.take_append_drop j l]
    rw [List.flatten_append, List.length_append]; omega
  have hs2 : (r :: l).flatten.length ≤ 1600 := by
    have : (r :: l).length * 40 ≤ 40 * 40 := Nat.mul_le_mul_right 40 hl
    omega
  unfold law174
  have d0 : decide (0 < ((List.length (r :: l) : Nat) : Int)) = true := decide_eq_true (by omega)
  show (bif decide (0 < ((List.length (r :: l) : Nat) : Int)) then (bif decide ((0 : Int) ≤ 0) && decide (0 < ((List.length (r :: l) : Nat) : Int)) then _ else _) else _) = _
  rw [d0]
  show (bif decide (IntKind.i64.wrap (0 + (r.length : Int)) < 0) then none else _) = _
  have w0 : IntKind.i64.wrap (0 + (r.length : Int)) = (r.length : Int) := by rw [i64_in _ (by omega)]; omega
  rw [w0, show decide ((r.length : Int) < 0) = false by simp]
  have w1 : IntKind.i64.wrap (0 + 1) = ((1 : Nat) : Int) := by decide
  rw [w1]
  -- the sizes are added
  have hsum : ∀ (K : Int → Option (List Int)) (N0 N1 n j s : Nat), j ≤ (r :: l).length → (r :: l).length - j < n → s + ((r :: l).drop j).flatten.length ≤ 1600 → law174o0 N0 N1 (r :: l, ()) K n (s : Int) (j : Int) = K ((s + ((r :: l).drop j).flatten.length : Nat) : Int) := by
    intro K N0 N1 n
    induction n with
    | zero => intro j s h1 h2 _; omega
    | succ n ih =>
      intro j s h1 h2 h3
      unfold law174o0
      by_cases hc : j < (r :: l).length
      · have hv : (r :: l)[j]? = some (r :: l)[j] := List.getElem?_eq_getElem hc
        rw [List.drop_eq_getElem_cons hc, List.flatten_cons, List.length_append] at h3 ⊢
        have hw : IntKind.i64.wrap ((s : Int) + ((r :: l)[j].length : Int)) = ((s + (r :: l)[j].length : Nat) : Int) := by rw [i64_in _ (by omega)]; omega
        have hd : decide (((s + (r :: l)[j].length : Nat) : Int) < 0) = false := by simp; omega
        simp only [idx0, idxB hv, Bool.and_self, cond_true, Int.toNat_natCast, hv, Option.bind_some]
        rw [hw, hd, wrapNat j (by omega)]
        simp only [cond_false]
        rw [ih (j + 1) _ (by omega) (by omega) (by omega), Nat.add_assoc]
      · have : decide ((j : Int) < ((r :: l).length : Int)) = false := by simp at hc ⊢; omega
        simp only [this, cond_false]
        rw [show j = (r :: l).length by omega, List.drop_length]; rfl
  rw [cond_false]
  have e1 : r.length + ((r :: l).drop 1).flatten.length = (r :: l).flatten.length := by simp
  refine (hsum _ _ _ M0 1 r.length (by omega) (by omega) (by rw [e1]; omega)).trans ?_
  rw [e1]
  have w2 : IntKind.i64.wrap (((r :: l).flatten.length : Int) - IntKind.i64.wrap (0 - 0)) = ((r :: l).flatten.length : Int) := by
    rw [show IntKind.i64.wrap (0 - 0) = 0 by decide, i64_in _ (by omega)]; omega
  rw [w2, bytes8]
  have d1 : decide (((r :: l).flatten.length : Int) < 0) = false := by simp; omega
  have d2 : decide (((r :: l).flatten.length : Int) > 0) = true := by simp at h0 ⊢; omega
  have d3 : decide (0 < ((r :: l).flatten.length : Int)) = true := d2
  have d4 : decide (((r :: l).flatten.length : Int).toNat * 8 ≤ 140737488355328) = true := by simp only [Int.toNat_natCast]; exact decide_eq_true (by omega)
  have d5 : decide (((r :: l).flatten.length : Int).toNat ≤ 9223372036854775807) = true := by simp only [Int.toNat_natCast]; exact decide_eq_true (by omega)
  rw [d1, d2, d4, d5]
  show (bif decide ((0 + r.length) * 8 ≤ 140737488355328) && decide (0 + r.length ≤ 9223372036854775807) then _ else _) = _
  rw [decide_eq_true (show (0 + r.length) * 8 ≤ 140737488355328 by omega), decide_eq_true (show 0 + r.length ≤ 9223372036854775807 by omega)]
  show law174o1o1 _ _ _ _ _ (0 + r.length) _ ([].append r) = _
  have em : (((r :: l).drop 1).map (fun v => v)).flatten.length = l.flatten.length := by simp
  have := app_law (r :: l) (fun v => v) 8 (fun w27 (w28 : List Int) => (bif decide (w27 = w28.length) then some w28 else none)) (fun n m j a => law174o1o1 M0 M1 (r :: l, ()) (fun w27 w28 => (bif decide (w27 = w28.length) then some w28 else none)) n m j a) (by omega) (fun n m j a v hv => ?_) (fun n m j a hj => ?_) M1 1 r (by omega) (by omega) (by rw [em]; omega) (by rw [em]; omega)
  · rw [show (0 + r.length) = r.length by omega]
    refine this.trans ?_
    simp only [decide_true, cond_true]
    simp
  · conv => lhs; unfold law174o1o1
    simp only [idx0, idxB hv, Bool.and_self, cond_true, Int.toNat_natCast, hv, Option.bind_some]
    rw [bytes8]
  · conv => lhs; unfold law174o1o1
    simp only [hj, decide_false, cond_false]
theorem ex174 (l : List (List Int)) (hl : l.length ≤ 40) (hr : ∀ r ∈ l, r.length ≤ 40) (h0 : 0 < l.flatten.length) : fn174 (l, ()) = some l.flatten := lx174 _ _ (by decide) (by decide) l hl hr h0
theorem lx175 (M0 : Nat) (a : Int) (l : List Int) (hl : ((a :: l).length : Int) < 2 ^ 62) (hM : (a :: l).length < M0) : law175 M0 (a :: l, ()) = some (minL (a :: l), ()) := by
  unfold law175
  have d1 : decide ((((a :: l).length : Nat) : Int) < 1) = false := decide_eq_false (by rw [List.length_cons]; omega)
  have d0 : decide (0 < (((a :: l).length : Nat) : Int)) = true := decide_eq_true (by rw [List.length_cons]; omega)
  show (bif decide ((((a :: l).length : Nat) : Int) < 1) then none else (bif decide ((0 : Int) ≤ 0) && decide (0 < (((a :: l).length : Nat) : Int)) then _ else _)) = _
  rw [d1, d0]
  show law175o0 _ _ _ _ a ((1 : Nat) : Int) = _
  refine (fold_law (a :: l) (fun a b => if b < a then b else a) (fun w => some (w, ())) (fun n s j => law175o0 M0 (a :: l, ()) (fun w => some (w, ())) n s j) hl (fun n j s v hv => ?_) (fun n j s hj => ?_) M0 1 a (by simp) (by omega)).trans rfl
  · conv => lhs; unfold law175o0
    simp only [idx0, idxB hv, Bool.and_self, cond_true, Int.toNat_natCast, hv, Option.bind_some]
  · conv => lhs; unfold law175o0
    simp only [hj, decide_false, cond_false]
theorem ex175 (l : List Int) (hl : (l.length : Int) < 2 ^ 62) (h0 : 0 < l.length) : fn175 (l, ()) = some (minL l, ()) := by
  cases l with
  | nil => simp at h0
  | cons a l => exact lx175 _ a l hl (big30 _ hl)
theorem lx176 (M0 : Nat) (a : Int) (l : List Int) (hl : ((a :: l).length : Int) < 2 ^ 62) (hM : (a :: l).length < M0) : law176 M0 (a :: l, ()) = some (maxL (a :: l), ()) := by
  unfold law176
  have d1 : decide ((((a :: l).length : Nat) : Int) < 1) = false := decide_eq_false (by rw [List.length_cons]; omega)
  have d0 : decide (0 < (((a :: l).length : Nat) : Int)) = true := decide_eq_true (by rw [List.length_cons]; omega)
  show (bif decide ((((a :: l).length : Nat) : Int) < 1) then none else (bif decide ((0 : Int) ≤ 0) && decide (0 < (((a :: l).length : Nat) : Int)) then _ else _)) = _
  rw [d1, d0]
  show law176o0 _ _ _ _ a ((1 : Nat) : Int) = _
  refine (fold_law (a :: l) (fun a b => if b > a then b else a) (fun w => some (w, ())) (fun n s j => law176o0 M0 (a :: l, ()) (fun w => some (w, ())) n s j) hl (fun n j s v hv => ?_) (fun n j s hj => ?_) M0 1 a (by simp) (by omega)).trans rfl
  · conv => lhs; unfold law176o0
    simp only [idx0, idxB hv, Bool.and_self, cond_true, Int.toNat_natCast, hv, Option.bind_some]
  · conv => lhs; unfold law176o0
    simp only [hj, decide_false, cond_false]
theorem ex176 (l : List Int) (hl : (l.length : Int) < 2 ^ 62) (h0 : 0 < l.length) : fn176 (l, ()) = some (maxL l, ()) := by
  cases l with
  | nil => simp at h0
  | cons a l => exact lx176 _ a l hl (big30 _ hl)
theorem ex155 (p : Pan) (hp : FewP p) : fn155 (p, ()) = some ((boundsP p).1, (boundsP p).2, ()) := by
  unfold fn155 law155 boundsP
  refine (bindSome (ex154 p hp)).trans ?_
  show (bif paneR p != 0 then some (0, 0, ()) else _) = _
  cases h : paneR p != 0
  case true => rfl
  obtain ⟨h1, -⟩ := paneR_zero h
  obtain ⟨a1, a2, a3, a4, a5, a6⟩ := counted_le h1
  have hpos : 0 < p.2.2.1.flatten.length := by
    cases hr : p.2.2.1 with
    | nil => rw [hr] at a5; simp at a5; omega
    | cons r l =>
      have := a6 r (by rw [hr]; simp)
      simp; omega
  have hle : p.2.2.1.flatten.length ≤ 1600 := by
    have := FewP.sum (b := 40) hp.row
    have := Nat.mul_le_mul_right 40 hp.rows
    omega
  show Option.bind (fn174 (p.2.2.1, ())) _ = _
  refine (bindSome (ex174 p.2.2.1 hp.rows hp.row hpos)).trans ?_
  refine (bindSome (ex175 _ (by omega) hpos)).trans ?_
  exact (bindSome (ex176 _ (by omega) hpos)).trans rfl
theorem ex136 (p : Pan) (hp : FewP p) : fn136 (p, ()) = some (tyreR p, ()) := by
  unfold fn136 law136 tyreR
  refine (bindSome (ex154 p hp)).trans ?_
  show (bif paneR p != 0 then some (paneR p, ()) else _) = _
  cases h : paneR p != 0
  case true => rfl
  obtain ⟨h1, -⟩ := paneR_zero h
  obtain ⟨a1, a2, a3, a4, a5, a6⟩ := counted_le h1
  refine (bindSome (ex155 p hp)).trans ?_
  obtain ⟨xs, ys, rows, u⟩ := p
  cases xs with
  | nil => simp at a1
  | cons x xs =>
  cases ys with
  | nil => simp at a3
  | cons y ys =>
  have d0 : decide (0 < (((x :: xs).length : Nat) : Int)) = true := decide_eq_true (by rw [List.length_cons]; omega)
  have d1 : decide (0 < (((y :: ys).length : Nat) : Int)) = true := decide_eq_true (by rw [List.length_cons]; omega)
  show (bif decide ((0 : Int) ≤ 0) && decide (0 < (((x :: xs).length : Nat) : Int)) then (bif decide ((0 : Int) ≤ 0) && decide (0 < (((y :: ys).length : Nat) : Int)) then _ else _) else _) = _
  rw [d0, d1]
  exact (bindSome (ex133 _ (by simp))).trans rfl
theorem lx139 (M0 : Nat) (hM0 : 100 ≤ M0) (c : Car) (h : FewC c) : law139 M0 (c, ()) = some (gearsR c, ()) := by
  unfold law139 gearsR
  have hg := h.gears
  simp only []
  generalize hgs : c.snd.snd.snd.snd.snd.snd.snd.snd.snd.snd.snd.snd.snd.snd.snd.snd.fst = gs at hg ⊢
  have hg : List.length (α := Int) gs ≤ 20 := hg
  by_cases h1 : (List.length (α := Int) gs : Int) < 1
  · simp only [h1, decide_true, cond_true, Bool.true_or]
  by_cases h2 : (List.length (α := Int) gs : Int) > 8
  · simp only [h1, h2, decide_false, decide_true, cond_true, cond_false, Bool.or_true]
  have h1' : decide ((List.length (α := Int) gs : Int) < 1) = false := decide_eq_false h1
  have h2' : decide ((List.length (α := Int) gs : Int) > 8) = false := decide_eq_false h2
  have h3 : decide (0 < (List.length (α := Int) gs : Int)) = true := decide_eq_true (by omega)
  rw [h1', h2', h3]
  cases gs with
  | nil => simp at h1
  | cons g gs =>
  simp only [Bool.or_self, cond_false, cond_true, Int.le_refl, decide_true, Bool.and_self]
  have w1 : IntKind.i64.wrap (0 + 1) = ((1 : Nat) : Int) := by decide
  rw [w1]
  show law139o0 _ _ _ _ 3 ((1 : Nat) : Int) _ = _
  have es : ∀ l : List Int, (l.map fun v => [gearB v]).flatten = l.map gearB := fun l => by
    induction l with
    | nil => rfl
    | cons a l ih => simp [ih]
  have em : (((g :: gs).drop 1).map (fun v => [gearB v])).flatten.length = gs.length := by rw [es]; simp
  have := app_law (α := Int) (g :: gs) (fun v => [gearB v]) 24 (fun w20 (w21 : List Bnd) => (bif decide (w20 = w21.length) then Option.bind (fn133 (w21, ())) fun v22 => some (v22.fst, ()) else (none : Option (Sh.Ts [.int .i64])))) (fun n m j a => law139o0 M0 (c, ()) (fun w20 w21 => (bif decide (w20 = w21.length) then (Option.bind (fn133 (w21, ())) fun v22 => some ((v22.fst, ()))) else none)) n m j a) (by omega) (fun n m j a v hv => ?_) (fun n m j a hj => ?_) M0 1 [(c.snd.snd.snd.snd.snd.snd.snd.snd.snd.snd.snd.snd.snd.snd.snd.fst, 1073741824, 137438953472, ()), (c.snd.snd.snd.snd.snd.snd.snd.snd.snd.snd.snd.snd.snd.snd.snd.snd.snd.fst, 2147483648, 68719476736, ()), gearB g] (by simp) (by omega) (by rw [em, List.length_cons, List.length_cons, List.length_singleton]; rw [List.length_cons] at hg; omega) (by rw [em, List.length_cons, List.length_cons, List.length_singleton]; rw [List.length_cons] at hg; omega)
  · refine this.trans ?_
    rw [decide_eq_true rfl]
    simp only [cond_true]
    rw [es]
    refine (bindSome (ex133 _ (by rw [List.length_append, List.length_map, List.length_drop, List.length_cons, List.length_cons, List.length_singleton]; omega))).trans ?_
    rfl
  · conv => lhs; unfold law139o0
    rw [hgs]
    simp only [idx0, idxB hv, Bool.and_self, cond_true, Int.toNat_natCast, hv, Option.bind_some]
    rw [bytes24]
    rfl
  · conv => lhs; unfold law139o0
    rw [hgs]
    simp only [hj, decide_false, cond_false]
theorem ex139 (c : Car) (h : FewC c) : fn139 (c, ()) = some (gearsR c, ()) := lx139 _ (by decide) c h
theorem ex109 (c : Car) (h : FewC c) : fn109 (c, ()) = some (allR c) := by
  unfold fn109 law109 allR
  have l4 : (List.length (c.snd.snd.snd.snd.fst) : Int) < 2 ^ 62 := by have := h.damper; omega
  have l6 : (List.length (c.snd.snd.snd.snd.snd.snd.fst) : Int) < 2 ^ 62 := by have := h.torque; omega
  have l7 : (List.length (c.snd.snd.snd.snd.snd.snd.snd.fst) : Int) < 2 ^ 62 := by have := h.air; omega
  refine (bindSome (ex131 c)).trans ?_
  refine (bindSome (ex132 _)).trans ?_
  refine (bindSome (ex132 _)).trans ?_
  refine (bindSome (ex132 _)).trans ?_
  refine (bindSome (ex132 ((c.snd.snd.fst).snd.snd.snd.fst))).trans ?_
  refine (bindSome (ex133 _ (by simp))).trans ?_
  refine (bindSome (ex134x135 _ _ _ l4)).trans ?_
  refine (bindSome (ex136 _ h.pane)).trans ?_
  refine (bindSome (ex134x137 _ _ _ l6)).trans ?_
  refine (bindSome (ex134x137 _ _ _ l7)).trans ?_
  refine (bindSome (ex138 c)).trans ?_
  refine (bindSome (ex139 c h)).trans ?_
  refine (bindSome (ex140 c h)).trans ?_
  exact (bindSome (ex141 c)).trans rfl
theorem ex110 (l : List Int) (hl : (l.length : Int) < 2 ^ 62) : fn110x111 (l, ()) () = some (idxL (fun v => v != 0) l, ()) := by
  unfold fn110x111 law110x111
  refine (scan_law l (fun v => v != 0) (fun i _ => some (i, ())) (some (-1, ())) (fun n j => law110x111_0 (10 ^ 30) (l, ()) (fun w => some (w, ())) (some (-1, ())) n j) hl (fun n j v hv => ?_) (fun n j hj => ?_) (10 ^ 30) 0 (Nat.zero_le _) (big30 _ (by omega))).trans ?_
  · conv => lhs; unfold law110x111_0
    simp only [idx0, idxB hv, Bool.and_self, cond_true, Int.toNat_natCast, hv, Option.bind_some]
  · conv => lhs; unfold law110x111_0
    simp only [hj, decide_false, cond_false]
  · unfold idxL; rw [List.drop_zero]
    cases scanL (fun v => v != 0) l 0 with
    | none => rfl
    | some z => rfl
theorem ex63 (c : Car) (h : FewC c) : fn63 (c, ()) = some ((rightR c).1, (rightR c).2, ()) := by
  unfold fn63 law63 rightR
  refine (bindSome (ex109 c h)).trans ?_
  refine (bindSome (ex110 _ (by simp [allR]))).trans ?_
  unfold idxL
  cases hs : scanL (fun v => v != 0) (allR c) 0 with
  | none => rfl
  | some z =>
    obtain ⟨i, v⟩ := z
    obtain ⟨-, -, -, h4⟩ := scanL_some _ _ _ _ hs
    rw [Nat.sub_zero] at h4
    have d1 : decide ((i : Int) < 0) = false := by simp
    simp only [d1, cond_false, idx0, idxB h4, Bool.and_self, cond_true, Int.toNat_natCast, h4, Option.bind_some]
end Go.Proofs.YtkgoflpkdcdajaaGreat
