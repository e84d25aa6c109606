/- Plain Lean: what the laws of this program's functions come to, in numbers and lists; no program is run here. -/
import Derived.Test.YtoebdlpmnkbocaaPP45k
set_option linter.unusedVariables false
set_option linter.unusedSimpArgs false
set_option maxRecDepth 100000
namespace Go.Proofs.Ytoebdlpmnkbocaa
open Go Go.Ab Go.Proofs Go.IntWalk
/- Tanks in plain Lean (r45). -/
def unitB (v : Int) : Bool := inB (v, 0, 4294967296, ())
def unitD (d : Dot) : Bool := unitB d.2.1
def fuelR (t : TankT) : Int := bif tabR (t.snd.snd.snd.fst) != 0 then tabR (t.snd.snd.snd.fst) else bif inB (t.snd.fst, 0, 2199023255552, ()) && (inB (t.fst, 0, t.snd.fst, ()) && (unitB (t.snd.snd.fst) && (t.snd.snd.snd.fst).all unitD)) then 0 else 40
structure OkT (t : TankT) : Prop where
  left : I64 (t.fst)
  size : I64 (t.snd.fst)
  idle : I64 (t.snd.snd.fst)
  burn : ∀ d ∈ t.snd.snd.snd.fst, OkD d
theorem in25 (x : Int × Int × Int × Unit) : fn25 x = some (inB x, ()) := by
  obtain ⟨a, lo, hi, u⟩ := x
  unfold fn25 law25 inB
  show (bif decide (lo ≤ a) then some (decide (a ≤ hi), ()) else some (false, ())) = some (decide (lo ≤ a) && decide (a ≤ hi), ())
  cases decide (lo ≤ a) <;> rfl
theorem unit23 (l : List Int) (hl : (l.length : Int) < 2 ^ 62) : fn23 (l, ()) = some (l.all unitB, ()) := by
  unfold fn23 law23
  refine (any_law l (fun v => !unitB v) (some (false, ())) (some (true, ())) (fun n j => law23o0 (10 ^ 30) (l, ()) (some (false, ())) (some (true, ())) n j) hl (fun n j v hv => ?_) (fun n j hj => ?_) (10 ^ 30) (big30 _ hl)).trans ?_
  · conv => lhs; unfold law23o0
    simp only [idx0, idxB hv, Bool.and_self, cond_true, Int.toNat_natCast, hv, Option.bind_some]
    have e : (!unitB v) = (decide (v < 0) || decide (v > 4294967296)) := (outB_in (v, 0, 4294967296, ())).symm
    rw [e]
    cases decide (v < 0) <;> cases decide (v > 4294967296) <;> rfl
  · conv => lhs; unfold law23o0
    simp only [hj, decide_false, cond_false]
  · have e : l.all unitB = !l.any (fun v => !unitB v) := by rw [List.all_eq_not_any_not]
    rw [e]; cases l.any (fun v => !unitB v) <;> rfl
theorem lx7 (N : Nat) (hN : 100 ≤ N) (t : TankT) (hl : (t.snd.snd.snd.fst).length ≤ 40) : law7 N (t, ()) = some (fuelR t, ()) := by
  unfold law7 fuelR
  refine (bindSome (ex22 (t.snd.snd.snd.fst) (by omega))).trans ?_
  cases h0 : tabR (t.snd.snd.snd.fst) != 0
  case true => simp only [h0, cond_true]
  simp only [h0, cond_false]
  have hr := right13 h0
  have h2 := hr.two
  obtain ⟨left, size, idle, burn, u⟩ := t
  have hl : burn.length ≤ 40 := hl
  have h2 : 2 ≤ burn.length := h2
  simp only
  have d0 : decide (0 < (burn.length : Int)) = true := decide_eq_true (by omega)
  have hv := nth_get (l := burn) (i := 0) (by omega)
  have hv' : burn[Int.toNat 0]? = some (nth burn 0) := hv
  simp only [d0, Int.le_refl, decide_true, Bool.and_self, cond_true, hv', Option.bind_some]
  have w1 : IntKind.i64.wrap (0 + 1) = ((1 : Nat) : Int) := by decide
  rw [w1]
  have em : (List.map (fun d : Dot => [d.2.1]) (burn.drop 1)).flatten.length = burn.length - 1 := by
    have : ∀ l : List Dot, (List.map (fun d : Dot => [d.2.1]) l).flatten.length = l.length := fun l => by
      induction l with
      | nil => rfl
      | cons a l ih => simp [ih]
    rw [this, List.length_drop]
  have hK : ∀ (K : Nat → List Int → Option (Int × Unit)), law7o0 N ((left, size, idle, burn, u), ()) K N 2 ((1 : Nat) : Int) [idle, (nth burn 0).2.1] = K (1 + burn.length) (idle :: burn.map fun d => d.2.1) := fun K => by
    have := app_law burn (fun d : Dot => [d.2.1]) 8 K (fun n m j a => law7o0 N ((left, size, idle, burn, u), ()) K n m j a) (by omega) (fun n m j a v hv => ?_) (fun n m j a hj => ?_) N 1 [idle, (nth burn 0).2.1] (by omega) (by omega) (by rw [em]; simp; omega) (by rw [em]; simp; omega)
    · refine this.trans ?_
      have ef : ∀ l : List Dot, (List.map (fun d : Dot => [d.2.1]) l).flatten = l.map fun d => d.2.1 := fun l => by
        induction l with
        | nil => rfl
        | cons a l ih => simp [ih]
      rw [ef]
      have e0 : burn = nth burn 0 :: burn.drop 1 := by
        cases burn with
        | nil => simp at h2
        | cons d l => rfl
      have e1 : [idle, (nth burn 0).2.1] ++ List.map (fun d : Dot => d.2.1) (burn.drop 1) = idle :: burn.map fun d => d.2.1 := by
        conv => rhs; rw [e0]
        rfl
      rw [e1]
      congr 1
      simp; omega
    · conv => lhs; unfold law7o0
      simp only [idx0, idxB hv, Bool.and_self, cond_true, Int.toNat_natCast, hv, Option.bind_some]
      rw [bytes8]
      rfl
    · conv => lhs; unfold law7o0
      simp only [hj, decide_false, cond_false]
  rw [hK]
  have hlen : (idle :: burn.map fun d => d.2.1).length = 1 + burn.length := by simp; omega
  have hun := unit23 (idle :: burn.map fun d => d.2.1) (by rw [hlen]; omega)
  have eall : (idle :: burn.map fun d => d.2.1).all unitB = (unitB idle && burn.all unitD) := by
    rw [List.all_cons, List.all_map]; rfl
  have es : inB (size, 0, 2199023255552, ()) = !(decide (size < 0) || decide (size > 2199023255552)) := by rw [← Bool.not_not (inB _), ← outB_in]; rfl
  have el : inB (left, 0, size, ()) = !(decide (left < 0) || decide (left > size)) := by rw [← Bool.not_not (inB _), ← outB_in]; rfl
  rw [es, el, hlen, hun, eall]
  simp only [decide_true, cond_true, Option.bind_some]
  cases decide (size < 0)
  case true => rfl
  cases decide (size > 2199023255552)
  case true => rfl
  cases decide (left < 0)
  case true => rfl
  cases decide (left > size)
  case true => rfl
  cases (unitB idle && burn.all unitD) <;> rfl
theorem right7 (t : TankT) (hl : (t.snd.snd.snd.fst).length ≤ 40) : fn7 (t, ()) = some (fuelR t, ()) := lx7 _ (by decide) t hl
theorem loop8o0 (N : Nat) (t : TankT) (K : Bool → Option (Int × Unit)) : ∀ (n j : Nat) (b : Bool), j ≤ (t.snd.snd.snd.fst).length → (t.snd.snd.snd.fst).length - j < n → ((t.snd.snd.snd.fst).length : Int) < 2 ^ 62 → law8o0 N (t, ()) K n b (j : Int) = K (b && ((t.snd.snd.snd.fst).drop j).all unitD)
  | 0, j, b, _, h, _ => by omega
  | n + 1, j, b, hj, h, hl => by
    unfold law8o0
    by_cases c : j < (t.snd.snd.snd.fst).length
    · have hv : (t.snd.snd.snd.fst)[j]? = some (t.snd.snd.snd.fst)[j] := List.getElem?_eq_getElem c
      have ih := loop8o0 N t K n (j + 1)
      rw [List.drop_eq_getElem_cons c, List.all_cons]
      simp only [idx0, idxB hv, Bool.and_self, cond_true, Int.toNat_natCast, hv, Option.bind_some, in25, wrapNat j (by omega)]
      cases b
      · rw [cond_false, ih false (by omega) (by omega) hl]; rfl
      · rw [cond_true, ih _ (by omega) (by omega) hl]; rfl
    · have hc : decide ((j : Int) < ((t.snd.snd.snd.fst).length : Int)) = false := decide_eq_false (by omega)
      rw [hc, show j = (t.snd.snd.snd.fst).length by omega, List.drop_length]
      simp
theorem loop8o0o1 (N : Nat) (t : TankT) (K : Bool → Option (Int × Unit)) : ∀ (n j : Nat) (b : Bool), j ≤ (t.snd.snd.snd.fst).length → (t.snd.snd.snd.fst).length - j < n → ((t.snd.snd.snd.fst).length : Int) < 2 ^ 62 → law8o0o1 N (t, ()) K n b (j : Int) = K (b && ((t.snd.snd.snd.fst).drop j).all unitD)
  | 0, j, b, _, h, _ => by omega
  | n + 1, j, b, hj, h, hl => by
    unfold law8o0o1
    by_cases c : j < (t.snd.snd.snd.fst).length
    · have hv : (t.snd.snd.snd.fst)[j]? = some (t.snd.snd.snd.fst)[j] := List.getElem?_eq_getElem c
      have ih := loop8o0o1 N t K n (j + 1)
      rw [List.drop_eq_getElem_cons c, List.all_cons]
      simp only [idx0, idxB hv, Bool.and_self, cond_true, Int.toNat_natCast, hv, Option.bind_some, in25, wrapNat j (by omega)]
      cases b
      · rw [cond_false, ih false (by omega) (by omega) hl]; rfl
      · rw [cond_true, ih _ (by omega) (by omega) hl]; rfl
    · have hc : decide ((j : Int) < ((t.snd.snd.snd.fst).length : Int)) = false := decide_eq_false (by omega)
      rw [hc, show j = (t.snd.snd.snd.fst).length by omega, List.drop_length]
      simp
theorem loop8o0o2 (N : Nat) (t : TankT) (K : Bool → Option (Int × Unit)) : ∀ (n j : Nat) (b : Bool), j ≤ (t.snd.snd.snd.fst).length → (t.snd.snd.snd.fst).length - j < n → ((t.snd.snd.snd.fst).length : Int) < 2 ^ 62 → law8o0o2 N (t, ()) K n b (j : Int) = K (b && ((t.snd.snd.snd.fst).drop j).all unitD)
  | 0, j, b, _, h, _ => by omega
  | n + 1, j, b, hj, h, hl => by
    unfold law8o0o2
    by_cases c : j < (t.snd.snd.snd.fst).length
    · have hv : (t.snd.snd.snd.fst)[j]? = some (t.snd.snd.snd.fst)[j] := List.getElem?_eq_getElem c
      have ih := loop8o0o2 N t K n (j + 1)
      rw [List.drop_eq_getElem_cons c, List.all_cons]
      simp only [idx0, idxB hv, Bool.and_self, cond_true, Int.toNat_natCast, hv, Option.bind_some, in25, wrapNat j (by omega)]
      cases b
      · rw [cond_false, ih false (by omega) (by omega) hl]; rfl
      · rw [cond_true, ih _ (by omega) (by omega) hl]; rfl
    · have hc : decide ((j : Int) < ((t.snd.snd.snd.fst).length : Int)) = false := decide_eq_false (by omega)
      rw [hc, show j = (t.snd.snd.snd.fst).length by omega, List.drop_length]
      simp
theorem lx8 (N : Nat) (hN : 100 ≤ N) (t : TankT) (hl : (t.snd.snd.snd.fst).length ≤ 40) : law8 N (t, ()) = some (fuelR t, ()) := by
  unfold law8 fuelR
  refine (bindSome (ex24 (t.snd.snd.snd.fst) (by omega))).trans ?_
  cases h0 : tabR (t.snd.snd.snd.fst) != 0
  case true => simp only [h0, cond_true]
  simp only [h0, cond_false, in25, Option.bind_some]
  have a0 := fun K b => loop8o0 N t K N 0 b (Nat.zero_le _) (by omega) (by omega)
  have a1 := fun K b => loop8o0o1 N t K N 0 b (Nat.zero_le _) (by omega) (by omega)
  have a2 := fun K b => loop8o0o2 N t K N 0 b (Nat.zero_le _) (by omega) (by omega)
  simp only [List.drop_zero] at a0 a1 a2
  have a0 : ∀ K b, law8o0 N (t, ()) K N b 0 = K (b && (t.snd.snd.snd.fst).all unitD) := a0
  have a1 : ∀ K b, law8o0o1 N (t, ()) K N b 0 = K (b && (t.snd.snd.snd.fst).all unitD) := a1
  have a2 : ∀ K b, law8o0o2 N (t, ()) K N b 0 = K (b && (t.snd.snd.snd.fst).all unitD) := a2
  rw [a0, a1, a2]
  have e : inB (t.snd.snd.fst, 0, 4294967296, ()) = unitB (t.snd.snd.fst) := rfl
  rw [e]
  cases inB (t.snd.fst, 0, 2199023255552, ())
  case false => rfl
  cases inB (t.fst, 0, t.snd.fst, ())
  case false => rfl
  cases (unitB (t.snd.snd.fst) && (t.snd.snd.snd.fst).all unitD) <;> rfl
theorem right8 (t : TankT) (hl : (t.snd.snd.snd.fst).length ≤ 40) : fn8 (t, ()) = some (fuelR t, ()) := lx8 _ (by decide) t hl
def rateS (o : Bool) (t : TankT) (a b : Int) : Bool × Int :=
  let p := evalS o (t.snd.snd.snd.fst) a
  let q := mulS p.1 p.2 (clampV b 0 4294967296)
  addS q.1 (t.snd.snd.fst) q.2
def useS (o : Bool) (t : TankT) (a b dt : Int) : Bool × Int :=
  let p := rateS o t a b
  let q := mulS p.1 p.2 dt
  subS q.1 (t.fst) q.2
theorem clamp_r (b : Int) : 0 ≤ clampV b 0 4294967296 ∧ clampV b 0 4294967296 ≤ 4294967296 := by
  unfold clampV
  split
  · omega
  · split <;> omega
theorem clamp_i (b : Int) : I64 (clampV b 0 4294967296) := by have := clamp_r b; unfold I64; omega
theorem rateS_r (o : Bool) (t : TankT) (a b : Int) : I64 (rateS o t a b).2 := addS_r _ _ _
theorem rate10 (m : MT) (x : TankT × Int × Int × Unit) (ht : OkT x.1) (hl : (x.1.snd.snd.snd.fst).length ≤ 40) (h1 : I64 x.2.1) : fn10 m x = some (res (rateS m.1 x.1 x.2.1 x.2.2.1)) := by
  unfold fn10 law10
  have he := evalS_r m.1 (x.1.snd.snd.snd.fst) x.2.1 ht.burn
  simp only [bindSome (eval10 m (x.1.snd.snd.snd.fst, x.2.1, ()) (by show ((x.1.snd.snd.snd.fst).length : Int) < _; omega) ht.burn h1)]
  simp only [clamp37, mul20, add38, clamp_i, he, mulS_r, ht.idle, Option.bind_some, res_1, res_2]
  rfl
theorem rate11 (m : Mx1T) (x : TT × Int × Int × Unit) (ht : OkT x.1) (hl : (x.1.snd.snd.snd.fst).length ≤ 40) (h1 : I64 x.2.1) : fn11 m x = some (res (rateS m.1 x.1 x.2.1 x.2.2.1)) := by
  unfold fn11 law11
  have he := evalS_r m.1 (x.1.snd.snd.snd.fst) x.2.1 ht.burn
  simp only [bindSome (eval11 m (x.1.snd.snd.snd.fst, x.2.1, ()) (by show ((x.1.snd.snd.snd.fst).length : Int) < _; omega) ht.burn h1)]
  simp only [clamp40, mul23, add41, clamp_i, he, mulS_r, ht.idle, Option.bind_some, res_1, res_2]
  rfl
def max0 (v : Int) : Int := if 0 > v then 0 else v
theorem use13 (m : Mx1T) (x : TT × Int × Int × Int × Unit) (ht : OkT x.1) (hl : (x.1.snd.snd.snd.fst).length ≤ 40) (h1 : I64 x.2.1) (h3 : I64 (x.snd.snd.snd.fst)) : fn13 m x = some (((useS m.1 x.1 x.2.1 x.2.2.1 (x.snd.snd.snd.fst)).1, ()), max0 (useS m.1 x.1 x.2.1 x.2.2.1 (x.snd.snd.snd.fst)).2, ()) := by
  unfold fn13 law13
  simp only [bindSome (rate11 m (x.1, x.2.1, x.2.2.1, ()) ht hl h1)]
  simp only [mul23, sub22, rateS_r, mulS_r, h3, ht.left, Option.bind_some, res_1, res_2]
  rfl
theorem lx14 (N : Nat) (hN : 100 ≤ N) (t : TankT) (v : Int) (hl : (t.snd.snd.snd.fst).length ≤ 40) : law14 N ((v, t.2), t, v, ()) = some (true, ()) := by
  unfold law14
  have loop : ∀ (n j : Nat), j ≤ (t.snd.snd.snd.fst).length → (t.snd.snd.snd.fst).length - j < n → law14o0 N ((v, t.2), t, v, ()) (some (false, ())) (some (true, ())) n (j : Int) = (some (true, ()) : Option (Bool × Unit)) := by
    intro n
    induction n with
    | zero => intro j _ h; omega
    | succ n ih =>
      intro j hj h
      unfold law14o0
      by_cases c : j < (t.snd.snd.snd.fst).length
      · have hv : (t.snd.snd.snd.fst)[j]? = some (t.snd.snd.snd.fst)[j] := List.getElem?_eq_getElem c
        simp only [idx0, idxB hv, Bool.and_self, cond_true, Int.toNat_natCast, hv, Option.bind_some, beq_self_eq_true, Bool.not_true, cond_false, wrapNat j (by omega)]
        exact ih (j + 1) (by omega) (by omega)
      · have hc : decide ((j : Int) < ((t.snd.snd.snd.fst).length : Int)) = false := decide_eq_false (by omega)
        simp only [hc, cond_false]
  simp only [bne_self_eq_false, cond_false]
  exact loop N 0 (Nat.zero_le _) (by omega)
theorem same14 (t : TankT) (v : Int) (hl : (t.snd.snd.snd.fst).length ≤ 40) : fn14 ((v, t.2), t, v, ()) = some (true, ()) := lx14 _ (by decide) t v hl
theorem true3 (x : TankT × (Int × Int × Int × Unit) × Unit) (ht : OkT x.1) (h : I64 ((x.snd.fst).fst) ∧ I64 ((x.snd.fst).snd.fst) ∧ I64 ((x.snd.fst).snd.snd.fst)) : fn3 x = some (true, ()) := by
  obtain ⟨t, ⟨a, b, c, u⟩, u2⟩ := x
  have ht : OkT t := ht
  obtain ⟨h0, h1, h2⟩ := h
  have h0 : I64 a := h0
  have h2 : I64 c := h2
  unfold fn3 law3
  simp only
  cases hl : decide ((List.length (t.snd.snd.snd.fst) : Int) > 40)
  case true => rfl
  have hl := of_decide_eq_false hl
  have hl : (t.snd.snd.snd.fst).length ≤ 40 := by omega
  simp only [cond_false]
  refine (bindSome (right7 t hl)).trans ((bindSome (right8 t hl)).trans ?_)
  simp only [bne_self_eq_false, cond_false]
  refine (bindSome (rate10 (false, ()) (t, a, b, ()) ht hl h0)).trans ((bindSome (rate11 (false, ()) (t, a, b, ()) ht hl h0)).trans ?_)
  simp only [bne_self_eq_false, cond_false, beq_self_eq_true, Bool.not_true]
  generalize hO : (res (rateS false t a b)).1 = O
  refine (bindSome (rate10 O (t, a, b, ()) ht hl h0)).trans ?_
  simp only [mul20, sub16, rateS_r, mulS_r, h2, ht.left, Option.bind_some, res_1, res_2]
  refine (bindSome (use13 O (t, a, b, c, u) ht hl h0 h2)).trans ?_
  have hs := same14 t (max0 (useS O.1 t a b c).2) hl
  refine (bindSome hs).trans ?_
  have e1 : (subS (mulS (rateS O.1 t a b).1 (rateS O.1 t a b).2 c).1 (t.fst) (mulS (rateS O.1 t a b).1 (rateS O.1 t a b).2 c).2) = useS O.1 t a b c := rfl
  show (bif true then (bif (decide (max0 (useS O.1 t a b c).2 = 0) == decide (max0 (useS O.1 t a b c).2 = 0)) then (bif (useS O.1 t a b c).1 == (useS O.1 t a b c).1 then some (true, ()) else some (false, ())) else some (false, ())) else some (false, ())) = _
  simp only [beq_self_eq_true, cond_true]
theorem laps17 (x : TankT × Int × Unit) (h : I64 x.2.1) (hl : I64 (x.1.fst)) : fn17 x = some (if x.2.1 ≤ 0 then (0, false, ()) else (x.1.fst / x.2.1, true, ())) := by
  obtain ⟨t, lap, u⟩ := x
  have h : I64 lap := h
  have hl : I64 (t.fst) := hl
  unfold fn17 law17
  simp only
  generalize t.fst = L at *
  unfold I64 at h hl
  by_cases c : lap ≤ 0
  · rw [decide_eq_true c, if_pos c]; rfl
  · rw [decide_eq_false c, if_neg c, decide_eq_false (show ¬ lap = 0 by omega)]
    simp only [cond_false, Bool.not_false, cond_true]
    obtain ⟨q1, q2, q3⟩ := qr L (show 0 < lap by omega)
    have b1 : -9223372036854775808 ≤ L / lap ∧ L / lap ≤ 9223372036854775807 := by
      constructor
      · exact Int.le_ediv_of_mul_le (by omega) (by
          have : (-9223372036854775808) * lap ≤ (-9223372036854775808) * 1 := Int.mul_le_mul_of_nonpos_left (by omega) (by omega)
          omega)
      · have : L / lap < 9223372036854775808 := Int.ediv_lt_of_lt_mul (by omega) (by
          have : 9223372036854775808 * 1 ≤ 9223372036854775808 * lap := Int.mul_le_mul_of_nonneg_left (by omega) (by omega)
          omega)
        omega
    by_cases cl : 0 ≤ L
    · rw [Int.tdiv_eq_ediv_of_nonneg cl, Int.tmod_eq_emod_of_nonneg cl, decide_eq_false (by omega), i64_in (L / lap) (by omega)]; rfl
    · have et : L.tdiv lap = -((-L) / lap) := by
        have := Int.neg_tdiv (-L) lap
        rw [Int.neg_neg] at this
        rw [this, Int.tdiv_eq_ediv_of_nonneg (by omega)]
      have em : L.tmod lap = -((-L) % lap) := by
        have := Int.neg_tmod (-L) lap
        rw [Int.neg_neg] at this
        rw [this, Int.tmod_eq_emod_of_nonneg (by omega)]
      obtain ⟨p1, p2, p3⟩ := qr (-L) (show 0 < lap by omega)
      rw [et, em]
      by_cases hz : (-L) % lap = 0
      · have : L / lap = -((-L) / lap) := (qr_unique (d := lap) (q := -((-L) / lap)) (r := 0) (by omega) (by rw [Int.neg_mul]; omega) (by omega) (by omega)).1
        rw [hz, this, decide_eq_false (by omega)]
        have b2 : -9223372036854775808 ≤ -((-L) / lap) ∧ -((-L) / lap) ≤ 9223372036854775807 := by rw [← this]; exact b1
        rw [i64_in (-((-L) / lap)) (by omega)]; rfl
      · have : L / lap = -((-L) / lap) - 1 := (qr_unique (d := lap) (q := -((-L) / lap) - 1) (r := lap - (-L) % lap) (by omega) (by rw [Int.sub_mul, Int.neg_mul]; omega) (by omega) (by omega)).1
        rw [this, decide_eq_true (by omega)]
        have b2 : -9223372036854775808 ≤ -((-L) / lap) - 1 ∧ -((-L) / lap) - 1 ≤ 9223372036854775807 := by rw [← this]; exact b1
        have hpos : 0 ≤ (-L) / lap := Int.ediv_nonneg (by omega) (by omega)
        rw [i64_in (-((-L) / lap)) (by omega), i64_in (-((-L) / lap) - 1) (by omega)]; rfl
theorem laps18 (x : TT × Int × Unit) (h : I64 x.2.1) (hl : I64 (x.1.fst)) : fn18 x = some (if x.2.1 ≤ 0 then (0, false, ()) else (x.1.fst / x.2.1, true, ())) := by
  obtain ⟨t, lap, u⟩ := x
  have h : I64 lap := h
  have hl : I64 (t.fst) := hl
  unfold fn18 law18
  simp only
  generalize t.fst = L at *
  unfold I64 at h hl
  by_cases c : lap ≤ 0
  · rw [decide_eq_true c, if_pos c]; rfl
  · rw [decide_eq_false c, if_neg c, decide_eq_false (show ¬ lap = 0 by omega)]
    simp only [cond_false, Bool.not_false, cond_true]
    obtain ⟨q1, q2, q3⟩ := qr L (show 0 < lap by omega)
    have b1 : -9223372036854775808 ≤ L / lap ∧ L / lap ≤ 9223372036854775807 := by
      constructor
      · exact Int.le_ediv_of_mul_le (by omega) (by
          have : (-9223372036854775808) * lap ≤ (-9223372036854775808) * 1 := Int.mul_le_mul_of_nonpos_left (by omega) (by omega)
          omega)
      · have : L / lap < 9223372036854775808 := Int.ediv_lt_of_lt_mul (by omega) (by
          have : 9223372036854775808 * 1 ≤ 9223372036854775808 * lap := Int.mul_le_mul_of_nonneg_left (by omega) (by omega)
          omega)
        omega
    by_cases cl : 0 ≤ L
    · rw [Int.tdiv_eq_ediv_of_nonneg cl, i64_in (L / lap) (by omega), i64_in (L / lap * lap) (by omega), decide_eq_false (by omega)]; rfl
    · have et : L.tdiv lap = -((-L) / lap) := by
        have := Int.neg_tdiv (-L) lap
        rw [Int.neg_neg] at this
        rw [this, Int.tdiv_eq_ediv_of_nonneg (by omega)]
      obtain ⟨p1, p2, p3⟩ := qr (-L) (show 0 < lap by omega)
      have hpos : 0 ≤ (-L) / lap := Int.ediv_nonneg (by omega) (by omega)
      have hpm : 0 ≤ (-L) / lap * lap := Int.mul_nonneg hpos (by omega)
      rw [et]
      by_cases hz : (-L) % lap = 0
      · have : L / lap = -((-L) / lap) := (qr_unique (d := lap) (q := -((-L) / lap)) (r := 0) (by omega) (by rw [Int.neg_mul]; omega) (by omega) (by omega)).1
        have b2 : -9223372036854775808 ≤ -((-L) / lap) ∧ -((-L) / lap) ≤ 9223372036854775807 := by rw [← this]; exact b1
        rw [this, i64_in (-((-L) / lap)) (by omega), Int.neg_mul, i64_in (-((-L) / lap * lap)) (by omega), decide_eq_false (by omega)]; rfl
      · have : L / lap = -((-L) / lap) - 1 := (qr_unique (d := lap) (q := -((-L) / lap) - 1) (r := lap - (-L) % lap) (by omega) (by rw [Int.sub_mul, Int.neg_mul]; omega) (by omega) (by omega)).1
        have b2 : -9223372036854775808 ≤ -((-L) / lap) - 1 ∧ -((-L) / lap) - 1 ≤ 9223372036854775807 := by rw [← this]; exact b1
        rw [this, i64_in (-((-L) / lap)) (by omega), Int.neg_mul, i64_in (-((-L) / lap * lap)) (by omega), decide_eq_true (by omega), i64_in (-((-L) / lap) - 1) (by omega)]; rfl
theorem true6 (x : TankT × (Int × Int × Unit) × Unit) (ht : OkT x.1) (h : I64 ((x.snd.fst).fst) ∧ I64 ((x.snd.fst).snd.fst)) : fn6 x = some (true, ()) := by
  obtain ⟨t, ⟨a, b, u⟩, u2⟩ := x
  have ht : OkT t := ht
  have h0 : I64 a := h.1
  have h1 : I64 b := h.2
  unfold fn6 law6
  simp only
  cases hl : decide ((List.length (t.snd.snd.snd.fst) : Int) > 40)
  case true => rfl
  have hl := of_decide_eq_false hl
  have hl : (t.snd.snd.snd.fst).length ≤ 40 := by omega
  simp only [cond_false]
  cases hs : decide (t.snd.fst < 0)
  case true => rfl
  simp only [cond_false]
  refine (bindSome (laps17 (t, b, u) h1 ht.left)).trans ((bindSome (laps18 (t, b, u) h1 ht.left)).trans ?_)
  unfold fn19 law19 fn20 law20
  simp only [add38, add41, clamp37, clamp40, h0, h1, ht.left, addS_r, Option.bind_some, res_1, res_2]
  have hsame := same14 t (clampV (addS false (t.fst) a).2 0 (t.snd.fst)) hl
  refine (bindSome hsame).trans ?_
  simp only [beq_self_eq_true, cond_true]
/-- A tank that is right. -/
structure RightK (t : TankT) : Prop where
  burn : RightT (t.snd.snd.snd.fst)
  vals : ∀ i, i < (t.snd.snd.snd.fst).length → 0 ≤ tY (t.snd.snd.snd.fst) i ∧ tY (t.snd.snd.snd.fst) i ≤ 4294967296
  idle : 0 ≤ t.snd.snd.fst ∧ t.snd.snd.fst ≤ 4294967296
  left : 0 ≤ t.fst ∧ t.fst ≤ t.snd.fst
  size : t.snd.fst ≤ 2199023255552
theorem inB_true {a lo hi : Int} (h : inB (a, lo, hi, ()) = true) : lo ≤ a ∧ a ≤ hi := by
  unfold inB at h
  simpa using h
theorem rightK_of {t : TankT} (h : (fuelR t != 0) = false) : RightK t := by
  have h : fuelR t = 0 := by simpa using h
  unfold fuelR at h
  cases h0 : tabR (t.snd.snd.snd.fst) != 0
  case true =>
    rw [h0] at h
    have h : tabR (t.snd.snd.snd.fst) = 0 := h
    simp [h] at h0
  rw [h0] at h
  cases h1 : (inB (t.snd.fst, 0, 2199023255552, ()) && (inB (t.fst, 0, t.snd.fst, ()) && (unitB (t.snd.snd.fst) && (t.snd.snd.snd.fst).all unitD)))
  case false =>
    rw [h1] at h
    have h : (40 : Int) = 0 := h
    omega
  simp only [Bool.and_eq_true] at h1
  obtain ⟨g1, g2, g3, g4⟩ := h1
  have g1 := inB_true g1
  have g2 := inB_true g2
  have g3 := inB_true g3
  have hr := right13 h0
  refine ⟨hr, fun i hi => ?_, g3, g2, g1.2⟩
  have := List.all_eq_true.1 g4 (nth (t.snd.snd.snd.fst) i) (nth_mem hi)
  exact inB_true this
theorem fuelR_of {t : TankT} (h0 : tabR (t.snd.snd.snd.fst) = 0) (h1 : 0 ≤ t.snd.fst ∧ t.snd.fst ≤ 2199023255552) (h2 : 0 ≤ t.fst ∧ t.fst ≤ t.snd.fst) (h3 : (unitB (t.snd.snd.fst) && (t.snd.snd.snd.fst).all unitD) = true) : fuelR t = 0 := by
  unfold fuelR
  have e1 : inB (t.snd.fst, 0, 2199023255552, ()) = true := by unfold inB; simp [h1]
  have e2 : inB (t.fst, 0, t.snd.fst, ()) = true := by unfold inB; simp [h2]
  rw [h0, e1, e2, h3]; rfl
theorem fuelR_parts {t : TankT} (h : (fuelR t != 0) = false) : tabR (t.snd.snd.snd.fst) = 0 ∧ (unitB (t.snd.snd.fst) && (t.snd.snd.snd.fst).all unitD) = true := by
  have h : fuelR t = 0 := by simpa using h
  unfold fuelR at h
  cases h0 : tabR (t.snd.snd.snd.fst) != 0
  case true =>
    rw [h0] at h
    have h : tabR (t.snd.snd.snd.fst) = 0 := h
    simp [h] at h0
  rw [h0] at h
  refine ⟨by simpa using h0, ?_⟩
  cases h1 : (unitB (t.snd.snd.fst) && (t.snd.snd.snd.fst).all unitD)
  case true => rfl
  rw [h1] at h
  simp only [Bool.and_false, cond_false] at h
  omega
theorem eval_unit {t : TankT} (h : RightK t) (o : Bool) (a : Int) : (evalS o (t.snd.snd.snd.fst) a).1 = o ∧ 0 ≤ (evalS o (t.snd.snd.snd.fst) a).2 ∧ (evalS o (t.snd.snd.snd.fst) a).2 ≤ 4294967296 := by
  obtain ⟨e1, e2, e3⟩ := h.burn.eval o a
  obtain ⟨c1, -, -⟩ := h.burn.cell a
  have v1 := h.vals (cellV (t.snd.snd.snd.fst) a) (by omega)
  have v2 := h.vals (cellV (t.snd.snd.snd.fst) a + 1) c1
  rcases Int.le_total (tY (t.snd.snd.snd.fst) (cellV (t.snd.snd.snd.fst) a)) (tY (t.snd.snd.snd.fst) (cellV (t.snd.snd.snd.fst) a + 1)) with g | g
  · have := e2 g; exact ⟨e1, by omega, by omega⟩
  · have := e3 g; exact ⟨e1, by omega, by omega⟩
theorem mulV_le {a b A B : Int} (ha : 0 ≤ a ∧ a ≤ A) (hb : 0 ≤ b ∧ b ≤ B) {k : Int} (hk : A * B ≤ k * 4294967296) : 0 ≤ mulV a b ∧ mulV a b ≤ k := by
  unfold mulV
  have h1 : 0 ≤ a * b := Int.mul_nonneg ha.1 hb.1
  have h2 : a * b ≤ A * B := Int.mul_le_mul ha.2 hb.2 hb.1 (by omega)
  exact ⟨rnd_nonneg (by decide) h1, rnd_le (by decide) (by omega)⟩
theorem rate_fits {t : TankT} (h : RightK t) (o : Bool) (a b : Int) : ∃ v, rateS o t a b = (o, v) ∧ 0 ≤ v ∧ v ≤ 8589934592 := by
  obtain ⟨e1, e2, e3⟩ := eval_unit h o a
  have hc := clamp_r b
  unfold rateS
  simp only [e1]
  have hm := mulV_le ⟨e2, e3⟩ hc (k := 4294967296) (by omega)
  have em : mulS o (evalS o (t.snd.snd.snd.fst) a).2 (clampV b 0 4294967296) = (o, mulV (evalS o (t.snd.snd.snd.fst) a).2 (clampV b 0 4294967296)) := satS_in (by unfold I64; omega)
  rw [em]
  have hi := h.idle
  generalize mulV (evalS o (t.snd.snd.snd.fst) a).2 (clampV b 0 4294967296) = p at *
  refine ⟨t.snd.snd.fst + p, satS_in (by unfold I64; omega), by omega, by omega⟩
theorem true4 (x : TankT × (Int × Int × Int × Int × Unit) × Unit) (ht : OkT x.1) (h : I64 ((x.snd.fst).fst) ∧ I64 ((x.snd.fst).snd.fst) ∧ I64 ((x.snd.fst).snd.snd.fst) ∧ I64 ((x.snd.fst).snd.snd.snd.fst)) : fn4 x = some (true, ()) := by
  obtain ⟨t, ⟨a, b, c, d, u⟩, u2⟩ := x
  have ht : OkT t := ht
  obtain ⟨h0, h1, h2, h3⟩ := h
  have h0 : I64 a := h0
  have h2 : I64 c := h2
  have h3 : I64 d := h3
  unfold fn4 law4
  simp only
  cases hl : decide ((List.length (t.snd.snd.snd.fst) : Int) > 40)
  case true => rfl
  have hl := of_decide_eq_false hl
  have hl : (t.snd.snd.snd.fst).length ≤ 40 := by omega
  simp only [cond_false]
  refine (bindSome (right7 t hl)).trans ?_
  cases hr0 : fuelR t != 0
  case true => simp only [hr0, cond_true]
  simp only [hr0, cond_false]
  have hr := rightK_of hr0
  obtain ⟨hp1, hp2⟩ := fuelR_parts hr0
  by_cases k1 : c < 0
  · rw [decide_eq_true k1]; rfl
  by_cases k2 : c > 4294967296000
  · rw [decide_eq_false k1, decide_eq_true k2]; rfl
  by_cases k3 : d > 4294967296000
  · rw [decide_eq_false k1, decide_eq_false k2, decide_eq_true k3]; rfl
  by_cases k4 : d < -4294967296000
  · rw [decide_eq_false k1, decide_eq_false k2, decide_eq_false k3, decide_eq_true k4]; rfl
  rw [decide_eq_false k1, decide_eq_false k2, decide_eq_false k3, decide_eq_false k4]
  simp only [cond_false]
  obtain ⟨v, ev, v0, v1⟩ := rate_fits hr false a b
  refine (bindSome (rate10 (false, ()) (t, a, b, ()) ht hl h0)).trans ?_
  simp only [ev]
  have hv : I64 v := by unfold I64; omega
  have hm := mulV_le ⟨v0, v1⟩ (show 0 ≤ c ∧ c ≤ 4294967296000 by omega) (k := 8589934592000) (by omega)
  have em : mulS false v c = (false, mulV v c) := satS_in (by unfold I64; omega)
  have hmi : I64 (mulV v c) := by unfold I64; omega
  have hleft := hr.left
  have hsize := hr.size
  have es : subS false (t.fst) (mulV v c) = (false, t.fst - mulV v c) := satS_in (by unfold I64; omega)
  simp only [mul20, sub16, hv, h2, em, hmi, ht.left, es, Option.bind_some, res_1, res_2]
  generalize mulV v c = p at *
  have tail : ∀ q : Int, 0 ≤ q → q ≤ t.fst → (Option.bind (fn29 (false, ()) (q, d, u)) fun v4 => (bif decide (q ≥ 0) then (bif decide (q ≤ t.fst) then (bif (q == 0) == (q == 0) then (Option.bind (fn7 ((q, t.2), ())) fun v6 => (bif v6.1 == 0 then (Option.bind (fn7 ((clampV v4.2.1 0 (t.snd.fst), t.2), ())) fun v7 => (bif v7.1 == 0 then (bif !v4.1.1 then some (true, ()) else some (false, ())) else some (false, ()))) else some (false, ()))) else some (false, ())) else some (false, ())) else some (false, ()))) = (some (true, ()) : Option (Bool × Unit)) := by
    intro q hq0 hq1
    have hqi : I64 q := by unfold I64; omega
    have ea : addS false q d = (false, q + d) := satS_in (by unfold I64; omega)
    simp only [add38, hqi, h3, ea, Option.bind_some, res_1, res_2]
    have hcl : 0 ≤ clampV (q + d) 0 (t.snd.fst) ∧ clampV (q + d) 0 (t.snd.fst) ≤ t.snd.fst := by
      unfold clampV
      split
      · omega
      · split <;> omega
    generalize clampV (q + d) 0 (t.snd.fst) = z at *
    rw [decide_eq_true (show q ≥ 0 from hq0), decide_eq_true hq1]
    simp only [beq_self_eq_true, cond_true]
    have r1 : fuelR (q, t.2) = 0 := fuelR_of hp1 ⟨by show 0 ≤ t.snd.fst; omega, hsize⟩ ⟨hq0, by show q ≤ t.snd.fst; omega⟩ hp2
    have r2 : fuelR (z, t.2) = 0 := fuelR_of hp1 ⟨by show 0 ≤ t.snd.fst; omega, hsize⟩ hcl hp2
    refine (bindSome (right7 (q, t.2) hl)).trans ?_
    rw [r1]
    refine (bindSome (right7 (z, t.2) hl)).trans ?_
    rw [r2]; rfl
  simp only [clamp37, Option.bind_some]
  by_cases hp : 0 > t.fst - p
  · simp only [hp, if_true]
    exact tail 0 (by omega) (by omega)
  · simp only [hp, if_false]
    exact tail (t.fst - p) (by omega) (by omega)
theorem true5 (x : TankT × Int × Int × Unit) (ht : OkT x.1) (h1 : I64 (x.snd.fst)) (h2 : I64 (x.snd.snd.fst)) : fn5 x = some (true, ()) := by
  obtain ⟨t, lap, more, u⟩ := x
  have ht : OkT t := ht
  have h1 : I64 lap := h1
  have h2 : I64 more := h2
  unfold fn5 law5
  simp only
  cases hl : decide ((List.length (t.snd.snd.snd.fst) : Int) > 40)
  case true => rfl
  have hl := of_decide_eq_false hl
  have hl : (t.snd.snd.snd.fst).length ≤ 40 := by omega
  simp only [cond_false]
  refine (bindSome (right7 t hl)).trans ?_
  cases hr0 : fuelR t != 0
  case true => simp only [hr0, cond_true]
  simp only [hr0, cond_false]
  have hr := rightK_of hr0
  by_cases k1 : lap ≤ 0
  · rw [decide_eq_true k1]; rfl
  by_cases k2 : lap > 4294967296000
  · rw [decide_eq_false k1, decide_eq_true k2]; rfl
  by_cases k3 : more < 0
  · rw [decide_eq_false k1, decide_eq_false k2, decide_eq_true k3]; rfl
  by_cases k4 : more > 4294967296000
  · rw [decide_eq_false k1, decide_eq_false k2, decide_eq_false k3, decide_eq_true k4]; rfl
  rw [decide_eq_false k1, decide_eq_false k2, decide_eq_false k3, decide_eq_false k4]
  simp only [cond_false]
  have hleft := hr.left
  have hsize := hr.size
  have ea : addS false (t.fst) more = (false, t.fst + more) := satS_in (by unfold I64; omega)
  refine (bindSome (laps17 (t, lap, ()) h1 ht.left)).trans ?_
  simp only [add38, ht.left, h2, ea, clamp37, Option.bind_some, res_1, res_2]
  have hz : t.fst ≤ clampV (t.fst + more) 0 (t.snd.fst) ∧ clampV (t.fst + more) 0 (t.snd.fst) ≤ t.snd.fst := by
    unfold clampV
    split
    · omega
    · split <;> omega
  generalize clampV (t.fst + more) 0 (t.snd.fst) = z at *
  refine (bindSome (laps17 ((z, t.2), lap, ()) h1 (show I64 z by unfold I64; omega))).trans ?_
  rw [if_neg k1]
  have k1' : ¬ lap ≤ 0 := k1
  show (bif (if lap ≤ 0 then ((0, false, ()) : Int × Bool × Unit) else (z / lap, true, ())).2.1 then _ else _) = _
  rw [if_neg k1]
  generalize t.fst = L at *
  obtain ⟨q1, q2, q3⟩ := qr L (show 0 < lap by omega)
  have q4 : 0 ≤ L / lap := Int.ediv_nonneg (by omega) (by omega)
  have q5 : L / lap ≤ z / lap := Int.ediv_le_ediv (by omega) hz.1
  have q6 : L / lap ≤ L := Int.ediv_le_self _ (by omega)
  have e1 : IntKind.i64.wrap (L / lap * lap) = L / lap * lap := i64_in _ (by omega)
  have e2 : IntKind.i64.wrap (L / lap + 1) = L / lap + 1 := i64_in _ (by omega)
  have e3 : (L / lap + 1) * lap = L / lap * lap + lap := by rw [Int.add_mul, Int.one_mul]
  have e4 : IntKind.i64.wrap ((L / lap + 1) * lap) = L / lap * lap + lap := by rw [e3]; exact i64_in _ (by omega)
  show (bif true then (bif true then (bif decide (L / lap ≥ 0) then (bif decide (IntKind.i64.wrap (L / lap * lap) ≤ L) then (bif decide (IntKind.i64.wrap (IntKind.i64.wrap (L / lap + 1) * lap) > L) then (bif decide (z / lap ≥ L / lap) then some (true, ()) else some (false, ())) else some (false, ())) else some (false, ())) else some (false, ())) else some (false, ())) else some (false, ())) = _
  rw [e2, e4, e1, decide_eq_true (show L / lap ≥ 0 from q4), decide_eq_true (show L / lap * lap ≤ L by omega), decide_eq_true (show L / lap * lap + lap > L by omega), decide_eq_true (show z / lap ≥ L / lap from q5)]; rfl
theorem okT {t : TankT} (h : Sh.ok TankSh t) : OkT t := ⟨okI h.1, okI h.2.1, okI h.2.2.1, okDs h.2.2.2.1⟩
theorem true3o (y : Sh.Ts [TankSh, .st [.int .i64, .int .i64, .int .i64]]) (hy : Sh.oks [TankSh, .st [.int .i64, .int .i64, .int .i64]] y) : fn3 y = some (true, ()) := true3 y (okT hy.1) ⟨okI hy.2.1.1, okI hy.2.1.2.1, okI hy.2.1.2.2.1⟩
theorem true6o (y : Sh.Ts [TankSh, .st [.int .i64, .int .i64]]) (hy : Sh.oks [TankSh, .st [.int .i64, .int .i64]] y) : fn6 y = some (true, ()) := true6 y (okT hy.1) ⟨okI hy.2.1.1, okI hy.2.1.2.1⟩
theorem true4o (y : Sh.Ts [TankSh, .st [.int .i64, .int .i64, .int .i64, .int .i64]]) (hy : Sh.oks [TankSh, .st [.int .i64, .int .i64, .int .i64, .int .i64]] y) : fn4 y = some (true, ()) := true4 y (okT hy.1) ⟨okI hy.2.1.1, okI hy.2.1.2.1, okI hy.2.1.2.2.1, okI hy.2.1.2.2.2.1⟩
theorem true5o (y : Sh.Ts [TankSh, .int .i64, .int .i64]) (hy : Sh.oks [TankSh, .int .i64, .int .i64] y) : fn5 y = some (true, ()) := true5 y (okT hy.1) (okI hy.2.1) (okI hy.2.2.1)
end Go.Proofs.Ytoebdlpmnkbocaa
