/- Plain Lean: what the laws of this program's functions come to, in numbers and lists; no program is run here. -/
import Derived.Test.YtkgoflpkdcdajaaGreatPP28u
set_option linter.unusedVariables false
set_option linter.unusedSimpArgs false
set_option maxRecDepth 100000
namespace Go.Proofs.YtkgoflpkdcdajaaGreat
open Go Go.Ab Go.Proofs Go.IntWalk
/- Lengths of any many parts, vectors, the air's force in plain Lean (r28). -/
theorem bifT {α : Type} {c : Bool} {a b : α} (h : c = true) : (bif c then a else b) = a := by subst h; rfl
theorem bifF {α : Type} {c : Bool} {a b : α} (h : c = false) : (bif c then a else b) = b := by subst h; rfl
theorem bindT {α β : Type} {o : Option α} {v : α} {f : α → Option β} (h : o = some v) : Option.bind o f = f v := by subst h; rfl
def clampV (a lo hi : Int) : Int := if a < lo then lo else if a > hi then hi else a
theorem clamp37 (x : Int × Int × Int × Unit) : fn67 x = some (clampV x.1 x.2.1 x.2.2.1, ()) := by
  unfold fn67 law67 clampV
  by_cases h1 : x.1 < x.2.1 <;> by_cases h2 : x.1 > x.2.2.1 <;> simp [h1, h2]
theorem add71o (u v : Int) (hu : 0 ≤ u ∧ u < 170141183460469231731687303715884105728) (hv : 0 ≤ v ∧ v < 170141183460469231731687303715884105728) (h : ¬ u + v < 170141183460469231731687303715884105728) : fn71 (wd u, wd v, ()) = some ((0, 0, ()), false, ()) := by
  unfold fn71 law71 fn116 add64Law wd
  simp only
  have h1 : decide (((u % 18446744073709551616).toNat + (v % 18446744073709551616).toNat + Int.toNat 0) / 18446744073709551616 ≤ 1) = true := by
    simp only [decide_eq_true_eq]; omega
  have e0 : ((((u % 18446744073709551616).toNat + (v % 18446744073709551616).toNat + Int.toNat 0) / 18446744073709551616 : Nat) : Int).toNat = ((u % 18446744073709551616).toNat + (v % 18446744073709551616).toNat + Int.toNat 0) / 18446744073709551616 := by omega
  rw [e0, h1]
  simp only [cond_true, Option.bind_some]
  have key : IntKind.i64.wrap (((((IntKind.u64.wrap (u / 18446744073709551616)).toNat + (IntKind.u64.wrap (v / 18446744073709551616)).toNat + ((u % 18446744073709551616).toNat + (v % 18446744073709551616).toNat + Int.toNat 0) / 18446744073709551616) % 18446744073709551616 : Nat) : Int)) < 0 := by
    rw [u64m, u64m, i64m]
    omega
  rw [decide_eq_true key, decide_eq_false (show ¬ u / 18446744073709551616 < 0 by omega), decide_eq_false (show ¬ v / 18446744073709551616 < 0 by omega)]
  rfl
def sqs : List Int → Int
  | [] => 0
  | a :: l => a * a + sqs l
theorem sqs_nn : ∀ l, 0 ≤ sqs l
  | [] => Int.le_refl 0
  | a :: l => Int.add_nonneg (sq_nn a) (sqs_nn l)
theorem sq64 {a : Int} (h : I64 a) : a * a ≤ 85070591730234615865843651857942052864 := by
  unfold I64 at h
  have := prod_le (a := a) (b := a) (A := 9223372036854775808) (B := 9223372036854775808) (by omega) (by omega)
  omega
theorem len_loop (N : Nat) (m : MT) (l : List Int) (k : Bool → Int → Int → Option (MT × (Int × Unit))) (hl : ∀ a ∈ l, I64 a) (hlen : l.length ≤ 1000) : ∀ (j n i : Nat) (S : Int), i + j = l.length → j < n → 0 ≤ S → S < 170141183460469231731687303715884105728 →
    (S + sqs (l.drop i) < 170141183460469231731687303715884105728 ∧ law68o0 N m (l, ()) k n true i (wd S).1 (wd S).2.1 = k true (wd (S + sqs (l.drop i))).1 (wd (S + sqs (l.drop i))).2.1) ∨ (¬ S + sqs (l.drop i) < 170141183460469231731687303715884105728 ∧ law68o0 N m (l, ()) k n true i (wd S).1 (wd S).2.1 = k false 0 0)
  | _, 0, _, _, _, h, _, _ => by omega
  | 0, n + 1, i, S, h1, h2, h3, h4 => by
    left
    rw [List.drop_eq_nil_of_le (by omega)]
    simp only [sqs, Int.add_zero]
    refine ⟨h4, ?_⟩
    conv => lhs; unfold law68o0
    exact bifF (by rw [decide_eq_false_iff_not]; simp only; omega)
  | j + 1, n + 1, i, S, h1, h2, h3, h4 => by
    have hi : i < l.length := by omega
    have ha := hl _ (List.getElem_mem hi)
    have hs := sq64 ha
    have h0 := sq_nn l[i]
    rw [List.drop_eq_getElem_cons hi]
    simp only [sqs]
    have e2 : fn70 (l[i], l[i], ()) = some (wd (l[i] * l[i]), ()) := mul39 (l[i], l[i], ()) ha ha
    have head : ∀ (X : Option (MT × (Int × Unit))) (f : IntT × Bool × Unit → Option (MT × (Int × Unit))), True := fun _ _ => trivial
    by_cases hf : S + l[i] * l[i] < 170141183460469231731687303715884105728
    · have e3 : fn71 (wd S, wd (l[i] * l[i]), ()) = some (wd (S + l[i] * l[i]), true, ()) := add33 S (l[i] * l[i]) (by unfold I128; omega) (by unfold I128; omega) (by unfold I128; omega)
      have step : law68o0 N m (l, ()) k (n + 1) true i (wd S).1 (wd S).2.1 = law68o0 N m (l, ()) k n true ((i + 1 : Nat) : Int) (wd (S + l[i] * l[i])).1 (wd (S + l[i] * l[i])).2.1 := by
        conv => lhs; unfold law68o0
        refine (bifT (by rw [decide_eq_true_eq]; simp only; omega)).trans ((bifT (by rw [Bool.and_eq_true, decide_eq_true_eq, decide_eq_true_eq]; simp only; omega)).trans ((bindT (v := l[i]) (by rw [Int.toNat_natCast]; exact List.getElem?_eq_getElem hi)).trans ((bindT e2).trans ((bindT e3).trans ((bifF rfl).trans ?_)))))
        rw [show IntKind.i64.wrap ((i : Int) + 1) = ((i + 1 : Nat) : Int) from by rw [IntKind.wrap_i64]; omega]
      rw [step]
      have ih := len_loop N m l k hl hlen j n (i + 1) (S + l[i] * l[i]) (by omega) (by omega) (by omega) hf
      rw [Int.add_assoc] at ih
      exact ih
    · right
      refine ⟨by have := sqs_nn (l.drop (i + 1)); omega, ?_⟩
      have e3 : fn71 (wd S, wd (l[i] * l[i]), ()) = some ((0, 0, ()), false, ()) := add71o S (l[i] * l[i]) ⟨h3, h4⟩ ⟨h0, by omega⟩ hf
      conv => lhs; unfold law68o0
      exact (bifT (by rw [decide_eq_true_eq]; simp only; omega)).trans ((bifT (by rw [Bool.and_eq_true, decide_eq_true_eq, decide_eq_true_eq]; simp only; omega)).trans ((bindT (v := l[i]) (by rw [Int.toNat_natCast]; exact List.getElem?_eq_getElem hi)).trans ((bindT e2).trans ((bindT e3).trans (bifT rfl)))))
theorem len68 (N : Nat) (hN : 1001 ≤ N) (o : Bool) (l : List Int) (hl : ∀ a ∈ l, I64 a) (hlen : l.length ≤ 1000) : ∃ p : Bool × Int, law68 N (o, ()) (l, ()) = some (res p) ∧ I64 p.2 ∧ (sqs l ≤ 1267650600228229401496703205376 → p.1 = o ∧ 0 ≤ p.2 ∧ p.2 * p.2 ≤ sqs l ∧ sqs l < (p.2 + 1) * (p.2 + 1)) := by
  unfold law68
  have z : wd 0 = (0, 0, ()) := rfl
  have hnn := sqs_nn l
  rcases len_loop N (o, ()) l _ hl hlen l.length N 0 0 (by omega) (by omega) (Int.le_refl 0) (by decide) with ⟨h1, h2⟩ | ⟨h1, h2⟩
  · simp only [List.drop_zero, Int.zero_add] at h1 h2
    obtain ⟨r, e5, r0, r1, r2, r3⟩ := root39 (sqs l) ⟨hnn, h1⟩
    by_cases hr : r > 9223372036854775807
    · refine ⟨(true, 9223372036854775807), h2.trans ((bindT e5).trans ((bifF rfl).trans (bifT (by rw [decide_eq_true_eq]; exact hr)))), by unfold I64; decide, fun hs => ?_⟩
      exfalso
      have : (9223372036854775808 : Int) * 9223372036854775808 ≤ r * r := Int.mul_le_mul (by omega) (by omega) (by decide) (by omega)
      omega
    · refine ⟨(o, r), h2.trans ((bindT e5).trans ((bifF rfl).trans ((bifF (by rw [decide_eq_false_iff_not]; exact hr)).trans ?_))), by unfold I64; simp only; omega, fun hs => ⟨rfl, r0, r2, r3⟩⟩
      rw [i64_in r (by omega)]; rfl
  · simp only [List.drop_zero, Int.zero_add] at h1 h2
    obtain ⟨r, e5, _⟩ := root39 0 (by omega)
    refine ⟨(true, 9223372036854775807), h2.trans ((bindT e5).trans (bifT rfl)), by unfold I64; decide, fun hs => ?_⟩
    exfalso; omega
theorem sq_le {a r : Int} (h : a * a < (r + 1) * (r + 1)) (hr : 0 ≤ r) : -r ≤ a ∧ a ≤ r := by
  constructor
  · rcases Int.lt_or_le a (-r) with h1 | h1
    · have this : (r + 1) * (r + 1) ≤ -a * -a := Int.mul_le_mul (by omega) (by omega) (by omega) (by omega)
      have e : -a * -a = a * a := Int.neg_mul_neg a a
      rw [e] at this; omega
    · exact h1
  · rcases Int.lt_or_le r a with h1 | h1
    · have this : (r + 1) * (r + 1) ≤ a * a := Int.mul_le_mul (by omega) (by omega) (by omega) (by omega)
      omega
    · exact h1
theorem sq39 {a : Int} (h : -549755813888 ≤ a ∧ a ≤ 549755813888) : a * a ≤ 302231454903657293676544 := by
  have := prod_le (a := a) (b := a) (A := 549755813888) (B := 549755813888) (by omega) (by omega)
  omega
/-- A length within bounds. -/
theorem len28 (o : Bool) (x y z : Int) (hx : -549755813888 ≤ x ∧ x ≤ 549755813888) (hy : -549755813888 ≤ y ∧ y ≤ 549755813888) (hz : -549755813888 ≤ z ∧ z ≤ 549755813888) :
    ∃ r, fn28 (o, ()) ((x, y, z, ()), ()) = some (res (o, r)) ∧ 0 ≤ r ∧ r ≤ 1099511627776 ∧ (-r ≤ x ∧ x ≤ r) ∧ (-r ≤ y ∧ y ≤ r) ∧ (-r ≤ z ∧ z ≤ r) := by
  have sx := sq39 hx; have sy := sq39 hy; have sz := sq39 hz
  have nx := sq_nn x; have ny := sq_nn y; have nz := sq_nn z
  have es : sqs [x, y, z] = x * x + (y * y + (z * z + 0)) := rfl
  obtain ⟨⟨o', r⟩, h1, _, h2⟩ := len68 (10 ^ 30) (by decide) o [x, y, z] (by intro a ha; simp only [List.mem_cons, List.not_mem_nil, or_false] at ha; unfold I64; omega) (by simp)
  obtain ⟨k1, k2, k3, k4⟩ := h2 (by omega)
  simp only at k1 k2 k3 k4
  subst k1
  have h1 : fn68 (o', ()) ([x, y, z], ()) = some (res (o', r)) := h1
  refine ⟨r, ?_, k2, ?_, sq_le (by omega) k2, sq_le (by omega) k2, sq_le (by omega) k2⟩
  · show law28 _ _ = _
    unfold law28
    have e74 : fn74 (o', ()) (x, y, z, ()) = some (res (o', r)) := by
      show law74 _ _ = _
      unfold law74
      exact (bindT h1).trans rfl
    exact (bindT e74).trans rfl
  · rcases Int.lt_or_le 1099511627776 r with h | h
    · exfalso
      have : (1099511627776 : Int) * 1099511627776 ≤ r * r := Int.mul_le_mul (by omega) (by omega) (by decide) (by omega)
      omega
    · exact h
theorem mulV_pp {a b : Int} (ha : a ≤ 0) (hb : b ≤ 0) : 0 ≤ mulV a b := rnd_nonneg (by decide) (Int.mul_nonneg_of_nonpos_of_nonpos ha hb)
/-- What the air's table tells. -/
theorem airT {c : Car} (hv : (rightR c).1 = 0) (r : Int) : (evalS false (c.snd.snd.snd.snd.snd.snd.snd.fst) r).1 = false ∧ 0 ≤ (evalS false (c.snd.snd.snd.snd.snd.snd.snd.fst) r).2 ∧ (evalS false (c.snd.snd.snd.snd.snd.snd.snd.fst) r).2 ≤ 140737488355328 ∧ List.length (c.snd.snd.snd.snd.snd.snd.snd.fst) ≤ 32 := by
  have h := rightR_zero hv (valR (fun _ => true) (c.snd.snd.snd.snd.snd.snd.snd.fst) 0 140737488355328) (by simp [allR])
  generalize (c.snd.snd.snd.snd.snd.snd.snd.fst : List Dot) = l at h ⊢
  unfold valR at h
  cases ht : (tabR l != 0)
  · rw [ht] at h
    simp only [cond_false] at h
    cases ha : (l.any (fun d => decide (d.2.1 < 0) || decide (d.2.1 > 140737488355328) || !true))
    · have hR := right13 ht
      obtain ⟨e1, e2, e3⟩ := hR.eval false r
      obtain ⟨c1, _, _⟩ := hR.cell r
      have hY : ∀ i, i < l.length → 0 ≤ tY l i ∧ tY l i ≤ 140737488355328 := fun i hi => by
        have hm := nth_mem (l := l) hi
        have := (List.any_eq_false.1 ha) _ hm
        simp only [Bool.not_true, Bool.or_false, Bool.or_eq_true, decide_eq_true_eq, not_or] at this
        unfold tY; omega
      have y0 := hY (cellV l r) (by omega)
      have y1 := hY (cellV l r + 1) c1
      refine ⟨e1, ?_, ?_, hR.most⟩
      · rcases Int.le_total (tY l (cellV l r)) (tY l (cellV l r + 1)) with hh | hh
        · have := e2 hh; omega
        · have := e3 hh; omega
      · rcases Int.le_total (tY l (cellV l r)) (tY l (cellV l r + 1)) with hh | hh
        · have := e2 hh; omega
        · have := e3 hh; omega
    · rw [ha] at h; exact absurd h (by decide)
  · rw [ht] at h
    simp only [cond_true] at h
    rw [h] at ht; exact absurd ht (by decide)
theorem air11 (c : Car) (hok : OkC c) (hf : FewC c) (hv : (rightR c).1 = 0) (x y z : Int) (hx : -549755813888 ≤ x ∧ x ≤ 549755813888) (hy : -549755813888 ≤ y ∧ y ≤ 549755813888) (hz : -549755813888 ≤ z ∧ z ≤ 549755813888) :
    ∃ a b d : Int, fn11 (false, ()) (c, (x, y, z, ()), ()) = some ((false, ()), (a, b, d, ()), ()) ∧ ((0 ≤ x → a ≤ 0) ∧ (x ≤ 0 → 0 ≤ a)) ∧ ((0 ≤ y → b ≤ 0) ∧ (y ≤ 0 → 0 ≤ b)) ∧ ((0 ≤ z → d ≤ 0) ∧ (z ≤ 0 → 0 ≤ d)) := by
  obtain ⟨r, e28, r0, r1, bx, by_, bz⟩ := len28 false x y z hx hy hz
  show ∃ a b d : Int, law11 _ _ = _ ∧ _
  unfold law11
  by_cases h0 : r = 0
  · subst h0
    exact ⟨0, 0, 0, (bindT e28).trans ((bifT rfl).trans rfl), by omega, by omega, by omega⟩
  · have hr : 0 < r := by omega
    have dv : ∀ v : Int, -r ≤ v ∧ v ≤ r → fn54 (false, ()) (v, r, ()) = some (res (false, divV v r)) ∧ -4294967296 ≤ divV v r ∧ divV v r ≤ 4294967296 ∧ (0 ≤ v → 0 ≤ divV v r) ∧ (v ≤ 0 → divV v r ≤ 0) := fun v hv => by
      have b := divV_in (a := v) (b := r) (A := r) (b0 := r) (k := 4294967296) hv (Int.le_refl _) hr (by decide) (by omega)
      refine ⟨?_, b.1, b.2, divV_pos hr, divV_neg hr⟩
      have e : divS false v r = (false, divV v r) := divF hr (by unfold I64; omega)
      rw [div30 (false, ()) (v, r, ()) (show I64 v by unfold I64; omega) (show I64 r by unfold I64; omega)]
      show some (res (divS false v r)) = _
      rw [e]
    obtain ⟨t1, t2, t3, t4⟩ := airT hv r
    have e32 : fn32 (false, ()) ((c.snd.snd.snd.snd.snd.snd.snd.fst : List Dot), r, ()) = some (res (false, (evalS false (c.snd.snd.snd.snd.snd.snd.snd.fst) r).2)) := by
      rw [eval10 (false, ()) ((c.snd.snd.snd.snd.snd.snd.snd.fst : List Dot), r, ()) (by simp only; omega) hok.air (show I64 r by unfold I64; omega)]
      exact congrArg (fun p => some (res p)) (Prod.ext t1 rfl : evalS false (c.snd.snd.snd.snd.snd.snd.snd.fst) r = (false, (evalS false (c.snd.snd.snd.snd.snd.snd.snd.fst) r).2))
    generalize (evalS false (c.snd.snd.snd.snd.snd.snd.snd.fst) r).2 = e at t2 t3 e32
    have e31 : fn31 (false, ()) (e, ()) = some (res (false, 0 - e)) := by
      have k : subS false 0 e = (false, 0 - e) := subF (by unfold I64; omega)
      rw [neg29 (false, ()) (e, ()) (show I64 e by unfold I64; omega)]
      show some (res (subS false 0 e)) = _
      rw [k]
    obtain ⟨d1, d2, d3, d4, d5⟩ := dv x bx
    obtain ⟨f1, f2, f3, f4, f5⟩ := dv y by_
    obtain ⟨g1, g2, g3, g4, g5⟩ := dv z bz
    generalize divV x r = p at d1 d2 d3 d4 d5
    generalize divV y r = q at f1 f2 f3 f4 f5
    generalize divV z r = s at g1 g2 g3 g4 g5
    have mu : ∀ v : Int, -4294967296 ≤ v ∧ v ≤ 4294967296 → fn40 (false, ()) (v, 0 - e, ()) = some (res (false, mulV v (0 - e))) := fun v hv => by
      have b := mulV_in (a := v) (b := 0 - e) (A := 4294967296) (B := 140737488355328) (k := 140737488355328) hv (by omega) (by decide) (by decide) (by decide)
      have k : mulS false v (0 - e) = (false, mulV v (0 - e)) := mulF (by unfold I64; omega)
      rw [mul20 (false, ()) (v, 0 - e, ()) (show I64 v by unfold I64; omega) (show I64 (0 - e) by unfold I64; omega)]
      show some (res (mulS false v (0 - e))) = _
      rw [k]
    have e30 : fn30 (false, ()) ((x, y, z, ()), r, ()) = some ((false, ()), (p, q, s, ()), ()) := by
      show law30 _ _ = _
      unfold law30
      exact (bindT d1).trans ((bindT f1).trans ((bindT g1).trans rfl))
    have e29 : fn29 (false, ()) ((p, q, s, ()), 0 - e, ()) = some ((false, ()), (mulV p (0 - e), mulV q (0 - e), mulV s (0 - e), ()), ()) := by
      show law29 _ _ = _
      unfold law29
      exact (bindT (mu p ⟨d2, d3⟩)).trans ((bindT (mu q ⟨f2, f3⟩)).trans ((bindT (mu s ⟨g2, g3⟩)).trans rfl))
    refine ⟨mulV p (0 - e), mulV q (0 - e), mulV s (0 - e), ?_, ⟨fun h => mulV_neg (d4 h) (by omega), fun h => mulV_pp (d5 h) (by omega)⟩, ⟨fun h => mulV_neg (f4 h) (by omega), fun h => mulV_pp (f5 h) (by omega)⟩, ⟨fun h => mulV_neg (g4 h) (by omega), fun h => mulV_pp (g5 h) (by omega)⟩⟩
    refine (bindT e28).trans ((bifF ?_).trans ((bindT e30).trans ((bindT e32).trans ((bindT e31).trans ((bindT e29).trans rfl)))))
    show (r == 0) = false
    simpa using h0
end Go.Proofs.YtkgoflpkdcdajaaGreat
