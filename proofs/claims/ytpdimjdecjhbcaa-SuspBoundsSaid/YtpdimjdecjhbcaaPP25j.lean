/- Plain Lean: what the laws of this program's functions come to, in numbers and lists; no program is run here. -/
import Derived.Test.YtpdimjdecjhbcaaPP25i
set_option linter.unusedVariables false
set_option linter.unusedSimpArgs false
set_option maxRecDepth 100000
namespace Go.Proofs.Ytpdimjdecjhbcaa
open Go Go.Ab Go.Proofs Go.IntWalk
/- SuspBounds in plain Lean (r25). -/
theorem bifD {β : Type} {p : Prop} [Decidable p] {A X R : Option β} (hA : A = R) (hX : ¬p → X = R) : (bif decide p then A else X) = R := by
  by_cases h : p
  · rw [decide_eq_true h]; exact hA
  · rw [decide_eq_false h]; exact hX h
theorem loop1 {β : Type} (N0 N1 n : Nat) (x : CarT × F4 × F4 × Unit) (k0 k1 R : Option β) (h0 : k0 = R) (h1 : (0 ≤ (x.snd.fst).fst ∧ (x.snd.fst).fst ≤ 8589934592) → (0 ≤ (x.snd.fst).snd.fst ∧ (x.snd.fst).snd.fst ≤ 8589934592) → (0 ≤ (x.snd.fst).snd.snd.fst ∧ (x.snd.fst).snd.snd.fst ≤ 8589934592) → (0 ≤ (x.snd.fst).snd.snd.snd.fst ∧ (x.snd.fst).snd.snd.snd.fst ≤ 8589934592) → k1 = R) : law6o0 N0 N1 x k0 k1 (n + 5) = R := by
  simp only [law6o0, law6o0o91, law6o0o92, law6o0o93, law6o0o94]
  exact bifD h0 fun a0 => bifD h0 fun a1 => bifD h0 fun _ => bifD h0 fun _ => bifD h0 fun b0 => bifD h0 fun b1 => bifD h0 fun _ => bifD h0 fun _ => bifD h0 fun c0 => bifD h0 fun c1 => bifD h0 fun _ => bifD h0 fun _ => bifD h0 fun d0 => bifD h0 fun d1 => bifD h0 fun _ => bifD h0 fun _ => h1 (by omega) (by omega) (by omega) (by omega)
theorem step2 {β : Type} {o l : Int} {A X R : Option β} (h0 : 0 ≤ o ∧ o ≤ 1125899906842624) (h2 : l = 0 → o = 0) (hX : X = R) : (bif decide (o < 0) then A else (bif decide (o > 1125899906842624) then A else (bif l == 0 then (bif o != 0 then A else X) else X))) = R := by
  rw [decide_eq_false (by omega), decide_eq_false (by omega)]
  cases g : (l == 0)
  · exact hX
  · have := h2 (by simpa using g)
    rw [this]; exact hX
theorem loop2 {β : Type} (N0 N1 n : Nat) (x : CarT × F4 × F4 × Unit) (v : MT × (F4 × Unit)) (k0 k1 R : Option β) (h1 : k1 = R) (b0 : (0 ≤ (v.2.1).fst ∧ (v.2.1).fst ≤ 1125899906842624) ∧ ((x.snd.fst).fst = 0 → (v.2.1).fst = 0)) (b1 : (0 ≤ (v.2.1).snd.fst ∧ (v.2.1).snd.fst ≤ 1125899906842624) ∧ ((x.snd.fst).snd.fst = 0 → (v.2.1).snd.fst = 0)) (b2 : (0 ≤ (v.2.1).snd.snd.fst ∧ (v.2.1).snd.snd.fst ≤ 1125899906842624) ∧ ((x.snd.fst).snd.snd.fst = 0 → (v.2.1).snd.snd.fst = 0)) (b3 : (0 ≤ (v.2.1).snd.snd.snd.fst ∧ (v.2.1).snd.snd.snd.fst ≤ 1125899906842624) ∧ ((x.snd.fst).snd.snd.snd.fst = 0 → (v.2.1).snd.snd.snd.fst = 0)) : law6o1o1 N0 N1 x v k0 k1 (n + 5) = R := by
  simp only [law6o1o1, law6o1o1o91, law6o1o1o92, law6o1o1o93, law6o1o1o94]
  exact step2 b0.1 b0.2 (step2 b1.1 b1.2 (step2 b2.1 b2.2 (step2 b3.1 b3.2 h1)))
theorem mulV_abs {a b A B k : Int} (ha : -A ≤ a ∧ a ≤ A) (hb : -B ≤ b ∧ b ≤ B) (hA : 0 ≤ A) (hB : 0 ≤ B) (hk : A * B ≤ k * 4294967296) : -k ≤ mulV a b ∧ mulV a b ≤ k := by
  have h := prod_le (a := a) (b := b) (A := A.toNat) (B := B.toNat) (by omega) (by omega)
  have e : ((A.toNat * B.toNat : Nat) : Int) = A * B := by
    rw [Int.natCast_mul, Int.toNat_of_nonneg hA, Int.toNat_of_nonneg hB]
  rw [e] at h
  unfold mulV
  exact ⟨le_rnd (by decide) (by rw [Int.neg_mul]; omega), rnd_le (by decide) (by omega)⟩
theorem bars {c : Car} (h : ∀ v ∈ allR c, v = 0) : (0 ≤ (c.snd.snd.snd.fst).fst ∧ (c.snd.snd.snd.fst).fst ≤ 562949953421312) ∧ (0 ≤ (c.snd.snd.snd.fst).snd.fst ∧ (c.snd.snd.snd.fst).snd.fst ≤ 562949953421312) := by
  have hb : barsR c = 0 := h _ (by unfold allR; simp)
  have q := rangedR_zero hb
  exact ⟨q ((c.snd.snd.snd.fst).fst, 0, 562949953421312, ()) (by simp), q ((c.snd.snd.snd.fst).snd.fst, 0, 562949953421312, ()) (by simp)⟩
theorem bar_fits {c : Car} (h : ∀ v ∈ allR c, v = 0) (o : Bool) (i : Int) {l r : Int} (hl : 0 ≤ l ∧ l ≤ 8589934592) (hr : 0 ≤ r ∧ r ≤ 8589934592) : ∃ b, barS o c i l r = (o, b) ∧ -1125899906842624 ≤ b ∧ b ≤ 1125899906842624 := by
  obtain ⟨h0, h1⟩ := bars h
  unfold barS
  have es : subS o l r = (o, l - r) := satS_in (by unfold I64; omega)
  split
  · exact ⟨0, rfl, by decide, by decide⟩
  · rw [es]
    have hb : 0 ≤ (if i = 0 then (c.snd.snd.snd.fst).fst else (c.snd.snd.snd.fst).snd.fst) ∧ (if i = 0 then (c.snd.snd.snd.fst).fst else (c.snd.snd.snd.fst).snd.fst) ≤ 562949953421312 := by
      split
      · exact h0
      · exact h1
    generalize (if i = 0 then (c.snd.snd.snd.fst).fst else (c.snd.snd.snd.fst).snd.fst) = w at hb
    have m := mulV_abs (a := w) (b := l - r) (A := 562949953421312) (B := 8589934592) (k := 1125899906842624) (by omega) (by omega) (by decide) (by decide) (by decide)
    have hI : I64 (mulV w (l - r)) := by unfold I64; omega
    exact ⟨mulV w (l - r), satS_in hI, m⟩
theorem wheel_fits {c : Car} (h : ∀ v ∈ allR c, v = 0) (o : Bool) (i : Int) {l r p : Int} (v : Int) (add : Bool) (hl : 0 ≤ l ∧ l ≤ 8589934592) (hr : 0 ≤ r ∧ r ≤ 8589934592) (hp : 0 ≤ p ∧ p ≤ 8589934592) : (wheelS o c i l r p v add).1 = o ∧ ((0 ≤ (wheelS o c i l r p v add).2 ∧ (wheelS o c i l r p v add).2 ≤ 1125899906842624) ∧ (p = 0 → (wheelS o c i l r p v add).2 = 0)) := by
  unfold wheelS
  by_cases g : p ≤ 0
  · rw [if_pos g]; exact ⟨rfl, ⟨Int.le_refl _, (by decide : (0 : Int) ≤ 1125899906842624)⟩, fun _ => rfl⟩
  · rw [if_neg g]
    obtain ⟨b, e1, b1, b2⟩ := bar_fits h o (i / 2) hl hr
    have e2 := forceS_fits h o i p v hp.2
    have e3 := forceS_r o c i p v
    rw [e2] at e3
    simp only [e1, e2]
    generalize (if i < 0 ∨ i ≥ 4 ∨ p ≤ 0 then 0 else clampV (springR (wheelOf c i) p + evV (c.snd.snd.snd.snd.fst) v) 0 1125899906842624) = f at e3
    have e3 : 0 ≤ f ∧ f ≤ 1125899906842624 := e3
    refine ⟨?_, clampV_r _, fun e => absurd e (by omega)⟩
    cases add
    · show (subS o f b).1 = o
      rw [show subS o f b = (o, f - b) from satS_in (by unfold I64; omega)]
    · show (addS o f b).1 = o
      rw [show addS o f b = (o, f + b) from satS_in (by unfold I64; omega)]
theorem lx6 (N0 N1 : Nat) (hN0 : 100 ≤ N0) (hN1 : 100 ≤ N1) (x : CarT × F4 × F4 × Unit) (hc : OkC x.1) (hl : Ok4 (x.snd.fst)) (hs : Ok4 (x.snd.snd.fst)) : law6 N0 N1 x = some (true, ()) := by
  unfold law6
  obtain ⟨bb, hbb, hf⟩ := ex7 x.1 hc.steer hc.rate
  refine (bindSome hbb).trans ?_
  cases bb
  case false => rfl
  have hf := hf rfl
  have hd := hf.damper
  refine (bindSome (ex11 x.1 hf)).trans ?_
  show (bif (rightR x.1).1 != 0 then some (true, ()) else _) = _
  cases h0 : (rightR x.1).1 != 0
  case true => rfl
  have hv := rightR_zero (show (rightR x.1).1 = 0 by simpa using h0)
  refine bifF ?_
  obtain ⟨n0, en0⟩ : ∃ n, N0 = n + 5 := ⟨N0 - 5, by omega⟩
  obtain ⟨n1, en1⟩ : ∃ n, N1 = n + 5 := ⟨N1 - 5, by omega⟩
  have key : ∀ k, (∀ a0 a1 a2 a3 : Unit, (0 ≤ (x.snd.fst).fst ∧ (x.snd.fst).fst ≤ 8589934592) → (0 ≤ (x.snd.fst).snd.fst ∧ (x.snd.fst).snd.fst ≤ 8589934592) → (0 ≤ (x.snd.fst).snd.snd.fst ∧ (x.snd.fst).snd.snd.fst ≤ 8589934592) → (0 ≤ (x.snd.fst).snd.snd.snd.fst ∧ (x.snd.fst).snd.snd.snd.fst ≤ 8589934592) → k = (some (true, ()) : Option (Bool × Unit))) → law6o0 N0 N1 x (some (true, ())) k N0 = some (true, ()) := by
    intro k hk
    have := loop1 N0 N1 n0 x (some (true, ())) k (some (true, ())) rfl (hk () () () ())
    rw [← en0] at this
    exact this
  refine key _ fun _ _ _ _ l0 l1 l2 l3 => ?_
  simp only [decide_true, Bool.and_self, cond_true]
  refine (bindSome (loads8 (false, ()) x hc (by omega) hl hs)).trans ?_
  obtain ⟨p1, p2⟩ := wheel_fits hv false 0 ((x.snd.snd.fst).fst) true l0 l1 l0
  obtain ⟨q1, q2⟩ := wheel_fits hv (wheelS false x.1 0 ((x.snd.fst).fst) ((x.snd.fst).snd.fst) ((x.snd.fst).fst) ((x.snd.snd.fst).fst) true).1 1 ((x.snd.snd.fst).snd.fst) false l0 l1 l1
  generalize hA : wheelS false x.1 0 ((x.snd.fst).fst) ((x.snd.fst).snd.fst) ((x.snd.fst).fst) ((x.snd.snd.fst).fst) true = A at *
  obtain ⟨r1, r2⟩ := wheel_fits hv (wheelS A.1 x.1 1 ((x.snd.fst).fst) ((x.snd.fst).snd.fst) ((x.snd.fst).snd.fst) ((x.snd.snd.fst).snd.fst) false).1 2 ((x.snd.snd.fst).snd.snd.fst) true l2 l3 l2
  generalize hB : wheelS A.1 x.1 1 ((x.snd.fst).fst) ((x.snd.fst).snd.fst) ((x.snd.fst).snd.fst) ((x.snd.snd.fst).snd.fst) false = B at *
  obtain ⟨s1, s2⟩ := wheel_fits hv (wheelS B.1 x.1 2 ((x.snd.fst).snd.snd.fst) ((x.snd.fst).snd.snd.snd.fst) ((x.snd.fst).snd.snd.fst) ((x.snd.snd.fst).snd.snd.fst) true).1 3 ((x.snd.snd.fst).snd.snd.snd.fst) false l2 l3 l3
  generalize hD : wheelS B.1 x.1 2 ((x.snd.fst).snd.snd.fst) ((x.snd.fst).snd.snd.snd.fst) ((x.snd.fst).snd.snd.fst) ((x.snd.snd.fst).snd.snd.fst) true = D at *
  generalize hE : wheelS D.1 x.1 3 ((x.snd.fst).snd.snd.fst) ((x.snd.fst).snd.snd.snd.fst) ((x.snd.fst).snd.snd.snd.fst) ((x.snd.snd.fst).snd.snd.snd.fst) false = E at *
  have el : loadsS ((false, ()) : MT).1 x.1 (x.snd.fst) (x.snd.snd.fst) = (E.1, (A.2, B.2, D.2, E.2, ())) := by
    unfold loadsS
    simp only [hA, hB, hD, hE]
  rw [el]
  have := loop2 N0 N1 n1 x ((E.1, ()), (A.2, B.2, D.2, E.2, ()), ()) (some (false, ())) (bif !E.1 then some (true, ()) else some (false, ())) (some (true, ())) (by rw [s1, r1, q1, p1]; rfl) p2 q2 r2 s2
  rw [← en1] at this
  exact this
theorem true6 (x : CarT × F4 × F4 × Unit) (hc : OkC x.1) (hl : Ok4 (x.snd.fst)) (hs : Ok4 (x.snd.snd.fst)) : fn6 x = some (true, ()) := lx6 _ _ (by decide) (by decide) x hc hl hs
theorem true6o (y : Sh.Ts [CarSh, .st [.int .i64, .int .i64, .int .i64, .int .i64], .st [.int .i64, .int .i64, .int .i64, .int .i64]]) (hy : Sh.oks [CarSh, .st [.int .i64, .int .i64, .int .i64, .int .i64], .st [.int .i64, .int .i64, .int .i64, .int .i64]] y) : fn6 y = some (true, ()) := true6 y (okC hy.1) (ok4 hy.2.1) (ok4 hy.2.2.1)
end Go.Proofs.Ytpdimjdecjhbcaa
