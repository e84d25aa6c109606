/- Plain Lean: what the laws of this program's functions come to, in numbers and lists; no program is run here. -/
import Derived.Test.YtiikkepnpidilaaPP24h
set_option linter.unusedVariables false
set_option linter.unusedSimpArgs false
set_option maxRecDepth 100000
namespace Go.Proofs.Ytiikkepnpidilaa
open Go Go.Ab Go.Proofs Go.IntWalk
/- BrakeWhirl in plain Lean (r24). -/
def turnS (o : Bool) (a b t : Int) : Bool × Int := mulS (divS o a b).1 (divS o a b).2 t
def clampV (a lo hi : Int) : Int := if a < lo then lo else if a > hi then hi else a
def driveS (o : Bool) (w a b t : Int) : Bool × Int := ((addS (turnS o a b t).1 w (turnS o a b t).2).1, clampV (addS (turnS o a b t).1 w (turnS o a b t).2).2 (-17592186044416) 17592186044416)
def slowS (o : Bool) (w a b t : Int) : Bool × Int :=
  let p := turnS o a b t
  let q := absS p.1 p.2
  let r := absS q.1 w
  if r.2 ≤ q.2 then (r.1, 0) else if w < 0 then addS r.1 w q.2 else subS r.1 w q.2
theorem turnS_r (o : Bool) (a b t : Int) : I64 (turnS o a b t).2 := mulS_r _ _ _
theorem turned15 (m : MT) (x : Int × Int × Int × Unit) (h1 : I64 x.1) (h2 : I64 x.2.1) (h3 : I64 x.2.2.1) : fn15 m x = some (res (turnS m.1 x.1 x.2.1 x.2.2.1)) := by
  unfold fn15 law15
  simp only [div30, mul20, divS_r, h1, h2, h3, Option.bind_some, res_1, res_2]
  rfl
theorem clamp37 (x : Int × Int × Int × Unit) : fn37 x = some (clampV x.1 x.2.1 x.2.2.1, ()) := by
  unfold fn37 law37 clampV
  by_cases h1 : x.1 < x.2.1 <;> by_cases h2 : x.1 > x.2.2.1 <;> simp [h1, h2]
theorem clamp40 (x : Int × Int × Int × Unit) : fn40 x = some (clampV x.1 x.2.1 x.2.2.1, ()) := by
  unfold fn40 law40 clampV
  by_cases h1 : x.1 < x.2.1 <;> by_cases h2 : x.1 > x.2.2.1 <;> simp [h1, h2]
theorem drive19 (m : MT) (x : Int × Int × Int × Int × Unit) (h0 : I64 x.1) (h1 : I64 x.2.1) (h2 : I64 x.2.2.1) (h3 : I64 x.2.2.2.1) : fn19 m x = some (res (driveS m.1 x.1 x.2.1 x.2.2.1 x.2.2.2.1)) := by
  unfold fn19 law19
  simp only [turned15, add38, clamp37, turnS_r, addS_r, h0, h1, h2, h3, Option.bind_some, res_1, res_2]
  rfl
theorem drive21 (m : Mx1T) (x : Int × Int × Int × Int × Unit) (h0 : I64 x.1) (h1 : I64 x.2.1) (h2 : I64 x.2.2.1) (h3 : I64 x.2.2.2.1) : fn21 m x = some (res (driveS m.1 x.1 x.2.1 x.2.2.1 x.2.2.2.1)) := by
  unfold fn21 law21
  simp only [div42, mul23, add41, clamp40, mulS_r, divS_r, addS_r, h0, h1, h2, h3, Option.bind_some, res_1, res_2]
  rfl
theorem slow6 (m : MT) (x : Int × Int × Int × Int × Unit) (h0 : I64 x.1) (h1 : I64 x.2.1) (h2 : I64 x.2.2.1) (h3 : I64 x.2.2.2.1) : fn6 m x = some (res (slowS m.1 x.1 x.2.1 x.2.2.1 x.2.2.2.1)) := by
  unfold fn6 law6 slowS
  have hr := turnS_r m.1 x.2.1 x.2.2.1 x.2.2.2.1
  simp only [turned15, abs14, absS_i, turnS_r, h0, h1, h2, h3, Option.bind_some, res_1, res_2]
  have ha := absS_r (turnS m.1 x.2.1 x.2.2.1 x.2.2.2.1).1 (turnS m.1 x.2.1 x.2.2.1 x.2.2.2.1).2 hr
  generalize absS (turnS m.1 x.2.1 x.2.2.1 x.2.2.2.1).1 (turnS m.1 x.2.1 x.2.2.1 x.2.2.2.1).2 = q at *
  by_cases c1 : (absS q.1 x.1).2 ≤ q.2
  · simp only [c1, decide_true, cond_true, if_true]; rfl
  · simp only [c1, decide_false, cond_false, if_false]
    by_cases c2 : x.1 < 0
    · rw [decide_eq_true c2, if_pos c2, i64_in (0 - q.2) (by omega)]
      have hn : I64 (0 - q.2) := by unfold I64; omega
      simp only [cond_true, sub16, h0, hn, Option.bind_some, res_1, res_2]
      unfold subS addS
      rw [show x.1 - (0 - q.2) = x.1 + q.2 by omega]; rfl
    · rw [decide_eq_false c2, if_neg c2]
      have hn : I64 q.2 := by unfold I64; omega
      simp only [cond_false, sub16, h0, hn, Option.bind_some, res_1, res_2]
      rfl
theorem slow24 (m : Mx1T) (x : Int × Int × Int × Int × Unit) (h0 : I64 x.1) (h1 : I64 x.2.1) (h2 : I64 x.2.2.1) (h3 : I64 x.2.2.2.1) : fn24 m x = some (res (slowS m.1 x.1 x.2.1 x.2.2.1 x.2.2.2.1)) := by
  unfold fn24 law24 slowS
  have hr := turnS_r m.1 x.2.1 x.2.2.1 x.2.2.2.1
  have e : ∀ o a b t, mulS (divS o a b).1 (divS o a b).2 t = turnS o a b t := fun _ _ _ _ => rfl
  simp only [div42, mul23, abs46, absS_i, mulS_r, divS_r, e, hr, h0, h1, h2, h3, Option.bind_some, res_1, res_2]
  have ha := absS_r (turnS m.1 x.2.1 x.2.2.1 x.2.2.2.1).1 (turnS m.1 x.2.1 x.2.2.1 x.2.2.2.1).2 hr
  have hb : (absS (absS (turnS m.1 x.2.1 x.2.2.1 x.2.2.2.1).1 (turnS m.1 x.2.1 x.2.2.1 x.2.2.2.1).2).1 x.1).2 = 0 ∨ x.1 ≠ 0 := by
    by_cases h : x.1 = 0
    · left; rw [h]; rfl
    · exact .inr h
  generalize absS (turnS m.1 x.2.1 x.2.2.1 x.2.2.2.1).1 (turnS m.1 x.2.1 x.2.2.1 x.2.2.2.1).2 = q at *
  by_cases c1 : (absS q.1 x.1).2 ≤ q.2
  · simp only [c1, decide_true, cond_true, if_true]; rfl
  · simp only [c1, decide_false, cond_false, if_false]
    have hn : I64 q.2 := by unfold I64; omega
    by_cases c2 : x.1 < 0
    · rw [decide_eq_false (show ¬ x.1 > 0 by omega), if_pos c2]
      simp only [cond_false, add41, h0, hn, Option.bind_some, res_1, res_2]
      rfl
    · rw [decide_eq_true (show x.1 > 0 by omega), if_neg c2]
      simp only [cond_true, sub22, h0, hn, Option.bind_some, res_1, res_2]
      rfl
theorem driveS_r (o : Bool) (w a b t : Int) : I64 (driveS o w a b t).2 := by
  unfold driveS clampV I64
  simp only
  split
  · exact ⟨by decide, by decide⟩
  · split
    · exact ⟨by decide, by decide⟩
    · omega
def whirlS (o : Bool) (w : Whl) (n a b s t : Int) : Bool × Int :=
  let p := mulS o b (w.snd.fst)
  let q := subS p.1 a p.2
  let r := driveS q.1 n q.2 (w.snd.snd.fst) t
  slowS r.1 r.2 s (w.snd.snd.fst) t
def wheelOf (c : Car) (i : Int) : Whl := if i = 0 then (c.snd.snd.fst).fst else if i = 1 then (c.snd.snd.fst).snd.fst else if i = 2 then (c.snd.snd.fst).snd.snd.fst else (c.snd.snd.fst).snd.snd.snd.fst
theorem whirl9 (m : MT) (x : CarT × Int × Int × Int × Int × Int × Int × Unit) (hc : OkC x.1) (h2 : I64 (x.snd.snd.fst)) (h3 : I64 (x.snd.snd.snd.fst)) (h4 : I64 (x.snd.snd.snd.snd.fst)) (h5 : I64 (x.snd.snd.snd.snd.snd.fst)) (h6 : I64 (x.snd.snd.snd.snd.snd.snd.fst)) : fn9 m x = some (res (if x.snd.fst < 0 ∨ x.snd.fst ≥ 4 then (m.1, x.snd.snd.fst) else whirlS m.1 (wheelOf x.1 (x.snd.fst)) (x.snd.snd.fst) (x.snd.snd.snd.fst) (x.snd.snd.snd.snd.fst) (x.snd.snd.snd.snd.snd.fst) (x.snd.snd.snd.snd.snd.snd.fst))) := by
  obtain ⟨c, i, n, a, b, s, t, u⟩ := x
  have hc : OkC c := hc
  have h2 : I64 n := h2
  have h3 : I64 a := h3
  have h4 : I64 b := h4
  have h5 : I64 s := h5
  have h6 : I64 t := h6
  have r0 : I64 ((c.snd.snd.fst).fst).snd.fst := hc.w0.radius
  have r1 : I64 ((c.snd.snd.fst).snd.fst).snd.fst := hc.w1.radius
  have r2 : I64 ((c.snd.snd.fst).snd.snd.fst).snd.fst := hc.w2.radius
  have r3 : I64 ((c.snd.snd.fst).snd.snd.snd.fst).snd.fst := hc.w3.radius
  have n0 : I64 ((c.snd.snd.fst).fst).snd.snd.fst := hc.w0.inertia
  have n1 : I64 ((c.snd.snd.fst).snd.fst).snd.snd.fst := hc.w1.inertia
  have n2 : I64 ((c.snd.snd.fst).snd.snd.fst).snd.snd.fst := hc.w2.inertia
  have n3 : I64 ((c.snd.snd.fst).snd.snd.snd.fst).snd.snd.fst := hc.w3.inertia
  unfold fn9 law9
  simp only [mul20, sub16, drive19, slow6, mulS_r, subS_r, driveS_r, h2, h3, h4, h5, h6, r0, r1, r2, r3, n0, n1, n2, n3, Option.bind_some, res_1, res_2]
  by_cases c1 : i < 0
  · rw [decide_eq_true c1, if_pos (.inl c1)]; rfl
  by_cases c2 : i ≥ 4
  · rw [decide_eq_false c1, decide_eq_true c2, if_pos (.inr c2)]; rfl
  rw [decide_eq_false c1, decide_eq_false c2, if_neg (by omega)]
  have hi : i = 0 ∨ i = 1 ∨ i = 2 ∨ i = 3 := by omega
  rcases hi with rfl | rfl | rfl | rfl <;> rfl
theorem whirl10 (m : Mx1T) (x : CarT × Int × Int × Int × Int × Int × Int × Unit) (hc : OkC x.1) (h2 : I64 (x.snd.snd.fst)) (h3 : I64 (x.snd.snd.snd.fst)) (h4 : I64 (x.snd.snd.snd.snd.fst)) (h5 : I64 (x.snd.snd.snd.snd.snd.fst)) (h6 : I64 (x.snd.snd.snd.snd.snd.snd.fst)) : fn10 m x = some (res (if x.snd.fst < 0 ∨ x.snd.fst ≥ 4 then (m.1, x.snd.snd.fst) else whirlS m.1 (wheelOf x.1 (x.snd.fst)) (x.snd.snd.fst) (x.snd.snd.snd.fst) (x.snd.snd.snd.snd.fst) (x.snd.snd.snd.snd.snd.fst) (x.snd.snd.snd.snd.snd.snd.fst))) := by
  obtain ⟨c, i, n, a, b, s, t, u⟩ := x
  have hc : OkC c := hc
  have h2 : I64 n := h2
  have h3 : I64 a := h3
  have h4 : I64 b := h4
  have h5 : I64 s := h5
  have h6 : I64 t := h6
  have r0 : I64 ((c.snd.snd.fst).fst).snd.fst := hc.w0.radius
  have r1 : I64 ((c.snd.snd.fst).snd.fst).snd.fst := hc.w1.radius
  have r2 : I64 ((c.snd.snd.fst).snd.snd.fst).snd.fst := hc.w2.radius
  have r3 : I64 ((c.snd.snd.fst).snd.snd.snd.fst).snd.fst := hc.w3.radius
  have n0 : I64 ((c.snd.snd.fst).fst).snd.snd.fst := hc.w0.inertia
  have n1 : I64 ((c.snd.snd.fst).snd.fst).snd.snd.fst := hc.w1.inertia
  have n2 : I64 ((c.snd.snd.fst).snd.snd.fst).snd.snd.fst := hc.w2.inertia
  have n3 : I64 ((c.snd.snd.fst).snd.snd.snd.fst).snd.snd.fst := hc.w3.inertia
  unfold fn10 law10
  simp only [mul23, sub22, drive21, slow24, mulS_r, subS_r, driveS_r, h2, h3, h4, h5, h6, r0, r1, r2, r3, n0, n1, n2, n3, Option.bind_some, res_1, res_2]
  by_cases c1 : i < 0
  · rw [decide_eq_true c1, if_pos (.inl c1)]; rfl
  by_cases c2 : i > 3
  · rw [decide_eq_false c1, decide_eq_true c2, if_pos (.inr c2)]; rfl
  rw [decide_eq_false c1, decide_eq_false c2, if_neg (by omega)]
  have hi : i = 0 ∨ i = 1 ∨ i = 2 ∨ i = 3 := by omega
  rcases hi with rfl | rfl | rfl | rfl <;> rfl
theorem true4 (x : CarT × Int × (Int × Int × Int × Int × Int × Unit) × Unit) (hc : OkC x.1) (h : I64 ((x.snd.snd.fst).fst) ∧ I64 ((x.snd.snd.fst).snd.fst) ∧ I64 ((x.snd.snd.fst).snd.snd.fst) ∧ I64 ((x.snd.snd.fst).snd.snd.snd.fst) ∧ I64 ((x.snd.snd.fst).snd.snd.snd.snd.fst)) : fn4 x = some (true, ()) := by
  obtain ⟨c, i, ⟨n, a, b, s, t, u⟩, u2⟩ := x
  unfold fn4 law4
  obtain ⟨bb, hb, hf⟩ := ex8 c hc.steer hc.rate
  refine (bindSome hb).trans ?_
  cases bb
  case false => rfl
  refine (bindSome (whirl9 (false, ()) (c, i, n, a, b, s, t, u) hc h.1 h.2.1 h.2.2.1 h.2.2.2.1 h.2.2.2.2)).trans ((bindSome (whirl10 (false, ()) (c, i, n, a, b, s, t, u) hc h.1 h.2.1 h.2.2.1 h.2.2.2.1 h.2.2.2.2)).trans ?_)
  simp only [beq_self_eq_true, cond_true]
theorem true4o (y : Sh.Ts [CarSh, .int .i64, .st [.int .i64, .int .i64, .int .i64, .int .i64, .int .i64]]) (hy : Sh.oks [CarSh, .int .i64, .st [.int .i64, .int .i64, .int .i64, .int .i64, .int .i64]] y) : fn4 y = some (true, ()) :=
  true4 y (okC hy.1) ⟨okI hy.2.2.1.1, okI hy.2.2.1.2.1, okI hy.2.2.1.2.2.1, okI hy.2.2.1.2.2.2.1, okI hy.2.2.1.2.2.2.2.1⟩
end Go.Proofs.Ytiikkepnpidilaa
