/- Plain Lean: what the laws of this program's functions come to, in numbers and lists; no program is run here. -/
import Derived.Test.YtpdimjdecjhbcaaPP25h
set_option linter.unusedVariables false
set_option linter.unusedSimpArgs false
set_option maxRecDepth 100000
namespace Go.Proofs.Ytpdimjdecjhbcaa
open Go Go.Ab Go.Proofs Go.IntWalk
/- Springs, dampers, bars in plain Lean (r25). -/
/-- What of a number does not fit, and the nearest that does. -/
def ov (v : Int) : Bool := decide (v > 9223372036854775807) || decide (v < -9223372036854775808)
def sv (v : Int) : Int := (satS false v).2
theorem satS_eq (o : Bool) (v : Int) : satS o v = (o || ov v, sv v) := by
  unfold sv satS ov
  by_cases h1 : v > 9223372036854775807
  · simp [h1]
  · by_cases h2 : v < -9223372036854775808
    · simp [h1, h2]
    · simp [h1, h2]
theorem sv_r (v : Int) : I64 (sv v) := satS_range _ _
theorem sv_in {v : Int} (h : I64 v) : sv v = v := by unfold sv; rw [satS_in h]
theorem ov_in {v : Int} (h : I64 v) : ov v = false := by
  unfold I64 at h
  unfold ov
  rw [decide_eq_false (by omega), decide_eq_false (by omega)]; rfl
def dov (a b : Int) : Bool := (divS false a b).1
def dsv (a b : Int) : Int := (divS false a b).2
theorem divS_eq (o : Bool) (a b : Int) : divS o a b = (o || dov a b, dsv a b) := by
  unfold dov dsv divS
  split
  · simp
  · simp only [satS_eq, Bool.false_or]
def evO (l : List Dot) (x : Int) : Bool := (evalS false l x).1
def evV (l : List Dot) (x : Int) : Int := (evalS false l x).2
theorem evalS_eq (o : Bool) (l : List Dot) (x : Int) : evalS o l x = (o || evO l x, evV l x) := by
  unfold evO evV evalS
  split
  · simp
  · split
    · simp
    · split
      · simp
      · unfold stretchS mixS addS mulS subS
        simp only [satS_eq, divS_eq, Bool.or_assoc, Bool.false_or]
def lowS (o : Bool) (v : Int) : Bool × Int := (o, clampV v 0 1125899906842624)
theorem clampV_r (v : Int) : 0 ≤ clampV v 0 1125899906842624 ∧ clampV v 0 1125899906842624 ≤ 1125899906842624 := by
  unfold clampV
  split
  · omega
  · split <;> omega
theorem load_loop (N : Nat) (x : List Int × Unit) (hl : (x.1.length : Int) < 2 ^ 62) (hx : OkL x.1) : ∀ (n j : Nat) (a : Int) (o : Bool), j ≤ x.1.length → x.1.length - j < n → I64 a → law17o0 N x (fun w15 w16 => (Option.bind (fn15 (w15, 0, 1125899906842624, ())) fun v17 => some (((w16, ()), v17.fst, ())))) n a (j : Int) o = (some (res (lowS ((x.1.drop j).foldl (fun p v => addS p.1 p.2 v) (o, a)).1 ((x.1.drop j).foldl (fun p v => addS p.1 p.2 v) (o, a)).2)) : Option (MT × (Int × Unit)))
  | 0, j, a, o, _, h, _ => by omega
  | n + 1, j, a, o, hj, h, ha => by
    unfold law17o0
    by_cases c : j < x.1.length
    · have hv : x.1[j]? = some x.1[j] := List.getElem?_eq_getElem c
      have hi := hx _ (List.getElem_mem c)
      simp only [idx0, idxB hv, Bool.and_self, cond_true, Int.toNat_natCast, hv, Option.bind_some, add38, ha, hi, res_1, res_2]
      rw [wrapNat j (by omega), load_loop N x hl hx n (j + 1) _ _ (by omega) (by omega) (addS_r _ _ _), List.drop_eq_getElem_cons c, List.foldl_cons]
    · have hc : decide ((j : Int) < (x.1.length : Int)) = false := decide_eq_false (by omega)
      rw [hc, show j = x.1.length by omega, List.drop_length]
      simp only [cond_false, clamp37, Option.bind_some]
      rfl
theorem load17 (m : MT) (l : List Int) (u : Unit) (hl : (l.length : Int) < 2 ^ 62) (hx : OkL l) : fn17 m (l, u) = some (res (lowS (l.foldl (fun p v => addS p.1 p.2 v) (m.1, 0)).1 (l.foldl (fun p v => addS p.1 p.2 v) (m.1, 0)).2)) := by
  unfold fn17 law17
  exact load_loop _ (l, u) hl hx (10 ^ 30) 0 0 m.1 (Nat.zero_le _) (big30 _ (by show (l.length : Int) < _; omega)) I64_zero
theorem add_0 (o : Bool) (a : Int) (h : I64 a) : addS o 0 a = (o, a) := by unfold addS; rw [Int.zero_add, satS_in h]
theorem load2 (m : MT) (a b : Int) (u : Unit) (ha : I64 a) (hb : I64 b) : fn17 m ([a, b], u) = some (res (lowS (addS m.1 a b).1 (addS m.1 a b).2)) := by
  rw [load17 m [a, b] u (by simp) (by
    intro v hv
    have : v = a ∨ v = b := by simpa using hv
    rcases this with rfl | rfl
    · exact ha
    · exact hb)]
  simp only [List.foldl_cons, List.foldl_nil, add_0 _ _ ha]
theorem load3 (m : MT) (a b c : Int) (u : Unit) (ha : I64 a) (hb : I64 b) (hc : I64 c) : fn17 m ([a, b] ++ [c], u) = some (res (lowS (addS (addS m.1 a b).1 (addS m.1 a b).2 c).1 (addS (addS m.1 a b).1 (addS m.1 a b).2 c).2)) := by
  rw [load17 m ([a, b] ++ [c]) u (by simp) (by
    intro v hv
    have : v = a ∨ v = b ∨ v = c := by simpa using hv
    rcases this with rfl | rfl | rfl
    · exact ha
    · exact hb
    · exact hc)]
  simp only [List.cons_append, List.nil_append, List.foldl_cons, List.foldl_nil, add_0 _ _ ha]
/-- What a spring and its damper give: whether all fits; how much. -/
def springV (w : Whl) (p : Int) : Int := if p > w.snd.snd.snd.snd.fst then sv (sv (mulV (w.snd.snd.snd.fst) p) + sv (mulV (w.snd.snd.snd.snd.snd.fst) (sv (p - w.snd.snd.snd.snd.fst)))) else sv (mulV (w.snd.snd.snd.fst) p)
def springO (w : Whl) (p : Int) : Bool := ov (mulV (w.snd.snd.snd.fst) p) || (decide (p > w.snd.snd.snd.snd.fst) && (ov (p - w.snd.snd.snd.snd.fst) || (ov (mulV (w.snd.snd.snd.snd.snd.fst) (sv (p - w.snd.snd.snd.snd.fst))) || ov (sv (mulV (w.snd.snd.snd.fst) p) + sv (mulV (w.snd.snd.snd.snd.snd.fst) (sv (p - w.snd.snd.snd.snd.fst)))))))
def forceV (w : Whl) (d : List Dot) (p v : Int) : Int := clampV (sv (springV w p + evV d v)) 0 1125899906842624
def forceO (w : Whl) (d : List Dot) (p v : Int) : Bool := springO w p || (evO d v || ov (springV w p + evV d v))
theorem res_ext {b c : Bool} {v : Int} (h : b = c) : (some ((b, ()), v, ()) : Option ((Bool × Unit) × (Int × Unit))) = some (res (c, v)) := by rw [h]; rfl
theorem force_core12 (m : MT) (w : Whl) (d : List Dot) (p v : Int) (hw : OkW w) (hd : ∀ q ∈ d, OkD q) (hl : (d.length : Int) < 2 ^ 61) (hp : I64 p) (hv : I64 v) :
    (Option.bind (fn28 m (w.snd.snd.snd.fst, p, ())) fun v0 => (bif decide (p > w.snd.snd.snd.snd.fst) then (Option.bind (fn16 v0.fst (p, w.snd.snd.snd.snd.fst, ())) fun v1 => (Option.bind (fn28 v1.fst (w.snd.snd.snd.snd.snd.fst, v1.snd)) fun v2 => (Option.bind (fn29 v2.fst (d, v, ())) fun v3 => (Option.bind (fn17 v3.fst ([v0.snd.fst, v2.snd.fst] ++ [v3.snd.fst], ())) fun v4 => some (((v4.fst.fst, ()), v4.snd.fst, ())))))) else (Option.bind (fn29 v0.fst (d, v, ())) fun v5 => (Option.bind (fn17 v5.fst ([v0.snd.fst, v5.snd.fst], ())) fun v6 => some (((v6.fst.fst, ()), v6.snd.fst, ())))))) = (some (res (m.1 || forceO w d p v, forceV w d p v)) : Option (MT × (Int × Unit))) := by
  have h3 := hw.spring
  have h4 := hw.travel
  have h5 := hw.bump
  have e1 : ∀ m, fn29 m (d, v, ()) = some (res (evalS m.1 d v)) := fun m => eval10 m (d, v, ()) hl hd hv
  have e2 : ∀ o, I64 (evalS o d v).2 := fun o => evalS_r o d v hd
  by_cases c : p > w.snd.snd.snd.snd.fst
  · simp only [mul20, sub16, e1, e2, load3, mulS_r, subS_r, hp, hv, h3, h4, h5, decide_eq_true c, cond_true, Option.bind_some, res_1, res_2]
    simp only [forceO, forceV, springO, springV, lowS, if_pos c, decide_eq_true c, Bool.true_and, addS, subS, mulS, satS_eq, evalS_eq]
    refine res_ext ?_
    cases m.1 <;> cases ov (mulV (w.snd.snd.snd.fst) p) <;> cases ov (p - w.snd.snd.snd.snd.fst) <;> cases ov (mulV (w.snd.snd.snd.snd.snd.fst) (sv (p - w.snd.snd.snd.snd.fst))) <;> cases evO d v <;> simp
  · simp only [mul20, sub16, e1, e2, load2, mulS_r, subS_r, hp, hv, h3, h4, h5, decide_eq_false c, cond_false, Option.bind_some, res_1, res_2]
    simp only [forceO, forceV, springO, springV, lowS, if_neg c, decide_eq_false c, Bool.false_and, addS, subS, mulS, satS_eq, evalS_eq]
    refine res_ext ?_
    cases m.1 <;> cases ov (mulV (w.snd.snd.snd.fst) p) <;> cases evO d v <;> simp
theorem force_core19 (m : Mx1T) (w : Whl) (d : List Dot) (p v : Int) (hw : OkW w) (hd : ∀ q ∈ d, OkD q) (hl : (d.length : Int) < 2 ^ 61) (hp : I64 p) (hv : I64 v) :
    (Option.bind (fn36 m (w.snd.snd.snd.fst, p, ())) fun v0 => (bif decide (p > w.snd.snd.snd.snd.fst) then (Option.bind (fn21 v0.fst (p, w.snd.snd.snd.snd.fst, ())) fun v1 => (Option.bind (fn36 v1.fst (w.snd.snd.snd.snd.snd.fst, v1.snd)) fun v2 => (Option.bind (fn20 v2.fst (v0.snd.fst, v2.snd)) fun v3 => (Option.bind (fn37 v3.fst (d, v, ())) fun v4 => (Option.bind (fn20 v4.fst (v3.snd.fst, v4.snd)) fun v5 => (Option.bind (fn22 (v5.snd.fst, 0, 1125899906842624, ())) fun v6 => some (((v5.fst.fst, ()), v6.fst, ())))))))) else (Option.bind (fn37 v0.fst (d, v, ())) fun v7 => (Option.bind (fn20 v7.fst (v0.snd.fst, v7.snd)) fun v8 => (Option.bind (fn22 (v8.snd.fst, 0, 1125899906842624, ())) fun v9 => some (((v8.fst.fst, ()), v9.fst, ()))))))) = (some (res (m.1 || forceO w d p v, forceV w d p v)) : Option (Mx1T × (Int × Unit))) := by
  have h3 := hw.spring
  have h4 := hw.travel
  have h5 := hw.bump
  have e1 : ∀ m, fn37 m (d, v, ()) = some (res (evalS m.1 d v)) := fun m => eval11 m (d, v, ()) hl hd hv
  have e2 : ∀ o, I64 (evalS o d v).2 := fun o => evalS_r o d v hd
  by_cases c : p > w.snd.snd.snd.snd.fst
  · simp only [mul23, sub22, add41, e1, e2, clamp40, mulS_r, subS_r, addS_r, hp, hv, h3, h4, h5, decide_eq_true c, cond_true, Option.bind_some, res_1, res_2]
    simp only [forceO, forceV, springO, springV, lowS, if_pos c, decide_eq_true c, Bool.true_and, addS, subS, mulS, satS_eq, evalS_eq]
    refine res_ext ?_
    cases m.1 <;> cases ov (mulV (w.snd.snd.snd.fst) p) <;> cases ov (p - w.snd.snd.snd.snd.fst) <;> cases ov (mulV (w.snd.snd.snd.snd.snd.fst) (sv (p - w.snd.snd.snd.snd.fst))) <;> cases evO d v <;> simp
  · simp only [mul23, sub22, add41, e1, e2, clamp40, mulS_r, subS_r, addS_r, hp, hv, h3, h4, h5, decide_eq_false c, cond_false, Option.bind_some, res_1, res_2]
    simp only [forceO, forceV, springO, springV, lowS, if_neg c, decide_eq_false c, Bool.false_and, addS, subS, mulS, satS_eq, evalS_eq]
    refine res_ext ?_
    cases m.1 <;> cases ov (mulV (w.snd.snd.snd.fst) p) <;> cases evO d v <;> simp
def forceS (o : Bool) (c : Car) (i p v : Int) : Bool × Int := if i < 0 ∨ i ≥ 4 ∨ p ≤ 0 then (o, 0) else (o || forceO (wheelOf c i) (c.snd.snd.snd.snd.fst) p v, forceV (wheelOf c i) (c.snd.snd.snd.snd.fst) p v)
theorem forceS_r (o : Bool) (c : Car) (i p v : Int) : 0 ≤ (forceS o c i p v).2 ∧ (forceS o c i p v).2 ≤ 1125899906842624 := by
  unfold forceS
  split
  · show 0 ≤ (0 : Int) ∧ (0 : Int) ≤ _; exact ⟨by decide, by decide⟩
  · exact clampV_r _
theorem forceS_i (o : Bool) (c : Car) (i p v : Int) : I64 (forceS o c i p v).2 := by
  have := forceS_r o c i p v
  unfold I64; omega
theorem force12 (m : MT) (x : CarT × Int × Int × Int × Unit) (hc : OkC x.1) (hl : ((x.1.snd.snd.snd.snd.fst).length : Int) < 2 ^ 61) (hp : I64 (x.snd.snd.fst)) (hv : I64 (x.snd.snd.snd.fst)) : fn12 m x = some (res (forceS m.1 x.1 (x.snd.fst) (x.snd.snd.fst) (x.snd.snd.snd.fst))) := by
  obtain ⟨c, i, p, v, u⟩ := x
  have hc : OkC c := hc
  unfold fn12 law12
  show _ = some (res (forceS m.1 c i p v))
  unfold forceS
  simp only
  by_cases c1 : i < 0
  · rw [decide_eq_true c1, if_pos (.inl c1)]; rfl
  by_cases c2 : i ≥ 4
  · rw [decide_eq_false c1, decide_eq_true c2, if_pos (.inr (.inl c2))]; rfl
  by_cases c3 : p ≤ 0
  · rw [decide_eq_false c1, decide_eq_false c2, decide_eq_true c3, if_pos (.inr (.inr c3))]; rfl
  rw [decide_eq_false c1, decide_eq_false c2, decide_eq_false c3, if_neg (by omega)]
  have hi : i = 0 ∨ i = 1 ∨ i = 2 ∨ i = 3 := by omega
  rcases hi with rfl | rfl | rfl | rfl
  · exact force_core12 m ((c.snd.snd.fst).fst) (c.snd.snd.snd.snd.fst) p v hc.w0 hc.damper hl hp hv
  · exact force_core12 m ((c.snd.snd.fst).snd.fst) (c.snd.snd.snd.snd.fst) p v hc.w1 hc.damper hl hp hv
  · exact force_core12 m ((c.snd.snd.fst).snd.snd.fst) (c.snd.snd.snd.snd.fst) p v hc.w2 hc.damper hl hp hv
  · exact force_core12 m ((c.snd.snd.fst).snd.snd.snd.fst) (c.snd.snd.snd.snd.fst) p v hc.w3 hc.damper hl hp hv
theorem force19 (m : Mx1T) (x : CarT × Int × Int × Int × Unit) (hc : OkC x.1) (hl : ((x.1.snd.snd.snd.snd.fst).length : Int) < 2 ^ 61) (hp : I64 (x.snd.snd.fst)) (hv : I64 (x.snd.snd.snd.fst)) : fn19 m x = some (res (forceS m.1 x.1 (x.snd.fst) (x.snd.snd.fst) (x.snd.snd.snd.fst))) := by
  obtain ⟨c, i, p, v, u⟩ := x
  have hc : OkC c := hc
  unfold fn19 law19
  show _ = some (res (forceS m.1 c i p v))
  unfold forceS
  simp only
  by_cases c1 : i < 0
  · rw [decide_eq_true c1, if_pos (.inl c1)]; rfl
  by_cases c2 : i ≥ 4
  · rw [decide_eq_false c1, decide_eq_true (show i > 3 by omega), if_pos (.inr (.inl c2))]; rfl
  by_cases c3 : p ≤ 0
  · rw [decide_eq_false c1, decide_eq_false (show ¬ i > 3 by omega), decide_eq_true c3, if_pos (.inr (.inr c3))]; rfl
  rw [decide_eq_false c1, decide_eq_false (show ¬ i > 3 by omega), decide_eq_false c3, if_neg (by omega)]
  have hi : i = 0 ∨ i = 1 ∨ i = 2 ∨ i = 3 := by omega
  rcases hi with rfl | rfl | rfl | rfl
  · exact force_core19 m ((c.snd.snd.fst).fst) (c.snd.snd.snd.snd.fst) p v hc.w0 hc.damper hl hp hv
  · exact force_core19 m ((c.snd.snd.fst).snd.fst) (c.snd.snd.snd.snd.fst) p v hc.w1 hc.damper hl hp hv
  · exact force_core19 m ((c.snd.snd.fst).snd.snd.fst) (c.snd.snd.snd.snd.fst) p v hc.w2 hc.damper hl hp hv
  · exact force_core19 m ((c.snd.snd.fst).snd.snd.snd.fst) (c.snd.snd.snd.snd.fst) p v hc.w3 hc.damper hl hp hv
def barS (o : Bool) (c : Car) (i a b : Int) : Bool × Int := if i < 0 ∨ i ≥ 2 then (o, 0) else mulS (subS o a b).1 (if i = 0 then (c.snd.snd.snd.fst).fst else (c.snd.snd.snd.fst).snd.fst) (subS o a b).2
theorem barS_r (o : Bool) (c : Car) (i a b : Int) : I64 (barS o c i a b).2 := by
  unfold barS
  split
  · exact I64_zero
  · exact mulS_r _ _ _
theorem bar14 (m : MT) (x : CarT × Int × Int × Int × Unit) (hc : OkC x.1) (hp : I64 (x.snd.snd.fst)) (hv : I64 (x.snd.snd.snd.fst)) : fn14 m x = some (res (barS m.1 x.1 (x.snd.fst) (x.snd.snd.fst) (x.snd.snd.snd.fst))) := by
  obtain ⟨c, i, p, v, u⟩ := x
  have hc : OkC c := hc
  have h0 := hc.b0
  have h1 := hc.b1
  have hp : I64 p := hp
  have hv : I64 v := hv
  unfold fn14 law14
  show _ = some (res (barS m.1 c i p v))
  unfold barS
  simp only [sub16, mul20, subS_r, h0, h1, hp, hv, Option.bind_some, res_1, res_2]
  by_cases c1 : i < 0
  · rw [decide_eq_true c1, if_pos (.inl c1)]; rfl
  by_cases c2 : i ≥ 2
  · rw [decide_eq_false c1, decide_eq_true c2, if_pos (.inr c2)]; rfl
  rw [decide_eq_false c1, decide_eq_false c2, if_neg (by omega)]
  have hi : i = 0 ∨ i = 1 := by omega
  rcases hi with rfl | rfl <;> rfl
theorem bar18 (m : Mx1T) (x : CarT × Int × Int × Int × Unit) (hc : OkC x.1) (hp : I64 (x.snd.snd.fst)) (hv : I64 (x.snd.snd.snd.fst)) : fn18 m x = some (res (barS m.1 x.1 (x.snd.fst) (x.snd.snd.fst) (x.snd.snd.snd.fst))) := by
  obtain ⟨c, i, p, v, u⟩ := x
  have hc : OkC c := hc
  have h0 := hc.b0
  have h1 := hc.b1
  have hp : I64 p := hp
  have hv : I64 v := hv
  unfold fn18 law18
  show _ = some (res (barS m.1 c i p v))
  unfold barS
  simp only [sub22, mul23, subS_r, h0, h1, hp, hv, Option.bind_some, res_1, res_2]
  by_cases c1 : i < 0
  · rw [decide_eq_true c1, if_pos (.inl c1)]; rfl
  by_cases c2 : i ≥ 2
  · rw [decide_eq_false c1, decide_eq_true (show i > 1 by omega), if_pos (.inr c2)]; rfl
  rw [decide_eq_false c1, decide_eq_false (show ¬ i > 1 by omega), if_neg (by omega)]
  have hi : i = 0 ∨ i = 1 := by omega
  rcases hi with rfl | rfl <;> rfl
abbrev F4 := Int × Int × Int × Int × Unit
/-- One wheel's load: with the bar, or against it. -/
def wheelS (o : Bool) (c : Car) (i : Int) (l r p v : Int) (add : Bool) : Bool × Int :=
  if p ≤ 0 then (o, 0) else
    let b := barS o c (i / 2) l r
    let f := forceS b.1 c i p v
    let g := bif add then addS f.1 f.2 b.2 else subS f.1 f.2 b.2
    lowS g.1 g.2
def loadsS (o : Bool) (c : Car) (l s : F4) : Bool × F4 :=
  let a := wheelS o c 0 (l.fst) (l.snd.fst) (l.fst) (s.fst) true
  let b := wheelS a.1 c 1 (l.fst) (l.snd.fst) (l.snd.fst) (s.snd.fst) false
  let d := wheelS b.1 c 2 (l.snd.snd.fst) (l.snd.snd.snd.fst) (l.snd.snd.fst) (s.snd.snd.fst) true
  let e := wheelS d.1 c 3 (l.snd.snd.fst) (l.snd.snd.snd.fst) (l.snd.snd.snd.fst) (s.snd.snd.snd.fst) false
  (e.1, (a.2, b.2, d.2, e.2, ()))
structure Ok4 (l : F4) : Prop where
  i0 : I64 (l.fst)
  i1 : I64 (l.snd.fst)
  i2 : I64 (l.snd.snd.fst)
  i3 : I64 (l.snd.snd.snd.fst)
theorem w_1 : IntKind.i64.wrap (0 + 1) = 1 := by decide
theorem w_2 : IntKind.i64.wrap (1 + 1) = 2 := by decide
theorem w_3 : IntKind.i64.wrap (2 + 1) = 3 := by decide
theorem w_a : IntKind.i64.wrap (Int.tdiv 0 2) = 0 := by decide
theorem w_b : IntKind.i64.wrap (Int.tdiv 1 2) = 0 := by decide
theorem w_c : IntKind.i64.wrap (Int.tdiv 2 2) = 1 := by decide
theorem w_d : IntKind.i64.wrap (Int.tdiv 3 2) = 1 := by decide
theorem loads8 (m : MT) (x : CarT × F4 × F4 × Unit) (hc : OkC x.1) (hd : ((x.1.snd.snd.snd.snd.fst).length : Int) < 2 ^ 61) (hl : Ok4 (x.snd.fst)) (hs : Ok4 (x.snd.snd.fst)) : fn8 m x = some (((loadsS m.1 x.1 (x.snd.fst) (x.snd.snd.fst)).1, ()), (loadsS m.1 x.1 (x.snd.fst) (x.snd.snd.fst)).2, ()) := by
  obtain ⟨c, ⟨l0, l1, l2, l3, _⟩, ⟨s0, s1, s2, s3, _⟩, _⟩ := x
  obtain ⟨hl0, hl1, hl2, hl3⟩ := hl
  obtain ⟨hs0, hs1, hs2, hs3⟩ := hs
  have hc : OkC c := hc
  have hd : ((c.snd.snd.snd.snd.fst).length : Int) < 2 ^ 61 := hd
  have hl0 : I64 l0 := hl0
  have hl1 : I64 l1 := hl1
  have hl2 : I64 l2 := hl2
  have hl3 : I64 l3 := hl3
  have hs0 : I64 s0 := hs0
  have hs1 : I64 s1 := hs1
  have hs2 : I64 s2 := hs2
  have hs3 : I64 s3 := hs3
  unfold fn8 law8 loadsS wheelS
  by_cases c0 : l0 ≤ 0 <;> by_cases c1 : l1 ≤ 0 <;> by_cases c2 : l2 ≤ 0 <;> by_cases c3 : l3 ≤ 0 <;>
  simp only [c0, c1, c2, c3, if_true, if_false, decide_true, decide_false, cond_true, cond_false, w_1, w_2, w_3, w_a, w_b, w_c, w_d, bar14, force12, load2, sub16, clamp37, barS_r, forceS_i, subS_r, hc, hd, hl0, hl1, hl2, hl3, hs0, hs1, hs2, hs3, Option.bind_some, res_1, res_2] <;> rfl
theorem loads9 (m : Mx1T) (x : CarT × F4 × F4 × Unit) (hc : OkC x.1) (hd : ((x.1.snd.snd.snd.snd.fst).length : Int) < 2 ^ 61) (hl : Ok4 (x.snd.fst)) (hs : Ok4 (x.snd.snd.fst)) : fn9 m x = some (((loadsS m.1 x.1 (x.snd.fst) (x.snd.snd.fst)).1, ()), (loadsS m.1 x.1 (x.snd.fst) (x.snd.snd.fst)).2, ()) := by
  obtain ⟨c, ⟨l0, l1, l2, l3, _⟩, ⟨s0, s1, s2, s3, _⟩, _⟩ := x
  obtain ⟨hl0, hl1, hl2, hl3⟩ := hl
  obtain ⟨hs0, hs1, hs2, hs3⟩ := hs
  have hc : OkC c := hc
  have hd : ((c.snd.snd.snd.snd.fst).length : Int) < 2 ^ 61 := hd
  have hl0 : I64 l0 := hl0
  have hl1 : I64 l1 := hl1
  have hl2 : I64 l2 := hl2
  have hl3 : I64 l3 := hl3
  have hs0 : I64 s0 := hs0
  have hs1 : I64 s1 := hs1
  have hs2 : I64 s2 := hs2
  have hs3 : I64 s3 := hs3
  unfold fn9 law9 loadsS wheelS
  by_cases c0 : l0 ≤ 0 <;> by_cases c1 : l1 ≤ 0 <;> by_cases c2 : l2 ≤ 0 <;> by_cases c3 : l3 ≤ 0 <;>
  simp only [c0, c1, c2, c3, if_true, if_false, decide_true, decide_false, cond_true, cond_false, w_1, w_2, w_3, w_a, w_b, w_c, w_d, bar18, force19, sub22, add41, clamp40, barS_r, forceS_i, subS_r, addS_r, hc, hd, hl0, hl1, hl2, hl3, hs0, hs1, hs2, hs3, Option.bind_some, res_1, res_2] <;> rfl
end Go.Proofs.Ytpdimjdecjhbcaa
