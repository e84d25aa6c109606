/- Plain Lean: what the laws of this program's functions come to, in numbers and lists; no program is run here. -/
import Derived.Test.YtamdbejojnfoiaaPP17f
set_option linter.unusedVariables false
set_option linter.unusedSimpArgs false
set_option maxRecDepth 100000
namespace Go.Proofs.Ytamdbejojnfoiaa
open Go Go.Ab Go.Proofs Go.IntWalk
/- CarLess in plain Lean (r17). -/
def noGear (c : Car) (l : List Int) : Car := (c.fst, c.snd.fst, c.snd.snd.fst, c.snd.snd.snd.fst, c.snd.snd.snd.snd.fst, c.snd.snd.snd.snd.snd.fst, c.snd.snd.snd.snd.snd.snd.fst, c.snd.snd.snd.snd.snd.snd.snd.fst, c.snd.snd.snd.snd.snd.snd.snd.snd.fst, c.snd.snd.snd.snd.snd.snd.snd.snd.snd.fst, c.snd.snd.snd.snd.snd.snd.snd.snd.snd.snd.fst, c.snd.snd.snd.snd.snd.snd.snd.snd.snd.snd.snd.fst, c.snd.snd.snd.snd.snd.snd.snd.snd.snd.snd.snd.snd.fst, c.snd.snd.snd.snd.snd.snd.snd.snd.snd.snd.snd.snd.snd.fst, c.snd.snd.snd.snd.snd.snd.snd.snd.snd.snd.snd.snd.snd.snd.fst, c.snd.snd.snd.snd.snd.snd.snd.snd.snd.snd.snd.snd.snd.snd.snd.fst, l, c.snd.snd.snd.snd.snd.snd.snd.snd.snd.snd.snd.snd.snd.snd.snd.snd.snd)
def newDiff (c : Car) (d : Int) : Car := (c.fst, c.snd.fst, c.snd.snd.fst, c.snd.snd.snd.fst, c.snd.snd.snd.snd.fst, c.snd.snd.snd.snd.snd.fst, c.snd.snd.snd.snd.snd.snd.fst, c.snd.snd.snd.snd.snd.snd.snd.fst, c.snd.snd.snd.snd.snd.snd.snd.snd.fst, c.snd.snd.snd.snd.snd.snd.snd.snd.snd.fst, c.snd.snd.snd.snd.snd.snd.snd.snd.snd.snd.fst, c.snd.snd.snd.snd.snd.snd.snd.snd.snd.snd.snd.fst, c.snd.snd.snd.snd.snd.snd.snd.snd.snd.snd.snd.snd.fst, c.snd.snd.snd.snd.snd.snd.snd.snd.snd.snd.snd.snd.snd.fst, c.snd.snd.snd.snd.snd.snd.snd.snd.snd.snd.snd.snd.snd.snd.fst, c.snd.snd.snd.snd.snd.snd.snd.snd.snd.snd.snd.snd.snd.snd.snd.fst, c.snd.snd.snd.snd.snd.snd.snd.snd.snd.snd.snd.snd.snd.snd.snd.snd.fst, c.snd.snd.snd.snd.snd.snd.snd.snd.snd.snd.snd.snd.snd.snd.snd.snd.snd.fst, d, c.snd.snd.snd.snd.snd.snd.snd.snd.snd.snd.snd.snd.snd.snd.snd.snd.snd.snd.snd)
theorem all14 {c : Car} (h : ∀ v ∈ allR c, v = 0) : bodyR c = 0 ∧ wheelR ((c.snd.snd.fst).fst) = 0 ∧ wheelR ((c.snd.snd.fst).snd.fst) = 0 ∧ wheelR ((c.snd.snd.fst).snd.snd.fst) = 0 ∧ wheelR ((c.snd.snd.fst).snd.snd.snd.fst) = 0 ∧ barsR c = 0 ∧ valR alikeD (c.snd.snd.snd.snd.fst) (-140737488355328) 140737488355328 = 0 ∧ tyreR (c.snd.snd.snd.snd.snd.fst) = 0 ∧ valR (fun _ => true) (c.snd.snd.snd.snd.snd.snd.fst) (-17592186044416) 17592186044416 = 0 ∧ valR (fun _ => true) (c.snd.snd.snd.snd.snd.snd.snd.fst) 0 140737488355328 = 0 ∧ engineR c = 0 ∧ gearsR c = 0 ∧ restR c = 0 ∧ easeR c = 0 := by
  unfold allR at h
  simp only [List.mem_cons, forall_eq_or_imp, List.not_mem_nil, false_imp_iff, implies_true, and_true] at h
  exact h
theorem right_noGear {c : Car} (h : (rightR c).1 = 0) (l : List Int) : rightR (noGear c l) = bif gearsR (noGear c l) != 0 then (gearsR (noGear c l), 11) else (0, 0) := by
  obtain ⟨h0, h1, h2, h3, h4, h5, h6, h7, h8, h9, h10, h11, h12, h13⟩ := all14 (rightR_zero h)
  have e : allR (noGear c l) = [bodyR c, wheelR ((c.snd.snd.fst).fst), wheelR ((c.snd.snd.fst).snd.fst), wheelR ((c.snd.snd.fst).snd.snd.fst), wheelR ((c.snd.snd.fst).snd.snd.snd.fst), barsR c, valR alikeD (c.snd.snd.snd.snd.fst) (-140737488355328) 140737488355328, tyreR (c.snd.snd.snd.snd.snd.fst), valR (fun _ => true) (c.snd.snd.snd.snd.snd.snd.fst) (-17592186044416) 17592186044416, valR (fun _ => true) (c.snd.snd.snd.snd.snd.snd.snd.fst) 0 140737488355328, engineR c, gearsR (noGear c l), restR c, easeR c] := rfl
  unfold rightR
  rw [e, h0, h1, h2, h3, h4, h5, h6, h7, h8, h9, h10, h12, h13]
  generalize gearsR (noGear c l) = g
  show (match (bif g != 0 then some (11, g) else none) with
    | some (i, v) => (v, ((i : Nat) : Int))
    | none => (0, 0)) = _
  cases g != 0 <;> rfl
theorem right_newDiff {c : Car} (h : (rightR c).1 = 0) (d : Int) : rightR (newDiff c d) = bif restR (newDiff c d) != 0 then (restR (newDiff c d), 12) else (0, 0) := by
  obtain ⟨h0, h1, h2, h3, h4, h5, h6, h7, h8, h9, h10, h11, h12, h13⟩ := all14 (rightR_zero h)
  have e : allR (newDiff c d) = [bodyR c, wheelR ((c.snd.snd.fst).fst), wheelR ((c.snd.snd.fst).snd.fst), wheelR ((c.snd.snd.fst).snd.snd.fst), wheelR ((c.snd.snd.fst).snd.snd.snd.fst), barsR c, valR alikeD (c.snd.snd.snd.snd.fst) (-140737488355328) 140737488355328, tyreR (c.snd.snd.snd.snd.snd.fst), valR (fun _ => true) (c.snd.snd.snd.snd.snd.snd.fst) (-17592186044416) 17592186044416, valR (fun _ => true) (c.snd.snd.snd.snd.snd.snd.snd.fst) 0 140737488355328, engineR c, gearsR c, restR (newDiff c d), easeR c] := rfl
  unfold rightR
  rw [e, h0, h1, h2, h3, h4, h5, h6, h7, h8, h9, h10, h11, h13]
  generalize restR (newDiff c d) = g
  show (match (bif g != 0 then some (12, g) else none) with
    | some (i, v) => (v, ((i : Nat) : Int))
    | none => (0, 0)) = _
  cases g != 0 <;> rfl
theorem rest_newDiff {c : Car} (h : (rightR c).1 = 0) (d : Int) : restR (newDiff c d) = bif d == (0 : Int) || (d == (1 : Int) || d == (2 : Int)) then 0 else 40 := by
  obtain ⟨h0, h1, h2, h3, h4, h5, h6, h7, h8, h9, h10, h11, h12, h13⟩ := all14 (rightR_zero h)
  have e : restR (newDiff c d) = bif d == (0 : Int) || (d == (1 : Int) || d == (2 : Int)) then rangedR [(c.snd.snd.snd.snd.snd.snd.snd.snd.snd.snd.snd.snd.snd.snd.snd.snd.snd.snd.snd.fst, 0, 281474976710656, ()), (c.snd.snd.snd.snd.snd.snd.snd.snd.snd.snd.snd.snd.snd.snd.snd.snd.snd.snd.snd.snd.fst, 0, 70368744177664, ()), (c.snd.snd.snd.snd.snd.snd.snd.snd.snd.snd.snd.snd.snd.snd.snd.snd.snd.snd.snd.snd.snd.fst, 0, 70368744177664, ()), (c.snd.snd.snd.snd.snd.snd.snd.snd.snd.snd.snd.snd.snd.snd.snd.snd.snd.snd.snd.snd.snd.snd.fst, 0, 4294967296, ()), (c.snd.snd.snd.snd.snd.snd.snd.snd.snd.snd.snd.snd.snd.snd.snd.snd.snd.snd.snd.snd.snd.snd.snd.fst, 0, 536870912, ()), (c.snd.snd.snd.snd.snd.snd.snd.snd.snd.snd.snd.snd.snd.snd.snd.snd.snd.snd.snd.snd.snd.snd.snd.snd.fst, 0, 2147483648, ())] else 40 := rfl
  rw [e]
  unfold restR at h12
  cases hd : (c.snd.snd.snd.snd.snd.snd.snd.snd.snd.snd.snd.snd.snd.snd.snd.snd.snd.snd.fst == (0 : Int) || (c.snd.snd.snd.snd.snd.snd.snd.snd.snd.snd.snd.snd.snd.snd.snd.snd.snd.snd.fst == (1 : Int) || c.snd.snd.snd.snd.snd.snd.snd.snd.snd.snd.snd.snd.snd.snd.snd.snd.snd.snd.fst == (2 : Int)))
  · rw [hd] at h12
    have h12 : (40 : Int) = 0 := h12
    omega
  · rw [hd] at h12
    have h12 := h12
    simp only [cond_true] at h12
    rw [h12]
theorem gears_noGear {c : Car} (h : (rightR c).1 = 0) : gearsR (noGear c (cut (c.snd.snd.snd.snd.snd.snd.snd.snd.snd.snd.snd.snd.snd.snd.snd.snd.fst) 0 (List.length (c.snd.snd.snd.snd.snd.snd.snd.snd.snd.snd.snd.snd.snd.snd.snd.snd.fst) - 1))) = bif decide (List.length (c.snd.snd.snd.snd.snd.snd.snd.snd.snd.snd.snd.snd.snd.snd.snd.snd.fst) - 1 = 0) then 42 else 0 := by
  obtain ⟨h0, h1, h2, h3, h4, h5, h6, h7, h8, h9, h10, h11, h12, h13⟩ := all14 (rightR_zero h)
  obtain ⟨g1, g2, g3, g4, g5⟩ := gearsR_zero h11
  have hl : (cut (c.snd.snd.snd.snd.snd.snd.snd.snd.snd.snd.snd.snd.snd.snd.snd.snd.fst) 0 (List.length (c.snd.snd.snd.snd.snd.snd.snd.snd.snd.snd.snd.snd.snd.snd.snd.snd.fst) - 1)).length = List.length (c.snd.snd.snd.snd.snd.snd.snd.snd.snd.snd.snd.snd.snd.snd.snd.snd.fst) - 1 := cut_length (by omega)
  generalize hq : cut (c.snd.snd.snd.snd.snd.snd.snd.snd.snd.snd.snd.snd.snd.snd.snd.snd.fst) 0 (List.length (c.snd.snd.snd.snd.snd.snd.snd.snd.snd.snd.snd.snd.snd.snd.snd.snd.fst) - 1) = q at hl
  have hm : ∀ g ∈ q, g ∈ c.snd.snd.snd.snd.snd.snd.snd.snd.snd.snd.snd.snd.snd.snd.snd.snd.fst := fun g hg => by
    rw [← hq] at hg
    unfold cut at hg
    exact List.mem_of_mem_drop (List.mem_of_mem_take hg)
  have e : gearsR (noGear c q) = bif decide ((q.length : Int) < 1) || decide ((q.length : Int) > 8) then 42 else rangedR ((c.snd.snd.snd.snd.snd.snd.snd.snd.snd.snd.snd.snd.snd.snd.snd.fst, 1073741824, 137438953472, ()) :: (c.snd.snd.snd.snd.snd.snd.snd.snd.snd.snd.snd.snd.snd.snd.snd.snd.snd.fst, 2147483648, 68719476736, ()) :: List.map gearB q) := rfl
  have hr : rangedR ((c.snd.snd.snd.snd.snd.snd.snd.snd.snd.snd.snd.snd.snd.snd.snd.fst, 1073741824, 137438953472, ()) :: (c.snd.snd.snd.snd.snd.snd.snd.snd.snd.snd.snd.snd.snd.snd.snd.snd.snd.fst, 2147483648, 68719476736, ()) :: List.map gearB q) = 0 := by
    apply rangedR_of
    intro b hb
    simp only [List.mem_cons, List.mem_map] at hb
    rcases hb with rfl | rfl | ⟨g, hg, rfl⟩
    · exact g3
    · exact g4
    · exact g5 g (hm g hg)
  rw [e, hr, hl]
  by_cases hz : List.length (c.snd.snd.snd.snd.snd.snd.snd.snd.snd.snd.snd.snd.snd.snd.snd.snd.fst) - 1 = 0
  · rw [decide_eq_true hz, hz]; rfl
  · rw [decide_eq_false hz, decide_eq_false (show ¬ ((List.length (c.snd.snd.snd.snd.snd.snd.snd.snd.snd.snd.snd.snd.snd.snd.snd.snd.fst) - 1 : Nat) : Int) < 1 by omega), decide_eq_false (show ¬ ((List.length (c.snd.snd.snd.snd.snd.snd.snd.snd.snd.snd.snd.snd.snd.snd.snd.snd.fst) - 1 : Nat) : Int) > 8 by omega)]; rfl
theorem true5 (c : Car) (d : Int) (hs : 0 ≤ (c.snd.snd.snd.snd.snd.snd.snd.snd.snd.snd.snd.snd.snd.snd.snd.snd.snd.snd.snd.snd.snd.snd.snd.fst : Int) ∧ (c.snd.snd.snd.snd.snd.snd.snd.snd.snd.snd.snd.snd.snd.snd.snd.snd.snd.snd.snd.snd.snd.snd.snd.fst : Int) < 4294967296) (hr : 0 ≤ (c.snd.snd.snd.snd.snd.snd.snd.snd.snd.snd.snd.snd.snd.snd.snd.snd.snd.snd.snd.snd.snd.snd.snd.snd.fst : Int) ∧ (c.snd.snd.snd.snd.snd.snd.snd.snd.snd.snd.snd.snd.snd.snd.snd.snd.snd.snd.snd.snd.snd.snd.snd.snd.fst : Int) < 4294967296) : fn5 (c, d, ()) = some (true, ()) := by
  unfold fn5 law5
  obtain ⟨b, hb, hf⟩ := ex6 c hs hr
  refine (bindSome hb).trans ?_
  cases b
  case false => rfl
  have hf := hf rfl
  refine (bindSome (ex7 c hf)).trans ?_
  show (bif (rightR c).1 != 0 then some (true, ()) else _) = _
  cases h0 : (rightR c).1 != 0
  case true => rfl
  have h0 : (rightR c).1 = 0 := by simpa using h0
  refine bifF ?_
  cases h1 : decide ((List.length (c.snd.snd.snd.snd.snd.snd.snd.snd.snd.snd.snd.snd.snd.snd.snd.snd.fst) : Int) < 1)
  case true => rfl
  refine bifF ?_
  have h1 := of_decide_eq_false h1
  have hg := hf.gears
  have hw : IntKind.i64.wrap ((List.length (c.snd.snd.snd.snd.snd.snd.snd.snd.snd.snd.snd.snd.snd.snd.snd.snd.fst) : Int) - 1) = ((List.length (c.snd.snd.snd.snd.snd.snd.snd.snd.snd.snd.snd.snd.snd.snd.snd.snd.fst) - 1 : Nat) : Int) := by rw [i64_in _ (by omega)]; omega
  have hdrop : FewC (noGear c (cut (c.snd.snd.snd.snd.snd.snd.snd.snd.snd.snd.snd.snd.snd.snd.snd.snd.fst) 0 (List.length (c.snd.snd.snd.snd.snd.snd.snd.snd.snd.snd.snd.snd.snd.snd.snd.snd.fst) - 1))) := ⟨hf.damper, hf.pane, hf.torque, hf.air, by
    show (cut (c.snd.snd.snd.snd.snd.snd.snd.snd.snd.snd.snd.snd.snd.snd.snd.snd.fst) 0 (List.length (c.snd.snd.snd.snd.snd.snd.snd.snd.snd.snd.snd.snd.snd.snd.snd.snd.fst) - 1)).length ≤ 20
    rw [cut_length (by omega)]; omega, hs, hr⟩
  have hnew : FewC (newDiff c d) := ⟨hf.damper, hf.pane, hf.torque, hf.air, hf.gears, hs, hr⟩
  have e1 := ex7 _ hdrop
  have e2 := ex7 _ hnew
  rw [right_noGear h0, gears_noGear h0] at e1
  rw [right_newDiff h0, rest_newDiff h0] at e2
  rw [hw]
  refine bif_eq ?_ (bif_eq ?_ ?_)
  · rw [decide_eq_true (show ((List.length (c.snd.snd.snd.snd.snd.snd.snd.snd.snd.snd.snd.snd.snd.snd.snd.snd.fst) - 1 : Nat) : Int) ≤ (List.length (c.snd.snd.snd.snd.snd.snd.snd.snd.snd.snd.snd.snd.snd.snd.snd.snd.fst) : Int) by omega)]; simp
  · rw [Int.toNat_natCast]; exact decide_eq_true (by show 0 + (List.length (c.snd.snd.snd.snd.snd.snd.snd.snd.snd.snd.snd.snd.snd.snd.snd.snd.fst) - 1) ≤ List.length (c.snd.snd.snd.snd.snd.snd.snd.snd.snd.snd.snd.snd.snd.snd.snd.snd.fst); omega)
  rw [Int.toNat_natCast]
  refine (bindSome e1).trans ?_
  by_cases hz : List.length (c.snd.snd.snd.snd.snd.snd.snd.snd.snd.snd.snd.snd.snd.snd.snd.snd.fst) - 1 = 0
  · rw [hz]
    show Option.bind (fn7 (newDiff c d, ())) _ = _
    refine (bindSome e2).trans ?_
    by_cases d0 : d = 0
    · subst d0; rfl
    by_cases d1 : d = 1
    · subst d1; rfl
    by_cases d2 : d = 2
    · subst d2; rfl
    have q0 : (d == (0 : Int)) = false := by simpa using d0
    have q1 : (d == (1 : Int)) = false := by simpa using d1
    have q2 : (d == (2 : Int)) = false := by simpa using d2
    rw [q0, q1, q2]; rfl
  · have hz1 : (((List.length (c.snd.snd.snd.snd.snd.snd.snd.snd.snd.snd.snd.snd.snd.snd.snd.snd.fst) - 1 : Nat) : Int) == 0) = false := by simp; omega
    have hz2 : decide (((List.length (c.snd.snd.snd.snd.snd.snd.snd.snd.snd.snd.snd.snd.snd.snd.snd.snd.fst) - 1 : Nat) : Int) > 0) = true := by simp; omega
    rw [decide_eq_false hz, hz1, hz2]
    show Option.bind (fn7 (newDiff c d, ())) _ = _
    refine (bindSome e2).trans ?_
    by_cases d0 : d = 0
    · subst d0; rfl
    by_cases d1 : d = 1
    · subst d1; rfl
    by_cases d2 : d = 2
    · subst d2; rfl
    have q0 : (d == (0 : Int)) = false := by simpa using d0
    have q1 : (d == (1 : Int)) = false := by simpa using d1
    have q2 : (d == (2 : Int)) = false := by simpa using d2
    rw [q0, q1, q2]; rfl
end Go.Proofs.Ytamdbejojnfoiaa
