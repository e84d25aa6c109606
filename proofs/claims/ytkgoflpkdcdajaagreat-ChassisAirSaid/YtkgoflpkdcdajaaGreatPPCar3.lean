/- Plain Lean: what the laws of this program's functions come to, in numbers and lists; no program is run here. -/
import Derived.Test.YtkgoflpkdcdajaaGreatPPCar2
set_option linter.unusedVariables false
set_option linter.unusedSimpArgs false
set_option maxRecDepth 100000
namespace Go.Ab
open Go Go.IntWalk
/-
  Cars that may be: what follows from it. One text for all seats; it names no program.
-/
theorem rightR_zero {c : Car} (h : (rightR c).1 = 0) : ∀ v ∈ allR c, v = 0 := by
  unfold rightR at h
  cases hs : scanL (fun v => v != 0) (allR c) 0 with
  | none =>
    have := (scanL_none (allR c) 0).1 hs
    intro v hv
    rw [List.any_eq_false] at this
    have := this v hv
    simpa using this
  | some z =>
    obtain ⟨i, v⟩ := z
    rw [hs] at h
    obtain ⟨-, h2, -⟩ := scanL_some _ _ _ _ hs
    have h : v = 0 := h
    simp [h] at h2
theorem rightR_of {c : Car} (h : ∀ v ∈ allR c, v = 0) : rightR c = (0, 0) := by
  unfold rightR
  rw [(scanL_none (allR c) 0).2 (by rw [List.any_eq_false]; intro v hv; simp [h v hv])]
theorem minL_le {a : Int} {l : List Int} : ∀ v ∈ a :: l, minL (a :: l) ≤ v := by
  have h : ∀ (l : List Int) (s : Int), l.foldl (fun a b => if b < a then b else a) s ≤ s ∧ ∀ v ∈ l, l.foldl (fun a b => if b < a then b else a) s ≤ v := by
    intro l
    induction l with
    | nil => intro s; exact ⟨Int.le_refl _, by simp⟩
    | cons b l ih =>
      intro s
      rw [List.foldl_cons]
      obtain ⟨h1, h2⟩ := ih (if b < s then b else s)
      refine ⟨Int.le_trans h1 (by split <;> omega), fun v hv => ?_⟩
      rcases List.mem_cons.1 hv with rfl | hv
      · exact Int.le_trans h1 (by split <;> omega)
      · exact h2 v hv
  intro v hv
  obtain ⟨h1, h2⟩ := h l a
  rcases List.mem_cons.1 hv with rfl | hv
  · exact h1
  · exact h2 v hv
theorem le_maxL {a : Int} {l : List Int} : ∀ v ∈ a :: l, v ≤ maxL (a :: l) := by
  have h : ∀ (l : List Int) (s : Int), s ≤ l.foldl (fun a b => if b > a then b else a) s ∧ ∀ v ∈ l, v ≤ l.foldl (fun a b => if b > a then b else a) s := by
    intro l
    induction l with
    | nil => intro s; exact ⟨Int.le_refl _, by simp⟩
    | cons b l ih =>
      intro s
      rw [List.foldl_cons]
      obtain ⟨h1, h2⟩ := ih (if b > s then b else s)
      refine ⟨Int.le_trans (by split <;> omega) h1, fun v hv => ?_⟩
      rcases List.mem_cons.1 hv with rfl | hv
      · exact Int.le_trans (by split <;> omega) h1
      · exact h2 v hv
  intro v hv
  obtain ⟨h1, h2⟩ := h l a
  rcases List.mem_cons.1 hv with rfl | hv
  · exact h1
  · exact h2 v hv
theorem farI_false {a : Int} (h : farI a = false) : -4503599627370496 ≤ a ∧ a ≤ 4503599627370496 := by
  unfold farI at h
  rw [Bool.or_eq_false_iff] at h
  have h1 := of_decide_eq_false h.1
  have h2 := of_decide_eq_false h.2
  omega
/-- A pane that is right has at its head a column, a row, values. -/
theorem pane_heads {p : Pan} (h : (paneR p != 0) = false) : ∃ x xs y ys v vs, p.1 = x :: xs ∧ p.2.1 = y :: ys ∧ p.2.2.1.flatten = v :: vs := by
  obtain ⟨h1, -⟩ := paneR_zero h
  obtain ⟨a1, a2, a3, a4, a5, a6⟩ := counted_le h1
  cases hx : p.1 with
  | nil => rw [hx] at a1; simp at a1
  | cons x xs =>
  cases hy : p.2.1 with
  | nil => rw [hy] at a3; simp at a3
  | cons y ys =>
  cases hr : p.2.2.1 with
  | nil => rw [hr] at a5; rw [hy] at a5; simp at a5
  | cons r rs =>
    have hq := a6 r (by rw [hr]; simp)
    cases r with
    | nil => rw [hx] at hq; simp at hq
    | cons v vs => exact ⟨x, xs, y, ys, v, vs ++ rs.flatten, rfl, rfl, rfl⟩
theorem tyreR_eq {p : Pan} (h : (paneR p != 0) = false) : tyreR p = bif decide (p.1.headD 0 < 0) || (decide (p.2.1.headD 0 < 0) || (decide ((boundsP p).1 < 0) || decide ((boundsP p).2 > 17179869184))) then 40 else 0 := by
  obtain ⟨h1, h2, h3, h4, h5, h6⟩ := paneR_zero h
  obtain ⟨x, xs, y, ys, v, vs, e1, e2, e3⟩ := pane_heads h
  unfold tyreR
  rw [h]
  simp only [cond_false]
  have hb : boundsP p = (minL (v :: vs), maxL (v :: vs)) := by unfold boundsP; rw [h, e3]; rfl
  rw [hb, e1, e2, rangedR_in]
  have hx : farI x = false := by
    rw [e1, List.any_cons, Bool.or_eq_false_iff] at h2
    exact h2.1
  have hx := farI_false hx
  have hm : minL (v :: vs) ≤ maxL (v :: vs) := Int.le_trans (minL_le v (by simp)) (le_maxL v (by simp))
  simp only [List.all_cons, List.all_nil, Bool.and_true, List.headD_cons, inB, min2]
  generalize minL (v :: vs) = lo at hm
  generalize maxL (v :: vs) = hi at hm
  have : (decide (0 ≤ (if lo < (if y < x then y else x) then lo else (if y < x then y else x))) && decide ((if lo < (if y < x then y else x) then lo else (if y < x then y else x)) ≤ 18014398509481984) && (decide (0 ≤ hi) && decide (hi ≤ 17179869184))) = !(decide (x < 0) || (decide (y < 0) || (decide (lo < 0) || decide (hi > 17179869184)))) := by
    rw [Bool.eq_iff_iff]
    simp only [Bool.and_eq_true, decide_eq_true_eq, Bool.not_eq_true', Bool.or_eq_false_iff, decide_eq_false_iff_not]
    constructor
    · intro ⟨⟨q1, q2⟩, q3, q4⟩
      split at q1 <;> split at q1 <;> omega
    · intro ⟨q1, q2, q3, q4⟩
      refine ⟨⟨?_, ?_⟩, ?_, ?_⟩
      · split <;> split <;> omega
      · split <;> split <;> omega
      · omega
      · omega
  refine (congrArg (fun t => bif t then (0 : Int) else 40) this).trans ?_
  have hn : ∀ b : Bool, (bif !b then (0 : Int) else 40) = bif b then 40 else 0 := fun b => by cases b <;> rfl
  exact hn _
theorem rangedR_zero {l : List Bnd} (h : rangedR l = 0) : ∀ b ∈ l, b.2.1 ≤ b.1 ∧ b.1 ≤ b.2.2.1 := by
  rw [rangedR_in] at h
  intro b hb
  cases ha : l.all inB with
  | false => rw [ha] at h; exact absurd h (by decide)
  | true =>
    have := List.all_eq_true.1 ha b hb
    unfold inB at this
    simpa using this
theorem rangedR_of {l : List Bnd} (h : ∀ b ∈ l, b.2.1 ≤ b.1 ∧ b.1 ≤ b.2.2.1) : rangedR l = 0 := by
  rw [rangedR_in]
  have : l.all inB = true := List.all_eq_true.2 fun b hb => by
    unfold inB
    simpa using h b hb
  rw [this]; rfl
theorem gearsR_zero {c : Car} (h : gearsR c = 0) : 1 ≤ List.length (c.snd.snd.snd.snd.snd.snd.snd.snd.snd.snd.snd.snd.snd.snd.snd.snd.fst) ∧ List.length (c.snd.snd.snd.snd.snd.snd.snd.snd.snd.snd.snd.snd.snd.snd.snd.snd.fst) ≤ 8 ∧ (1073741824 ≤ c.snd.snd.snd.snd.snd.snd.snd.snd.snd.snd.snd.snd.snd.snd.snd.fst ∧ c.snd.snd.snd.snd.snd.snd.snd.snd.snd.snd.snd.snd.snd.snd.snd.fst ≤ 137438953472) ∧ (2147483648 ≤ c.snd.snd.snd.snd.snd.snd.snd.snd.snd.snd.snd.snd.snd.snd.snd.snd.snd.fst ∧ c.snd.snd.snd.snd.snd.snd.snd.snd.snd.snd.snd.snd.snd.snd.snd.snd.snd.fst ≤ 68719476736) ∧ ∀ g ∈ c.snd.snd.snd.snd.snd.snd.snd.snd.snd.snd.snd.snd.snd.snd.snd.snd.fst, 1073741824 ≤ g ∧ g ≤ 137438953472 := by
  unfold gearsR at h
  cases h1 : decide ((List.length (c.snd.snd.snd.snd.snd.snd.snd.snd.snd.snd.snd.snd.snd.snd.snd.snd.fst) : Int) < 1)
  case true =>
    rw [h1] at h
    have h : (42 : Int) = 0 := h
    omega
  cases h2 : decide ((List.length (c.snd.snd.snd.snd.snd.snd.snd.snd.snd.snd.snd.snd.snd.snd.snd.snd.fst) : Int) > 8)
  case true =>
    rw [h1, h2] at h
    have h : (42 : Int) = 0 := h
    omega
  rw [h1, h2] at h
  have h := rangedR_zero h
  have h1 := of_decide_eq_false h1
  have h2 := of_decide_eq_false h2
  refine ⟨by omega, by omega, h (c.snd.snd.snd.snd.snd.snd.snd.snd.snd.snd.snd.snd.snd.snd.snd.fst, 1073741824, 137438953472, ()) (by simp), h (c.snd.snd.snd.snd.snd.snd.snd.snd.snd.snd.snd.snd.snd.snd.snd.snd.snd.fst, 2147483648, 68719476736, ()) (by simp), fun g hg => ?_⟩
  exact h (gearB g) (by simp only [List.mem_cons, List.mem_map]; exact .inr (.inr ⟨g, hg, rfl⟩))
end Go.Ab
