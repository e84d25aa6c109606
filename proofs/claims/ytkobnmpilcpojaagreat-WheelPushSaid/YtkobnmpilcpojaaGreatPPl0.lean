/- Plain Lean: what the laws of this program's functions come to, in numbers and lists; no program is run here. -/
import Derived.Test.YtkobnmpilcpojaaGreatLawsc
import Derived.IntWalk
set_option linter.unusedVariables false
set_option linter.unusedSimpArgs false
set_option maxRecDepth 100000
namespace Go.Ab
open Go Go.IntWalk
theorem wrapNat (j : Nat) (h : j < 2 ^ 62) : IntKind.i64.wrap ((j : Int) + 1) = ((j + 1 : Nat) : Int) := by
  rw [i64_in _ (by omega)]; omega
def scanL {α : Type} (p : α → Bool) : List α → Nat → Option (Nat × α)
  | [], _ => none
  | v :: l, j => bif p v then some (j, v) else scanL p l (j + 1)
theorem scan_law {α β : Type} (l : List α) (p : α → Bool) (K : Int → α → Option β) (k1 : Option β) (F : Nat → Int → Option β) (hl : (l.length : Int) < 2 ^ 62)
    (h0 : ∀ n (j : Nat) v, l[j]? = some v → F (n + 1) j = bif p v then K j v else F n (IntKind.i64.wrap ((j : Int) + 1)))
    (h1 : ∀ n (j : Int), ¬ j < (l.length : Int) → F (n + 1) j = k1) : ∀ (n j : Nat), j ≤ l.length → l.length - j < n → F n (j : Int) = match scanL p (l.drop j) j with
      | some (i, v) => K i v
      | none => k1
  | 0, j, _, h => by omega
  | n + 1, j, hj, h => by
    by_cases hc : j < l.length
    · rw [h0 n j l[j] (List.getElem?_eq_getElem hc), List.drop_eq_getElem_cons hc]
      simp only [scanL]
      cases hp : p l[j]
      · simp only [cond_false]
        rw [wrapNat j (by omega)]
        exact scan_law l p K k1 F hl h0 h1 n (j + 1) (by omega) (by omega)
      · simp only [cond_true]
    · rw [h1 n j (by omega), show j = l.length by omega, List.drop_length]; rfl
theorem scanL_none {α : Type} {p : α → Bool} : ∀ (l : List α) (j : Nat), scanL p l j = none ↔ l.any p = false
  | [], j => by simp [scanL]
  | v :: l, j => by
    have ih := scanL_none (p := p) l (j + 1)
    cases h : p v
    · simpa [scanL, h] using ih
    · simp [scanL, h]
theorem scanL_some {α : Type} {p : α → Bool} : ∀ (l : List α) (j i : Nat) (v : α), scanL p l j = some (i, v) → l.any p = true ∧ p v = true ∧ j ≤ i ∧ l[i - j]? = some v
  | [], j, i, v, h => by simp [scanL] at h
  | a :: l, j, i, v, h => by
    cases hp : p a
    · simp only [scanL, hp, cond_false] at h
      obtain ⟨h1, h2, h3, h4⟩ := scanL_some l (j + 1) i v h
      refine ⟨by simp [hp, h1], h2, by omega, ?_⟩
      rw [show i - j = (i - (j + 1)) + 1 by omega, List.getElem?_cons_succ]; exact h4
    · simp only [scanL, hp, cond_true] at h
      injection h with h; injection h with h1 h2; subst h1; subst h2
      exact ⟨by simp [hp], hp, Nat.le_refl _, by simp⟩
theorem any_law {α β : Type} (l : List α) (p : α → Bool) (k0 k1 : Option β) (F : Nat → Int → Option β) (hl : (l.length : Int) < 2 ^ 62)
    (h0 : ∀ n (j : Nat) v, l[j]? = some v → F (n + 1) j = bif p v then k0 else F n (IntKind.i64.wrap ((j : Int) + 1)))
    (h1 : ∀ n (j : Int), ¬ j < (l.length : Int) → F (n + 1) j = k1) (n : Nat) (hn : l.length < n) : F n 0 = bif l.any p then k0 else k1 := by
  have := scan_law l p (fun _ _ => k0) k1 F hl h0 h1 n 0 (Nat.zero_le _) hn
  rw [List.drop_zero] at this
  refine this.trans ?_
  cases hs : scanL p l 0 with
  | none => rw [(scanL_none l 0).1 hs]; rfl
  | some z => obtain ⟨i, v⟩ := z; rw [(scanL_some l 0 i v hs).1]; rfl
def idxL {α : Type} (p : α → Bool) (l : List α) : Int := match scanL p l 0 with
  | some (i, _) => i
  | none => -1
theorem idxL_nonneg {α : Type} (p : α → Bool) (l : List α) : decide (0 ≤ idxL p l) = l.any p := by
  unfold idxL
  cases h : scanL p l 0 with
  | none => rw [(scanL_none l 0).1 h]; simp
  | some x => obtain ⟨i, v⟩ := x; rw [(scanL_some l 0 i v h).1]; simp
theorem bindSome {α β : Type} {o : Option α} {a : α} {f : α → Option β} (h : o = some a) : Option.bind o f = f a := by rw [h]; rfl
theorem idxB {α : Type} {l : List α} {j : Nat} {v : α} (h : l[j]? = some v) : decide ((j : Int) < (l.length : Int)) = true := by
  obtain ⟨h, _⟩ := List.getElem?_eq_some_iff.1 h
  simp; omega
theorem big30 : ∀ n : Nat, (n : Int) < 2 ^ 62 → n < 10 ^ 30 := fun n h => by
  have : (2 : Int) ^ 62 < 10 ^ 30 := by decide
  omega
theorem idx0 (j : Nat) : decide (0 ≤ (j : Int)) = true := by simp
theorem bifF {β : Type} {A B X : Option β} (hB : B = X) : (bif false then A else B) = X := hB
end Go.Ab
