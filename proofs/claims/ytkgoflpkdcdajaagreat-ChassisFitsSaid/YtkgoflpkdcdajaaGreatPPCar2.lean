/- Plain Lean: what the laws of this program's functions come to, in numbers and lists; no program is run here. -/
import Derived.Test.YtkgoflpkdcdajaaGreatPPCar
set_option linter.unusedVariables false
set_option linter.unusedSimpArgs false
set_option maxRecDepth 100000
namespace Go.Ab
open Go Go.IntWalk
/-
  Which cars may be, in plain Lean: the parts of a car, and what is wrong first. One text for all seats; it names no program.
-/
abbrev V3 : Type := (Int × Int × Int × Unit)
abbrev Whl : Type := (V3 × Int × Int × Int × Int × Int × Bool × Bool × Unit)
abbrev Car : Type := (Int × V3 × (Whl × Whl × Whl × Whl × Unit) × (Int × Int × Unit) × List Dot × Pan × List Dot × List Dot × Int × Int × Int × Int × Int × Int × Int × Int × List Int × Int × Int × Int × Int × Int × Int × Int × Int × Int × Int × Int × Int × Int × Int × Int × Unit)
def inB (b : Bnd) : Bool := decide (b.2.1 ≤ b.1) && decide (b.1 ≤ b.2.2.1)
theorem outB_in (b : Bnd) : outB b = !inB b := by
  unfold outB inB
  by_cases h1 : b.1 < b.2.1 <;> by_cases h2 : b.1 > b.2.2.1 <;> simp [h1, h2] <;> omega
theorem rangedR_in (l : List Bnd) : rangedR l = bif l.all inB then 0 else 40 := by
  unfold rangedR
  have : l.any outB = !l.all inB := by
    rw [List.not_all_eq_any_not]
    congr 1; funext b; exact outB_in b
  rw [this]; cases l.all inB <;> rfl
def bodyR (c : Car) : Int := rangedR [(c.fst, 274877906944, 35184372088832, ()), ((c.snd.fst).fst, 68719476736, 281474976710656, ()), ((c.snd.fst).snd.fst, 68719476736, 281474976710656, ()), ((c.snd.fst).snd.snd.fst, 68719476736, 281474976710656, ()), (c.snd.snd.snd.snd.snd.snd.snd.snd.snd.snd.snd.snd.snd.snd.snd.snd.snd.snd.snd.snd.snd.snd.snd.snd.snd.fst, 2147483648, 17179869184, ()), (c.snd.snd.snd.snd.snd.snd.snd.snd.snd.snd.snd.snd.snd.snd.snd.snd.snd.snd.snd.snd.snd.snd.snd.snd.snd.snd.fst, 0, 4294967296, ()), (c.snd.snd.snd.snd.snd.snd.snd.snd.snd.snd.snd.snd.snd.snd.snd.snd.snd.snd.snd.snd.snd.snd.snd.snd.snd.snd.snd.fst, 0, 4294967296, ())]
def wheelR (w : Whl) : Int := rangedR [((w.fst).fst, -17179869184, 17179869184, ()), ((w.fst).snd.fst, -17179869184, 17179869184, ()), ((w.fst).snd.snd.fst, -8589934592, 8589934592, ()), (w.snd.fst, 536870912, 4294967296, ()), (w.snd.snd.fst, 536870912, 274877906944, ()), (w.snd.snd.snd.fst, 4398046511104, 1125899906842624, ()), (w.snd.snd.snd.snd.fst, 67108864, 2147483648, ()), (w.snd.snd.snd.snd.snd.fst, 0, 4503599627370496, ())]
def barsR (c : Car) : Int := rangedR [((c.snd.snd.snd.fst).fst, 0, 562949953421312, ()), ((c.snd.snd.snd.fst).snd.fst, 0, 562949953421312, ())]
def engineR (c : Car) : Int := firstR [rangedR [(c.snd.snd.snd.snd.snd.snd.snd.snd.fst, 0, 17179869184, ()), (c.snd.snd.snd.snd.snd.snd.snd.snd.snd.fst, 67108864, 68719476736, ()), (c.snd.snd.snd.snd.snd.snd.snd.snd.snd.snd.fst, 137438953472, 2199023255552, ()), (c.snd.snd.snd.snd.snd.snd.snd.snd.snd.snd.snd.fst, 274877906944, 8796093022208, ()), (c.snd.snd.snd.snd.snd.snd.snd.snd.snd.snd.snd.snd.fst, 0, 4294967296, ()), (c.snd.snd.snd.snd.snd.snd.snd.snd.snd.snd.snd.snd.snd.fst, 4294967296, 1099511627776, ()), (c.snd.snd.snd.snd.snd.snd.snd.snd.snd.snd.snd.snd.snd.snd.fst, 0, 17592186044416, ())], aboveR (c.snd.snd.snd.snd.snd.snd.snd.snd.snd.snd.snd.fst) (c.snd.snd.snd.snd.snd.snd.snd.snd.snd.snd.fst)]
def gearB (g : Int) : Bnd := (g, 1073741824, 137438953472, ())
def gearsR (c : Car) : Int := bif decide ((List.length (c.snd.snd.snd.snd.snd.snd.snd.snd.snd.snd.snd.snd.snd.snd.snd.snd.fst) : Int) < 1) || decide ((List.length (c.snd.snd.snd.snd.snd.snd.snd.snd.snd.snd.snd.snd.snd.snd.snd.snd.fst) : Int) > 8) then 42 else rangedR ((c.snd.snd.snd.snd.snd.snd.snd.snd.snd.snd.snd.snd.snd.snd.snd.fst, 1073741824, 137438953472, ()) :: (c.snd.snd.snd.snd.snd.snd.snd.snd.snd.snd.snd.snd.snd.snd.snd.snd.snd.fst, 2147483648, 68719476736, ()) :: List.map gearB (c.snd.snd.snd.snd.snd.snd.snd.snd.snd.snd.snd.snd.snd.snd.snd.snd.fst))
def restR (c : Car) : Int := bif c.snd.snd.snd.snd.snd.snd.snd.snd.snd.snd.snd.snd.snd.snd.snd.snd.snd.snd.fst == (0 : Int) || (c.snd.snd.snd.snd.snd.snd.snd.snd.snd.snd.snd.snd.snd.snd.snd.snd.snd.snd.fst == (1 : Int) || c.snd.snd.snd.snd.snd.snd.snd.snd.snd.snd.snd.snd.snd.snd.snd.snd.snd.snd.fst == (2 : Int)) then rangedR [(c.snd.snd.snd.snd.snd.snd.snd.snd.snd.snd.snd.snd.snd.snd.snd.snd.snd.snd.snd.fst, 0, 281474976710656, ()), (c.snd.snd.snd.snd.snd.snd.snd.snd.snd.snd.snd.snd.snd.snd.snd.snd.snd.snd.snd.snd.fst, 0, 70368744177664, ()), (c.snd.snd.snd.snd.snd.snd.snd.snd.snd.snd.snd.snd.snd.snd.snd.snd.snd.snd.snd.snd.snd.fst, 0, 70368744177664, ()), (c.snd.snd.snd.snd.snd.snd.snd.snd.snd.snd.snd.snd.snd.snd.snd.snd.snd.snd.snd.snd.snd.snd.fst, 0, 4294967296, ()), (c.snd.snd.snd.snd.snd.snd.snd.snd.snd.snd.snd.snd.snd.snd.snd.snd.snd.snd.snd.snd.snd.snd.snd.fst, 0, 536870912, ()), (c.snd.snd.snd.snd.snd.snd.snd.snd.snd.snd.snd.snd.snd.snd.snd.snd.snd.snd.snd.snd.snd.snd.snd.snd.fst, 0, 2147483648, ())] else 40
def easeR (c : Car) : Int := firstR [rangedR [(c.snd.snd.snd.snd.snd.snd.snd.snd.snd.snd.snd.snd.snd.snd.snd.snd.snd.snd.snd.snd.snd.snd.snd.snd.snd.snd.snd.snd.fst, 0, 17179869184, ()), (c.snd.snd.snd.snd.snd.snd.snd.snd.snd.snd.snd.snd.snd.snd.snd.snd.snd.snd.snd.snd.snd.snd.snd.snd.snd.snd.snd.snd.snd.fst, 0, 17179869184, ()), (c.snd.snd.snd.snd.snd.snd.snd.snd.snd.snd.snd.snd.snd.snd.snd.snd.snd.snd.snd.snd.snd.snd.snd.snd.snd.snd.snd.snd.snd.snd.fst, 0, 8796093022208, ()), (c.snd.snd.snd.snd.snd.snd.snd.snd.snd.snd.snd.snd.snd.snd.snd.snd.snd.snd.snd.snd.snd.snd.snd.snd.snd.snd.snd.snd.snd.snd.snd.fst, 0, 8796093022208, ())], aboveR (c.snd.snd.snd.snd.snd.snd.snd.snd.snd.snd.snd.snd.snd.snd.snd.snd.snd.snd.snd.snd.snd.snd.snd.snd.snd.snd.snd.snd.snd.snd.fst) (c.snd.snd.snd.snd.snd.snd.snd.snd.snd.snd.snd.snd.snd.snd.snd.snd.snd.snd.snd.snd.snd.snd.snd.snd.snd.snd.snd.snd.snd.snd.snd.fst)]
def allR (c : Car) : List Int := [bodyR c, wheelR ((c.snd.snd.fst).fst), wheelR ((c.snd.snd.fst).snd.fst), wheelR ((c.snd.snd.fst).snd.snd.fst), wheelR ((c.snd.snd.fst).snd.snd.snd.fst), barsR c, valR alikeD (c.snd.snd.snd.snd.fst) (-140737488355328) 140737488355328, tyreR (c.snd.snd.snd.snd.snd.fst), valR (fun _ => true) (c.snd.snd.snd.snd.snd.snd.fst) (-17592186044416) 17592186044416, valR (fun _ => true) (c.snd.snd.snd.snd.snd.snd.snd.fst) 0 140737488355328, engineR c, gearsR c, restR c, easeR c]
def rightR (c : Car) : Int × Int := match scanL (fun v => v != 0) (allR c) 0 with
  | some (i, v) => (v, i)
  | none => (0, 0)
structure FewP (p : Pan) : Prop where
  xs : p.1.length ≤ 40
  ys : p.2.1.length ≤ 40
  rows : p.2.2.1.length ≤ 40
  row : ∀ r ∈ p.2.2.1, r.length ≤ 40
structure FewC (c : Car) : Prop where
  damper : List.length (c.snd.snd.snd.snd.fst) ≤ 40
  pane : FewP (c.snd.snd.snd.snd.snd.fst)
  torque : List.length (c.snd.snd.snd.snd.snd.snd.fst) ≤ 40
  air : List.length (c.snd.snd.snd.snd.snd.snd.snd.fst) ≤ 40
  gears : List.length (c.snd.snd.snd.snd.snd.snd.snd.snd.snd.snd.snd.snd.snd.snd.snd.snd.fst) ≤ 20
  steer : 0 ≤ (c.snd.snd.snd.snd.snd.snd.snd.snd.snd.snd.snd.snd.snd.snd.snd.snd.snd.snd.snd.snd.snd.snd.snd.fst : Int) ∧ (c.snd.snd.snd.snd.snd.snd.snd.snd.snd.snd.snd.snd.snd.snd.snd.snd.snd.snd.snd.snd.snd.snd.snd.fst : Int) < 4294967296
  rate : 0 ≤ (c.snd.snd.snd.snd.snd.snd.snd.snd.snd.snd.snd.snd.snd.snd.snd.snd.snd.snd.snd.snd.snd.snd.snd.snd.fst : Int) ∧ (c.snd.snd.snd.snd.snd.snd.snd.snd.snd.snd.snd.snd.snd.snd.snd.snd.snd.snd.snd.snd.snd.snd.snd.snd.fst : Int) < 4294967296
theorem FewP.sum : ∀ {l : List (List Int)} {b : Nat}, (∀ r ∈ l, r.length ≤ b) → l.flatten.length ≤ l.length * b
  | [], b, _ => by simp
  | r :: l, b, h => by
    have h1 := h r (by simp)
    have h2 := FewP.sum (l := l) (b := b) fun q hq => h q (by simp [hq])
    rw [List.flatten_cons, List.length_append, List.length_cons, Nat.add_mul]; omega
theorem app_law {α γ β : Type} (l : List α) (g : α → List γ) (B : Nat) (k : Nat → List γ → Option β) (F : Nat → Nat → Int → List γ → Option β) (hl : (l.length : Int) < 2 ^ 62)
    (h0 : ∀ n m (j : Nat) a v, l[j]? = some v → F (n + 1) m j a = bif decide (m = a.length) && (decide ((m + (g v).length) * B ≤ 140737488355328) && decide (m + (g v).length ≤ 9223372036854775807)) then F n (m + (g v).length) (IntKind.i64.wrap ((j : Int) + 1)) (a.append (g v)) else none)
    (h1 : ∀ n m (j : Int) a, ¬ j < (l.length : Int) → F (n + 1) m j a = k m a) : ∀ (n j : Nat) (a : List γ), j ≤ l.length → l.length - j < n → (a.length + ((l.drop j).map g).flatten.length) * B ≤ 140737488355328 → a.length + ((l.drop j).map g).flatten.length ≤ 9223372036854775807 → F n a.length (j : Int) a = k (a ++ ((l.drop j).map g).flatten).length (a ++ ((l.drop j).map g).flatten)
  | 0, j, a, _, h, _, _ => by omega
  | n + 1, j, a, hj, h, hb, hm => by
    by_cases hc : j < l.length
    · have ih := app_law l g B k F hl h0 h1 n (j + 1) (a ++ g l[j]) (by omega) (by omega)
      rw [List.drop_eq_getElem_cons hc, List.map_cons, List.flatten_cons, List.length_append] at hb hm
      rw [List.drop_eq_getElem_cons hc, List.map_cons, List.flatten_cons, ← List.append_assoc, h0 n a.length j a l[j] (List.getElem?_eq_getElem hc), wrapNat j (by omega)]
      rw [List.length_append] at ih
      have hb2 : (a.length + (g l[j]).length) * B ≤ 140737488355328 := Nat.le_trans (Nat.mul_le_mul_right B (by omega)) hb
      have hb3 : (a.length + (g l[j]).length + ((l.drop (j + 1)).map g).flatten.length) * B ≤ 140737488355328 := by rw [Nat.add_assoc]; exact hb
      have := ih hb3 (by omega)
      rw [show decide (a.length = a.length) = true by simp, decide_eq_true hb2, decide_eq_true (show a.length + (g l[j]).length ≤ 9223372036854775807 by omega)]
      exact this
    · rw [h1 n _ j a (by omega), show j = l.length by omega, List.drop_length]; simp
theorem fold_law {α σ β : Type} (l : List α) (f : σ → α → σ) (k : σ → Option β) (F : Nat → σ → Int → Option β) (hl : (l.length : Int) < 2 ^ 62)
    (h0 : ∀ n (j : Nat) s v, l[j]? = some v → F (n + 1) s j = F n (f s v) (IntKind.i64.wrap ((j : Int) + 1)))
    (h1 : ∀ n (j : Int) s, ¬ j < (l.length : Int) → F (n + 1) s j = k s) : ∀ (n j : Nat) (s : σ), j ≤ l.length → l.length - j < n → F n s (j : Int) = k ((l.drop j).foldl f s)
  | 0, j, s, _, h => by omega
  | n + 1, j, s, hj, h => by
    by_cases hc : j < l.length
    · rw [h0 n j s l[j] (List.getElem?_eq_getElem hc), List.drop_eq_getElem_cons hc, List.foldl_cons, wrapNat j (by omega)]
      exact fold_law l f k F hl h0 h1 n (j + 1) _ (by omega) (by omega)
    · rw [h1 n j s (by omega), show j = l.length by omega, List.drop_length]; rfl
theorem counted_le {p : Pan} (h : countedP p = true) : 2 ≤ p.1.length ∧ p.1.length ≤ 32 ∧ 2 ≤ p.2.1.length ∧ p.2.1.length ≤ 32 ∧ p.2.2.1.length = p.2.1.length ∧ ∀ r ∈ p.2.2.1, r.length = p.1.length := by
  unfold countedP mayN at h
  simp only [Bool.and_eq_true, decide_eq_true_eq, List.all_eq_true] at h
  obtain ⟨⟨⟨⟨h1, h2⟩, h3, h4⟩, h5⟩, h6⟩ := h
  exact ⟨h1, h2, h3, h4, h5, h6⟩
theorem paneR_zero {p : Pan} (h : (paneR p != 0) = false) : countedP p = true ∧ p.1.any farI = false ∧ p.2.1.any farI = false ∧ p.2.2.1.any (fun r => r.any farI) = false ∧ risesL p.1 = true ∧ risesL p.2.1 = true := by
  unfold paneR at h
  cases h1 : countedP p <;> cases h2 : p.1.any farI <;> cases h3 : p.2.1.any farI <;> cases h4 : p.2.2.1.any (fun r => r.any farI) <;> cases h5 : risesL p.1 <;> cases h6 : risesL p.2.1 <;> simp [h1, h2, h3, h4, h5, h6] at h ⊢
end Go.Ab
