/- Plain Lean: what the laws of this program's functions come to, in numbers and lists; no program is run here. -/
import Derived.Test.YtkobnmpilcpojaaGreatPPCar
set_option linter.unusedVariables false
set_option linter.unusedSimpArgs false
set_option maxRecDepth 100000
namespace Go.Ab
open Go Go.IntWalk
abbrev V3 : Type := (Int × Int × Int × Unit)
abbrev Whl : Type := (V3 × Int × Int × Int × Int × Int × Bool × Bool × Unit)
abbrev Car : Type := (Int × V3 × (Whl × Whl × Whl × Whl × Unit) × (Int × Int × Unit) × List Dot × Pan × List Dot × List Dot × Int × Int × Int × Int × Int × Int × Int × Int × List Int × Int × Int × Int × Int × Int × Int × Int × Int × Int × Int × Int × Int × Int × Int × Int × Unit)
structure FewP (p : Pan) : Prop where
  xs : p.1.length ≤ 40
  ys : p.2.1.length ≤ 40
  rows : p.2.2.1.length ≤ 40
  row : ∀ r ∈ p.2.2.1, r.length ≤ 40
structure FewC (c : Car) : Prop where
  damper : List.length (c.snd.snd.snd.snd.fst) ≤ 40
  pane : FewP (c.snd.snd.snd.snd.snd.fst)
  torque : List.length (c.snd.snd.snd.snd.snd.snd.fst) ≤ 40
  air : List.length (c.snd.snd.snd.snd.snd.snd.snd.fst) ≤ 40
  gears : List.length (c.snd.snd.snd.snd.snd.snd.snd.snd.snd.snd.snd.snd.snd.snd.snd.snd.fst) ≤ 20
  steer : 0 ≤ (c.snd.snd.snd.snd.snd.snd.snd.snd.snd.snd.snd.snd.snd.snd.snd.snd.snd.snd.snd.snd.snd.snd.snd.fst : Int) ∧ (c.snd.snd.snd.snd.snd.snd.snd.snd.snd.snd.snd.snd.snd.snd.snd.snd.snd.snd.snd.snd.snd.snd.snd.fst : Int) < 4294967296
  rate : 0 ≤ (c.snd.snd.snd.snd.snd.snd.snd.snd.snd.snd.snd.snd.snd.snd.snd.snd.snd.snd.snd.snd.snd.snd.snd.snd.fst : Int) ∧ (c.snd.snd.snd.snd.snd.snd.snd.snd.snd.snd.snd.snd.snd.snd.snd.snd.snd.snd.snd.snd.snd.snd.snd.snd.fst : Int) < 4294967296
theorem counted_le {p : Pan} (h : countedP p = true) : 2 ≤ p.1.length ∧ p.1.length ≤ 32 ∧ 2 ≤ p.2.1.length ∧ p.2.1.length ≤ 32 ∧ p.2.2.1.length = p.2.1.length ∧ ∀ r ∈ p.2.2.1, r.length = p.1.length := by
  unfold countedP mayN at h
  simp only [Bool.and_eq_true, decide_eq_true_eq, List.all_eq_true] at h
  obtain ⟨⟨⟨⟨h1, h2⟩, h3, h4⟩, h5⟩, h6⟩ := h
  exact ⟨h1, h2, h3, h4, h5, h6⟩
theorem paneR_zero {p : Pan} (h : (paneR p != 0) = false) : countedP p = true ∧ p.1.any farI = false ∧ p.2.1.any farI = false ∧ p.2.2.1.any (fun r => r.any farI) = false ∧ risesL p.1 = true ∧ risesL p.2.1 = true := by
  unfold paneR at h
  cases h1 : countedP p <;> cases h2 : p.1.any farI <;> cases h3 : p.2.1.any farI <;> cases h4 : p.2.2.1.any (fun r => r.any farI) <;> cases h5 : risesL p.1 <;> cases h6 : risesL p.2.1 <;> simp [h1, h2, h3, h4, h5, h6] at h ⊢
end Go.Ab
