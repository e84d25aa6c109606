/- Plain Lean: what the laws of this program's functions come to, in numbers and lists; no program is run here. -/
import Derived.Test.YtkobnmpilcpojaaGreatPPVecN
set_option linter.unusedVariables false
set_option linter.unusedSimpArgs false
set_option maxRecDepth 100000
namespace Go.Proofs.YtkobnmpilcpojaaGreat
open Go Go.Ab Go.Proofs Go.IntWalk
theorem mul40 (m : MT) (x : Int × Int × Unit) (ha : I64 x.1) (hb : I64 x.2.1) : fn21 m x = some ((m.1 || mo x.1 x.2.1, ()), mv x.1 x.2.1, ()) := by rw [mul20 m x ha hb, mulS_eq]; rfl
theorem add94 (m : MT) (x : Int × Int × Unit) (ha : I64 x.1) (hb : I64 x.2.1) : fn23 m x = some ((m.1 || ao x.1 x.2.1, ()), av x.1 x.2.1, ()) := by rw [add38 m x ha hb, addS_eq]; rfl
theorem i1 : I64 4294967296 := by unfold I64; omega
theorem i0 : I64 0 := by unfold I64; omega
theorem vm29 (m : MT) (x : Vec × Int × Unit) (h : V64 x.1) (hs : I64 x.2.1) : fn78 m x = some ((m.1 || vmO x.1 x.2.1, ()), vmV x.1 x.2.1, ()) := by
  obtain ⟨h1, h2, h3⟩ := h
  show law78 m x = _; unfold law78
  simp only [mul40, h1, h2, h3, hs, Option.bind_some, vmO, vmV, Bool.or_assoc]
theorem va56 (m : MT) (x : Vec × Vec × Unit) (h : V64 x.1) (hs : V64 x.2.1) : fn54 m x = some ((m.1 || vaO x.1 x.2.1, ()), vaV x.1 x.2.1, ()) := by
  obtain ⟨h1, h2, h3⟩ := h; obtain ⟨k1, k2, k3⟩ := hs
  show law54 m x = _; unfold law54
  simp only [add94, h1, h2, h3, k1, k2, k3, Option.bind_some, vaO, vaV, Bool.or_assoc]
theorem clamp37 (x : Int × Int × Int × Unit) : fn64 x = some (clV x.1 x.2.1 x.2.2.1, ()) := by
  unfold fn64 law64 clV
  by_cases h1 : x.1 < x.2.1 <;> by_cases h2 : x.1 > x.2.2.1 <;> simp [h1, h2]
theorem vk23 (x : Vec × Int × Unit) : fn16 x = some (vkV x.1 x.2.1, ()) := by
  show law16 x = _; unfold law16
  simp only [clamp37, Option.bind_some]; rfl
end Go.Proofs.YtkobnmpilcpojaaGreat
