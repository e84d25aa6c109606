/- Plain Lean: what the laws of this program's functions come to, in numbers and lists; no program is run here. -/
import Derived.Test.YtkobnmpilcpojaaGreatPP7v
set_option linter.unusedVariables false
set_option linter.unusedSimpArgs false
set_option maxRecDepth 100000
namespace Go.Proofs.YtkobnmpilcpojaaGreat
open Go Go.Ab Go.Proofs Go.IntWalk
theorem mul42 (m : Mx1T) (x : Int × Int × Unit) (ha : I64 x.1) (hb : I64 x.2.1) : fn27 m x = some ((m.1 || mo x.1 x.2.1, ()), mv x.1 x.2.1, ()) := by rw [mul23 m x ha hb, mulS_eq]; rfl
theorem add89 (m : Mx1T) (x : Int × Int × Unit) (ha : I64 x.1) (hb : I64 x.2.1) : fn32 m x = some ((m.1 || ao x.1 x.2.1, ()), av x.1 x.2.1, ()) := by rw [add41 m x ha hb, addS_eq]; rfl
theorem j1 : I64 4294967296 := by unfold I64; omega
theorem j0 : I64 0 := by unfold I64; omega
theorem vm34 (m : Mx1T) (x : Vec × Int × Unit) (h : V64 x.1) (hs : I64 x.2.1) : fn30 m x = some ((m.1 || vmO x.1 x.2.1, ()), vmV x.1 x.2.1, ()) := by
  obtain ⟨h1, h2, h3⟩ := h
  show law30 m x = _; unfold law30
  simp only [mul42, h1, h2, h3, hs, Option.bind_some, vmO, vmV, Bool.or_assoc]
theorem va44 (m : Mx1T) (x : Vec × Vec × Unit) (h : V64 x.1) (hs : V64 x.2.1) : fn31 m x = some ((m.1 || vaO x.1 x.2.1, ()), vaV x.1 x.2.1, ()) := by
  obtain ⟨h1, h2, h3⟩ := h; obtain ⟨k1, k2, k3⟩ := hs
  show law31 m x = _; unfold law31
  simp only [add89, h1, h2, h3, k1, k2, k3, Option.bind_some, vaO, vaV, Bool.or_assoc]
theorem clamp90 (x : Int × Int × Int × Unit) : fn82 x = some (clV x.1 x.2.1 x.2.2.1, ()) := by
  unfold fn82 law82 clV
  by_cases h1 : x.1 < x.2.1 <;> by_cases h2 : x.1 > x.2.2.1 <;> simp [h1, h2]
theorem vk45 (x : Vec × Int × Unit) : fn33 x = some (vkV x.1 x.2.1, ()) := by
  show law33 x = _; unfold law33
  simp only [clamp90, Option.bind_some]; rfl
end Go.Proofs.YtkobnmpilcpojaaGreat
