/- Plain Lean: what the laws of this program's functions come to, in numbers and lists; no program is run here. -/
import Derived.Test.YtkgoflpkdcdajaaGreatPP28o
set_option linter.unusedVariables false
set_option linter.unusedSimpArgs false
set_option maxRecDepth 100000
namespace Go.Proofs.YtkgoflpkdcdajaaGreat
open Go Go.Ab Go.Proofs Go.IntWalk
/- The document's vectors, matrices and quaternions, in plain Lean (r28). -/
theorem mul42 (m : Mx1T) (x : Int × Int × Unit) (ha : I64 x.1) (hb : I64 x.2.1) : fn42 m x = some ((m.1 || mo x.1 x.2.1, ()), mv x.1 x.2.1, ()) := by rw [mul23 m x ha hb, mulS_eq]; rfl
theorem add89 (m : Mx1T) (x : Int × Int × Unit) (ha : I64 x.1) (hb : I64 x.2.1) : fn89 m x = some ((m.1 || ao x.1 x.2.1, ()), av x.1 x.2.1, ()) := by rw [add41 m x ha hb, addS_eq]; rfl
theorem sub81 (m : Mx1T) (x : Int × Int × Unit) (ha : I64 x.1) (hb : I64 x.2.1) : fn81 m x = some ((m.1 || so x.1 x.2.1, ()), zv x.1 x.2.1, ()) := by rw [sub22 m x ha hb, subS_eq]; rfl
theorem div61 (m : Mx1T) (x : Int × Int × Unit) (ha : I64 x.1) (hb : I64 x.2.1) : fn61 m x = some ((m.1 || dO x.1 x.2.1, ()), dv x.1 x.2.1, ()) := by rw [div42 m x ha hb, divS_eq]; rfl
theorem neg36 (m : Mx1T) (x : Int × Unit) (ha : I64 x.1) : fn36 m x = some ((m.1 || so 0 x.1, ()), zv 0 x.1, ()) := by rw [neg64 m x ha, subS_eq]; rfl
theorem j1 : I64 4294967296 := by unfold I64; omega
theorem j2 : I64 2147483648 := by unfold I64; omega
theorem j0 : I64 0 := by unfold I64; omega
theorem vm34 (m : Mx1T) (x : Vec × Int × Unit) (h : V64 x.1) (hs : I64 x.2.1) : fn34 m x = some ((m.1 || vmO x.1 x.2.1, ()), vmV x.1 x.2.1, ()) := by
  obtain ⟨h1, h2, h3⟩ := h
  show law34 m x = _; unfold law34
  simp only [mul42, h1, h2, h3, hs, Option.bind_some, vmO, vmV, Bool.or_assoc]
theorem vd35 (m : Mx1T) (x : Vec × Int × Unit) (h : V64 x.1) (hs : I64 x.2.1) : fn35 m x = some ((m.1 || vdO x.1 x.2.1, ()), vdV x.1 x.2.1, ()) := by
  obtain ⟨h1, h2, h3⟩ := h
  show law35 m x = _; unfold law35
  simp only [div61, h1, h2, h3, hs, Option.bind_some, vdO, vdV, Bool.or_assoc]
theorem va44 (m : Mx1T) (x : Vec × Vec × Unit) (h : V64 x.1) (hs : V64 x.2.1) : fn44 m x = some ((m.1 || vaO x.1 x.2.1, ()), vaV x.1 x.2.1, ()) := by
  obtain ⟨h1, h2, h3⟩ := h; obtain ⟨k1, k2, k3⟩ := hs
  show law44 m x = _; unfold law44
  simp only [add89, h1, h2, h3, k1, k2, k3, Option.bind_some, vaO, vaV, Bool.or_assoc]
theorem clamp90 (x : Int × Int × Int × Unit) : fn90 x = some (clV x.1 x.2.1 x.2.2.1, ()) := by
  unfold fn90 law90 clV
  by_cases h1 : x.1 < x.2.1 <;> by_cases h2 : x.1 > x.2.2.1 <;> simp [h1, h2]
theorem vk45 (x : Vec × Int × Unit) : fn45 x = some (vkV x.1 x.2.1, ()) := by
  show law45 x = _; unfold law45
  simp only [clamp90, Option.bind_some]; rfl
theorem len125 (m : Mx1T) (x : Qua) (h : Q64 x) : fn125 m x = some ((m.1 || lenO (sq4 x), ()), lenV (sq4 x), ()) := by
  have e := lenS125 m.1 _ _ _ _ h.1 h.2.1 h.2.2.1 h.2.2.2
  rw [lenS_eq] at e
  exact e
theorem len33 (m : Mx1T) (x : Vec × Unit) (h : V64 x.1) : fn33 m x = some ((m.1 || lenO (sq3 x.1), ()), lenV (sq3 x.1), ()) := by
  have e := len125 m (0, x.1) ⟨j0, h.1, h.2.1, h.2.2⟩
  have e0 : sq4 (0, x.1) = sq3 x.1 := by unfold sq4 sq3; simp
  rw [e0] at e
  have e80 : fn80 m x.1 = some ((m.1 || lenO (sq3 x.1), ()), lenV (sq3 x.1), ()) := by
    show law80 m x.1 = _; unfold law80
    exact (bindT' e).trans rfl
  show law33 m x = _; unfold law33
  exact (bindT' e80).trans rfl
theorem vc48 (m : Mx1T) (x : Vec × Vec × Unit) (h : V64 x.1) (hs : V64 x.2.1) : fn48 m x = some ((m.1 || vcO x.1 x.2.1, ()), vcV x.1 x.2.1, ()) := by
  obtain ⟨h1, h2, h3⟩ := h; obtain ⟨k1, k2, k3⟩ := hs
  show law48 m x = _; unfold law48
  simp only [mul42, sub81, h1, h2, h3, k1, k2, k3, mv_r, Option.bind_some, vcO, vcL, vcR, vcV, vsV, vsO, Bool.or_assoc]
  congr 3
  ac_rfl
end Go.Proofs.YtkgoflpkdcdajaaGreat
