/- Plain Lean: what the laws of this program's functions come to, in numbers and lists; no program is run here. -/
import Derived.Test.YtkgoflpkdcdajaaGreatPPVec
set_option linter.unusedVariables false
set_option linter.unusedSimpArgs false
set_option maxRecDepth 100000
namespace Go.Proofs.YtkgoflpkdcdajaaGreat
open Go Go.Ab Go.Proofs Go.IntWalk
theorem mul40 (m : MT) (x : Int × Int × Unit) (ha : I64 x.1) (hb : I64 x.2.1) : fn40 m x = some ((m.1 || mo x.1 x.2.1, ()), mv x.1 x.2.1, ()) := by rw [mul20 m x ha hb, mulS_eq]; rfl
theorem add94 (m : MT) (x : Int × Int × Unit) (ha : I64 x.1) (hb : I64 x.2.1) : fn94 m x = some ((m.1 || ao x.1 x.2.1, ()), av x.1 x.2.1, ()) := by rw [add38 m x ha hb, addS_eq]; rfl
theorem sub77 (m : MT) (x : Int × Int × Unit) (ha : I64 x.1) (hb : I64 x.2.1) : fn77 m x = some ((m.1 || so x.1 x.2.1, ()), zv x.1 x.2.1, ()) := by rw [sub16 m x ha hb, subS_eq]; rfl
theorem div54 (m : MT) (x : Int × Int × Unit) (ha : I64 x.1) (hb : I64 x.2.1) : fn54 m x = some ((m.1 || dO x.1 x.2.1, ()), dv x.1 x.2.1, ()) := by rw [div30 m x ha hb, divS_eq]; rfl
theorem neg31' (m : MT) (x : Int × Unit) (ha : I64 x.1) : fn31 m x = some ((m.1 || so 0 x.1, ()), zv 0 x.1, ()) := by rw [neg29 m x ha, subS_eq]; rfl
theorem i1 : I64 4294967296 := by unfold I64; omega
theorem i2 : I64 2147483648 := by unfold I64; omega
theorem i0 : I64 0 := by unfold I64; omega
theorem vm29 (m : MT) (x : Vec × Int × Unit) (h : V64 x.1) (hs : I64 x.2.1) : fn29 m x = some ((m.1 || vmO x.1 x.2.1, ()), vmV x.1 x.2.1, ()) := by
  obtain ⟨h1, h2, h3⟩ := h
  show law29 m x = _; unfold law29
  simp only [mul40, h1, h2, h3, hs, Option.bind_some, vmO, vmV, Bool.or_assoc]
theorem vd30 (m : MT) (x : Vec × Int × Unit) (h : V64 x.1) (hs : I64 x.2.1) : fn30 m x = some ((m.1 || vdO x.1 x.2.1, ()), vdV x.1 x.2.1, ()) := by
  obtain ⟨h1, h2, h3⟩ := h
  show law30 m x = _; unfold law30
  simp only [div54, h1, h2, h3, hs, Option.bind_some, vdO, vdV, Bool.or_assoc]
theorem va56 (m : MT) (x : Vec × Vec × Unit) (h : V64 x.1) (hs : V64 x.2.1) : fn56 m x = some ((m.1 || vaO x.1 x.2.1, ()), vaV x.1 x.2.1, ()) := by
  obtain ⟨h1, h2, h3⟩ := h; obtain ⟨k1, k2, k3⟩ := hs
  show law56 m x = _; unfold law56
  simp only [add94, h1, h2, h3, k1, k2, k3, Option.bind_some, vaO, vaV, Bool.or_assoc]
theorem vs53 (m : MT) (x : Vec × Vec × Unit) (h : V64 x.1) (hs : V64 x.2.1) : fn53 m x = some ((m.1 || vsO x.1 x.2.1, ()), vsV x.1 x.2.1, ()) := by
  obtain ⟨h1, h2, h3⟩ := h; obtain ⟨k1, k2, k3⟩ := hs
  show law53 m x = _; unfold law53
  simp only [sub77, h1, h2, h3, k1, k2, k3, Option.bind_some, vsO, vsV, Bool.or_assoc]
theorem vk23 (x : Vec × Int × Unit) : fn23 x = some (vkV x.1 x.2.1, ()) := by
  show law23 x = _; unfold law23
  simp only [clamp37, Option.bind_some]; rfl
theorem len28' (m : MT) (x : Vec × Unit) (h : V64 x.1) : fn28 m x = some ((m.1 || lenO (sq3 x.1), ()), lenV (sq3 x.1), ()) := by
  obtain ⟨h1, h2, h3⟩ := h
  have hl : ∀ a ∈ [x.1.1, x.1.2.1, x.1.2.2.1], I64 a := by
    intro a ha
    simp only [List.mem_cons, List.not_mem_nil, or_false] at ha
    rcases ha with rfl | rfl | rfl <;> assumption
  have e := lenS68 m.1 _ hl (by simp)
  rw [lenS_eq] at e
  have e74 : fn74 m x.1 = some ((m.1 || lenO (sq3 x.1), ()), lenV (sq3 x.1), ()) := by
    show law74 m x.1 = _; unfold law74
    exact (bindT' e).trans rfl
  show law28 m x = _; unfold law28
  exact (bindT' e74).trans rfl
theorem vc47 (m : MT) (x : Vec × Vec × Unit) (h : V64 x.1) (hs : V64 x.2.1) : fn47 m x = some ((m.1 || vcO x.1 x.2.1, ()), vcV x.1 x.2.1, ()) := by
  obtain ⟨h1, h2, h3⟩ := h; obtain ⟨k1, k2, k3⟩ := hs
  have hL : V64 (vcL x.1 x.2.1) := ⟨mv_r _ _, mv_r _ _, mv_r _ _⟩
  have hR : V64 (vcR x.1 x.2.1) := ⟨mv_r _ _, mv_r _ _, mv_r _ _⟩
  unfold vcL at hL; unfold vcR at hR
  show law47 m x = _; unfold law47
  simp only [mul40, vs53, h1, h2, h3, k1, k2, k3, hL, hR, Option.bind_some, vcO, vcL, vcR, vcV, vsV, Bool.or_assoc]
theorem mx52 (m : MT) (x : Qua × Unit) (h : Q64 x.1) : fn52 m x = some ((m.1 || mxO x.1, ()), mxV x.1, ()) := by
  obtain ⟨h1, h2, h3, h4⟩ := h
  show law52 m x = _; unfold law52
  simp only [mul40, add94, sub77, h1, h2, h3, h4, i1, mv_r, av_r, zv_r, Option.bind_some, mxO, mxV, dgO, upO, dnO, dgV, upV, dnV, Bool.or_assoc]
theorem bk51 (m : MT) (x : Mtx × Vec × Unit) (h : M64 x.1) (hs : V64 x.2.1) : fn51 m x = some ((m.1 || bkO x.1 x.2.1, ()), bkV x.1 x.2.1, ()) := by
  obtain ⟨h1, h2, h3⟩ := h; obtain ⟨k1, k2, k3⟩ := hs
  show law51 m x = _; unfold law51
  simp only [vm29, va56, h1, h2, h3, k1, k2, k3, vmV_r, vaV_r, Option.bind_some, bkO, bkV, bk1, Bool.or_assoc]
theorem qm101 (m : MT) (x : Qua × Qua × Unit) (h : Q64 x.1) (hs : Q64 x.2.1) : fn101 m x = some ((m.1 || qmO x.1 x.2.1, ()), qmV x.1 x.2.1, ()) := by
  obtain ⟨h1, h2, h3, h4⟩ := h; obtain ⟨k1, k2, k3, k4⟩ := hs
  show law101 m x = _; unfold law101
  simp only [mul40, add94, sub77, h1, h2, h3, h4, k1, k2, k3, k4, mv_r, av_r, zv_r, Option.bind_some, qmO, qmV, q0O, q1O, q2O, q3O, q0V, q1V, q2V, q3V, Bool.or_assoc]
theorem len25 (m : MT) (x : Qua) (h : Q64 x) : fn25 m x = some ((m.1 || lenO (sq4 x), ()), lenV (sq4 x), ()) := by
  obtain ⟨h1, h2, h3, h4⟩ := h
  have hl : ∀ a ∈ [x.1, x.2.1, x.2.2.1, x.2.2.2.1], I64 a := by
    intro a ha
    simp only [List.mem_cons, List.not_mem_nil, or_false] at ha
    rcases ha with rfl | rfl | rfl | rfl <;> assumption
  have e := lenS68 m.1 _ hl (by simp)
  rw [lenS_eq] at e
  show law25 m x = _; unfold law25
  exact (bindT' e).trans rfl
theorem qu103 (m : MT) (x : Qua × Unit) (h : Q64 x.1) : fn103 m x = some ((m.1 || quO x.1, ()), quV x.1, ()) := by
  have e := len25 m x.1 h
  have hN := lenV_r (sq4_nn x.1)
  obtain ⟨h1, h2, h3, h4⟩ := h
  show law103 m x = _; unfold law103
  refine (bindT' e).trans ?_
  unfold quO quV
  by_cases h0 : quN x.1 = 0
  · rw [if_pos h0, if_pos h0]
    unfold quN at h0
    refine (bifT' (by simpa using h0)).trans ?_
    simp only [Bool.or_false]
  · rw [if_neg h0, if_neg h0]
    unfold quN at h0 ⊢
    refine (bifF' (by simpa using h0)).trans ?_
    simp only [div54, h1, h2, h3, h4, hN, Option.bind_some, Bool.or_assoc]
theorem qs57 (m : MT) (x : Qua × Vec × Int × Unit) (h : Q64 x.1) (hw : V64 x.2.1) (ht : I64 x.2.2.1) : fn57 m x = some ((m.1 || qsO x.1 x.2.1 x.2.2.1, ()), qsV x.1 x.2.1 x.2.2.1, ()) := by
  have hz : Q64 ((0, x.2.1) : Qua) := ⟨i0, hw.1, hw.2.1, hw.2.2⟩
  have e := qm101 m (x.1, (0, x.2.1), ()) h hz
  have hq := qmV_r x.1 (0, x.2.1)
  have hn := qnV_r x.1 x.2.1 x.2.2.1
  obtain ⟨h1, h2, h3, h4⟩ := h
  obtain ⟨g1, g2, g3, g4⟩ := hq
  unfold qnV hfV at hn
  show law57 m x = _; unfold law57
  refine (bindT' e).trans ?_
  simp only [qmV] at g1 g2 g3 g4 ⊢
  simp only [mul40, add94, qu103, h1, h2, h3, h4, g1, g2, g3, g4, hn, ht, i2, mv_r, av_r, zv_r, Option.bind_some, qsO, qsV, qnO, qnV, hfO, hfV, Bool.or_assoc]
end Go.Proofs.YtkgoflpkdcdajaaGreat
