/- Plain Lean: what the laws of this program's functions come to, in numbers and lists; no program is run here. -/
import Derived.Test.YtkobnmpilcpojaaGreatPP7w
set_option linter.unusedVariables false
set_option linter.unusedSimpArgs false
set_option maxRecDepth 100000
namespace Go.Proofs.YtkobnmpilcpojaaGreat
open Go Go.Ab Go.Proofs Go.IntWalk
theorem slip2 (o : Bool) (x : Int × Int × Int × Unit) (h1 : I64 x.1) (h2 : I64 x.2.1) (h3 : I64 x.2.2.1) : ∃ o2 a b, fn20 (o, ()) x = some ((o2, ()), a, b, ()) ∧ fn26 (o, ()) x = some ((o2, ()), a, b, ()) ∧ I64 a ∧ I64 b := by
  show ∃ o2 a b, law20 (o, ()) x = some ((o2, ()), a, b, ()) ∧ law26 (o, ()) x = some ((o2, ()), a, b, ()) ∧ I64 a ∧ I64 b
  unfold law20 law26
  have e0 := abs14 (o, ()) (x.1, ()) h1
  have f0 := absD14 (o, ()) (x.1, ()) h1
  have r0 := absS_r o x.1 h1
  simp only at e0 f0
  generalize absS o x.1 = p0 at e0 f0 r0
  have e1 := sub16 (p0.1, ()) (x.2.2.1, x.1, ()) h3 h1
  have f1 := sub22 (p0.1, ()) (x.2.2.1, x.1, ()) h3 h1
  have r1 := subS_r p0.1 x.2.2.1 x.1
  simp only at e1 f1
  generalize subS p0.1 x.2.2.1 x.1 = p1 at e1 f1 r1
  have hs : I64 (if 4294967296 > p0.2 then 4294967296 else p0.2) := by
    split
    · unfold I64; omega
    · exact r0
  obtain ⟨s, es⟩ : ∃ s, s = (if 4294967296 > p0.2 then 4294967296 else p0.2) := ⟨_, rfl⟩
  rw [← es] at hs
  have e2 := div30 (p1.1, ()) (p1.2, s, ()) r1 hs
  have f2 := div42 (p1.1, ()) (p1.2, s, ()) r1 hs
  have r2 := divS_r p1.1 p1.2 s
  simp only at e2 f2
  generalize divS p1.1 p1.2 s = p2 at e2 f2 r2
  have e4 := div30 (p2.1, ()) (x.2.1, s, ()) h2 hs
  have f4 := div42 (p2.1, ()) (x.2.1, s, ()) h2 hs
  have r4 := divS_r p2.1 x.2.1 s
  simp only at e4 f4
  generalize divS p2.1 x.2.1 s = p4 at e4 f4 r4
  have e3 := clamp37 (p2.2, -17179869184, 17179869184, ())
  have e5 := clamp37 (p4.2, -17179869184, 17179869184, ())
  have f3 := clamp90 (p2.2, -17179869184, 17179869184, ())
  have f5 := clamp90 (p4.2, -17179869184, 17179869184, ())
  rw [es] at e2 f2 e4 f4
  have k1 : I64 (-17179869184) := by unfold I64; omega
  have k2 : I64 17179869184 := by unfold I64; omega
  exact ⟨p4.1, clV p2.2 (-17179869184) 17179869184, clV p4.2 (-17179869184) 17179869184, (bindT e0).trans ((bindT e1).trans ((bindT e2).trans ((bindT e3).trans ((bindT e4).trans (bindT e5))))), (bindT f0).trans ((bindT f1).trans ((bindT f2).trans ((bindT f4).trans ((bindT f3).trans (bindT f5))))), clV_r r2 k1 k2, clV_r r4 k1 k2⟩
theorem roll2 (o : Bool) (x : Int × Int × Int × Unit) (h1 : I64 x.1) (h2 : I64 x.2.1) (h3 : I64 x.2.2.1) : ∃ o2 a, fn24 (o, ()) x = some ((o2, ()), a, ()) ∧ fn29 (o, ()) x = some ((o2, ()), a, ()) ∧ I64 a := by
  show ∃ o2 a, law24 (o, ()) x = some ((o2, ()), a, ()) ∧ law29 (o, ()) x = some ((o2, ()), a, ()) ∧ I64 a
  unfold law24 law29
  have k1 : I64 (-4294967296) := by unfold I64; omega
  have k2 : I64 4294967296 := by unfold I64; omega
  have e0 := clamp37 (x.2.2.1, -4294967296, 4294967296, ())
  have f0 := clamp90 (x.2.2.1, -4294967296, 4294967296, ())
  have r0 := clV_r h3 k1 k2
  simp only at e0 f0
  generalize clV x.2.2.1 (-4294967296) 4294967296 = c at e0 f0 r0
  have e1 := mul20 (o, ()) (c, x.1, ()) r0 h1
  have f1 := mul23 (o, ()) (c, x.1, ()) r0 h1
  have r1 := mulS_r o c x.1
  simp only at e1 f1
  generalize mulS o c x.1 = p1 at e1 f1 r1
  have e2 := mul20 (p1.1, ()) (p1.2, x.2.1, ()) r1 h2
  have f2 := mul23 (p1.1, ()) (p1.2, x.2.1, ()) r1 h2
  have r2 := mulS_r p1.1 p1.2 x.2.1
  simp only at e2 f2
  generalize mulS p1.1 p1.2 x.2.1 = p2 at e2 f2 r2
  have e3 := neg29 (p2.1, ()) (p2.2, ()) r2
  have f3 := neg64 (p2.1, ()) (p2.2, ()) r2
  have r3 := subS_r p2.1 0 p2.2
  simp only at e3 f3
  generalize subS p2.1 0 p2.2 = p3 at e3 f3 r3
  exact ⟨p3.1, p3.2, (bindT e0).trans ((bindT e1).trans ((bindT e2).trans (bindT e3))), (bindT f0).trans ((bindT f1).trans ((bindT f2).trans (bindT f3))), r3⟩
theorem va_zero' {v : Vec} (h : V64 v) : vaV (0, 0, 0, ()) v = v ∧ vaO (0, 0, 0, ()) v = false := by
  obtain ⟨x, y, z, _⟩ := v
  obtain ⟨h1, h2, h3⟩ := h
  simp only at h1 h2 h3
  unfold vaV vaO av ao
  simp only [Int.zero_add, sv_in h1, sv_in h2, sv_in h3, ov_in h1, ov_in h2, ov_in h3, Bool.or_self, and_self]
theorem Z64' : V64 (0, 0, 0, ()) := by unfold V64 I64; simp
theorem body2 (o : Bool) (x : CarT × Int × StandT × KindT × Int × Int × Unit) (r : Int) (hr : I64 r) (hp : FewP x.1.2.2.2.2.2.1) (ho : OkP x.1.2.2.2.2.2.1) (hs : I64 x.1.2.2.2.2.2.2.2.2.1)
    (hn : V64 x.2.2.1.2.2.2.1) (hf : V64 x.2.2.1.2.2.2.2.1) (hl : V64 x.2.2.1.2.2.2.2.2.1) (ha : I64 x.2.2.1.2.2.2.2.2.2.1) (hb : I64 x.2.2.1.2.2.2.2.2.2.2.1) (hg : I64 x.2.2.2.1.1) (hd : I64 x.2.2.2.1.2.1) (hload : I64 x.2.2.2.2.1) (hw : I64 x.2.2.2.2.2.1) :
    ∃ z, bodyP (o, ()) x r = some z ∧ bodyD (o, ()) x r = some z := by
  have e0 := mul20 (o, ()) (x.2.2.2.2.2.1, r, ()) hw hr
  have f0 := mul23 (o, ()) (x.2.2.2.2.2.1, r, ()) hw hr
  have r0 := mulS_r o x.2.2.2.2.2.1 r
  simp only at e0 f0
  generalize mulS o x.2.2.2.2.2.1 r = p0 at e0 f0 r0
  obtain ⟨o1, a, b, e1, f1, r1, r2⟩ := slip2 p0.1 (x.2.2.1.2.2.2.2.2.2.1, x.2.2.1.2.2.2.2.2.2.2.1, p0.2, ()) ha hb r0
  obtain ⟨o2, fa, fb, e2, f2, r3, r4⟩ := force78 o1 (x.1, x.2.2.2.2.1, x.2.2.2.1.1, a, b, ()) hp ho hs hload hg r1 r2
  obtain ⟨o3, ro, e3, f3, r5⟩ := roll2 o2 (x.2.2.2.2.1, x.2.2.2.1.2.1, x.2.2.1.2.2.2.2.2.2.1, ()) hload hd ha
  have e4 := add94 (o3, ()) (fa, ro, ()) r3 r5
  have e5 := fun k => vm29 k (x.2.2.1.2.2.2.1, x.2.2.2.2.1, ()) hn hload
  have e6 := fun k => va56 k ((0, 0, 0, ()), vmV x.2.2.1.2.2.2.1 x.2.2.2.2.1, ()) Z64' (vmV_r _ _)
  obtain ⟨z1, z2⟩ := va_zero' (vmV_r x.2.2.1.2.2.2.1 x.2.2.2.2.1)
  simp only [z1, z2] at e6
  have e7 := fun k => vm29 k (x.2.2.1.2.2.2.2.1, av fa ro, ()) hf (av_r _ _)
  have e8 := fun k => va56 k (vmV x.2.2.1.2.2.2.1 x.2.2.2.2.1, vmV x.2.2.1.2.2.2.2.1 (av fa ro), ()) (vmV_r _ _) (vmV_r _ _)
  have e9 := fun k => vm29 k (x.2.2.1.2.2.2.2.2.1, fb, ()) hl r4
  have e10 := fun k => va56 k (vaV (vmV x.2.2.1.2.2.2.1 x.2.2.2.2.1) (vmV x.2.2.1.2.2.2.2.1 (av fa ro)), vmV x.2.2.1.2.2.2.2.2.1 fb, ()) (vaV_r _ _) (vmV_r _ _)
  have f5 := fun k => vm34 k (x.2.2.1.2.2.2.1, x.2.2.2.2.1, ()) hn hload
  have f4 := fun k => add89 k (fa, ro, ()) r3 r5
  have f7 := fun k => vm34 k (x.2.2.1.2.2.2.2.1, av fa ro, ()) hf (av_r _ _)
  have f8 := fun k => va44 k (vmV x.2.2.1.2.2.2.1 x.2.2.2.2.1, vmV x.2.2.1.2.2.2.2.1 (av fa ro), ()) (vmV_r _ _) (vmV_r _ _)
  have f9 := fun k => vm34 k (x.2.2.1.2.2.2.2.2.1, fb, ()) hl r4
  have f10 := fun k => va44 k (vaV (vmV x.2.2.1.2.2.2.1 x.2.2.2.2.1) (vmV x.2.2.1.2.2.2.2.1 (av fa ro)), vmV x.2.2.1.2.2.2.2.2.1 fb, ()) (vaV_r _ _) (vmV_r _ _)
  have hP : ∃ A : Bool, bodyP (o, ()) x r = some ((A, ()), (((vkV (vaV (vaV (vmV x.2.2.1.2.2.2.1 x.2.2.2.2.1) (vmV x.2.2.1.2.2.2.2.1 (av fa ro))) (vmV x.2.2.1.2.2.2.2.2.1 fb)) 18014398509481984), x.2.2.1.2.2.1, ()), fa, a, ())) ∧ A = (((((((o3 || ao fa ro) || vmO x.2.2.1.2.2.2.1 x.2.2.2.2.1) || false) || vmO x.2.2.1.2.2.2.2.1 (av fa ro)) || vaO (vmV x.2.2.1.2.2.2.1 x.2.2.2.2.1) (vmV x.2.2.1.2.2.2.2.1 (av fa ro))) || vmO x.2.2.1.2.2.2.2.2.1 fb) || vaO (vaV (vmV x.2.2.1.2.2.2.1 x.2.2.2.2.1) (vmV x.2.2.1.2.2.2.2.1 (av fa ro))) (vmV x.2.2.1.2.2.2.2.2.1 fb)) := by
    unfold bodyP
    exact ⟨_, (bindT e0).trans ((bindT e1).trans ((bindT e2).trans ((bindT e3).trans ((bindT e4).trans ((bindT (e5 _)).trans ((bindT (e6 _)).trans ((bindT (e7 _)).trans ((bindT (e8 _)).trans ((bindT (e9 _)).trans ((bindT (e10 _)).trans ((bindT (vk23 (vaV (vaV (vmV x.2.2.1.2.2.2.1 x.2.2.2.2.1) (vmV x.2.2.1.2.2.2.2.1 (av fa ro))) (vmV x.2.2.1.2.2.2.2.2.1 fb), 18014398509481984, ()))).trans rfl))))))))))), rfl⟩
  have hD : ∃ A : Bool, bodyD (o, ()) x r = some ((A, ()), (((vkV (vaV (vaV (vmV x.2.2.1.2.2.2.1 x.2.2.2.2.1) (vmV x.2.2.1.2.2.2.2.1 (av fa ro))) (vmV x.2.2.1.2.2.2.2.2.1 fb)) 18014398509481984), x.2.2.1.2.2.1, ()), fa, a, ())) ∧ A = ((((((o3 || vmO x.2.2.1.2.2.2.1 x.2.2.2.2.1) || ao fa ro) || vmO x.2.2.1.2.2.2.2.1 (av fa ro)) || vaO (vmV x.2.2.1.2.2.2.1 x.2.2.2.2.1) (vmV x.2.2.1.2.2.2.2.1 (av fa ro))) || vmO x.2.2.1.2.2.2.2.2.1 fb) || vaO (vaV (vmV x.2.2.1.2.2.2.1 x.2.2.2.2.1) (vmV x.2.2.1.2.2.2.2.1 (av fa ro))) (vmV x.2.2.1.2.2.2.2.2.1 fb)) := by
    unfold bodyD
    exact ⟨_, (bindT f0).trans ((bindT f1).trans ((bindT f2).trans ((bindT f3).trans ((bindT (f5 _)).trans ((bindT (f4 _)).trans ((bindT (f7 _)).trans ((bindT (f8 _)).trans ((bindT (f9 _)).trans ((bindT (f10 _)).trans ((bindT (vk45 (vaV (vaV (vmV x.2.2.1.2.2.2.1 x.2.2.2.2.1) (vmV x.2.2.1.2.2.2.2.1 (av fa ro))) (vmV x.2.2.1.2.2.2.2.2.1 fb), 18014398509481984, ()))).trans rfl)))))))))), rfl⟩
  obtain ⟨A, hP, hA⟩ := hP
  obtain ⟨B, hD, hB⟩ := hD
  have hAB : B = A := by
    rw [hA, hB]
    simp only [Bool.or_false]
    ac_rfl
  rw [hAB] at hD
  exact ⟨_, hP, hD⟩
theorem push2 (o : Bool) (x : CarT × Int × StandT × KindT × Int × Int × Unit) (h0 : I64 x.1.2.2.1.1.2.1) (h1 : I64 x.1.2.2.1.2.1.2.1) (h2 : I64 x.1.2.2.1.2.2.1.2.1) (h3 : I64 x.1.2.2.1.2.2.2.1.2.1) (hp : FewP x.1.2.2.2.2.2.1) (ho : OkP x.1.2.2.2.2.2.1) (hs : I64 x.1.2.2.2.2.2.2.2.2.1)
    (hn : V64 x.2.2.1.2.2.2.1) (hf : V64 x.2.2.1.2.2.2.2.1) (hl : V64 x.2.2.1.2.2.2.2.2.1) (ha : I64 x.2.2.1.2.2.2.2.2.2.1) (hb : I64 x.2.2.1.2.2.2.2.2.2.2.1) (hg : I64 x.2.2.2.1.1) (hd : I64 x.2.2.2.1.2.1) (hload : I64 x.2.2.2.2.1) (hw : I64 x.2.2.2.2.2.1) :
    ∃ z, fn7 (o, ()) x = some z ∧ fn8 (o, ()) x = some z := by
  have B := fun r hr => body2 o x r hr hp ho hs hn hf hl ha hb hg hd hload hw
  show ∃ z, law7 (o, ()) x = some z ∧ law8 (o, ()) x = some z
  unfold law7 law8
  cases hc : x.2.2.1.1
  · exact ⟨_, bifT (by simp), bifT (by simp)⟩
  by_cases c1 : x.2.1 < 0
  · exact ⟨_, (bifF (by simp)).trans (bifT (decide_eq_true c1)), (bifF (by simp)).trans (bifT (decide_eq_true c1))⟩
  by_cases c2 : x.2.1 ≥ 4
  · exact ⟨_, (bifF (by simp)).trans ((bifF (decide_eq_false c1)).trans (bifT (decide_eq_true c2))), (bifF (by simp)).trans ((bifF (decide_eq_false c1)).trans (bifT (decide_eq_true (by omega))))⟩
  have c3 : ¬ x.2.1 > 3 := by omega
  have d0 : ∀ k : Int, x.2.1 = k → decide (x.2.1 = k) = true := fun k h => decide_eq_true h
  by_cases i0 : x.2.1 = 0
  · obtain ⟨z, p, q⟩ := B _ h0
    exact ⟨z, (bifF (by simp)).trans ((bifF (decide_eq_false c1)).trans ((bifF (decide_eq_false c2)).trans ((bifT (decide_eq_true i0)).trans p))), (bifF (by simp)).trans ((bifF (decide_eq_false c1)).trans ((bifF (decide_eq_false c3)).trans ((bifT (decide_eq_true i0)).trans q)))⟩
  by_cases i1 : x.2.1 = 1
  · obtain ⟨z, p, q⟩ := B _ h1
    exact ⟨z, (bifF (by simp)).trans ((bifF (decide_eq_false c1)).trans ((bifF (decide_eq_false c2)).trans ((bifF (decide_eq_false i0)).trans ((bifT (decide_eq_true i1)).trans p)))), (bifF (by simp)).trans ((bifF (decide_eq_false c1)).trans ((bifF (decide_eq_false c3)).trans ((bifF (decide_eq_false i0)).trans ((bifT (decide_eq_true i1)).trans q))))⟩
  by_cases i2 : x.2.1 = 2
  · obtain ⟨z, p, q⟩ := B _ h2
    exact ⟨z, (bifF (by simp)).trans ((bifF (decide_eq_false c1)).trans ((bifF (decide_eq_false c2)).trans ((bifF (decide_eq_false i0)).trans ((bifF (decide_eq_false i1)).trans ((bifT (decide_eq_true i2)).trans p))))), (bifF (by simp)).trans ((bifF (decide_eq_false c1)).trans ((bifF (decide_eq_false c3)).trans ((bifF (decide_eq_false i0)).trans ((bifF (decide_eq_false i1)).trans ((bifT (decide_eq_true i2)).trans q)))))⟩
  have i3 : x.2.1 = 3 := by omega
  obtain ⟨z, p, q⟩ := B _ h3
  exact ⟨z, (bifF (by simp)).trans ((bifF (decide_eq_false c1)).trans ((bifF (decide_eq_false c2)).trans ((bifF (decide_eq_false i0)).trans ((bifF (decide_eq_false i1)).trans ((bifF (decide_eq_false i2)).trans ((bifT (decide_eq_true i3)).trans p)))))), (bifF (by simp)).trans ((bifF (decide_eq_false c1)).trans ((bifF (decide_eq_false c3)).trans ((bifF (decide_eq_false i0)).trans ((bifF (decide_eq_false i1)).trans ((bifF (decide_eq_false i2)).trans ((bifT (decide_eq_true i3)).trans q))))))⟩
end Go.Proofs.YtkobnmpilcpojaaGreat
