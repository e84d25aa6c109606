/- Plain Lean: what the laws of this program's functions come to, in numbers and lists; no program is run here. -/
import Derived.Test.YtkobnmpilcpojaaGreatPP7i
set_option linter.unusedVariables false
set_option linter.unusedSimpArgs false
set_option maxRecDepth 100000
namespace Go.Proofs.YtkobnmpilcpojaaGreat
open Go Go.Ab Go.Proofs Go.IntWalk
def paneE (p : Pan) (x y : Int) : Int := if (paneR p != 0) = true then 0 else paneV p x y
theorem pane11 (o : Bool) (p : Pan) (hp : FewP p) (ho : OkP p) (x y : Int) (hx : I64 x) (hy : I64 y) : fn129 (o, ()) (p, x, y, ()) = some (res (o, paneE p x y)) := by
  unfold paneE
  cases h : (paneR p != 0)
  · rw [if_neg (by simp)]; exact eval16 o p hp ho h x y hx hy
  · rw [if_pos rfl]; exact off16 o p hp h x y
theorem pane13 (o : Bool) (p : Pan) (hp : FewP p) (ho : OkP p) (x y : Int) (hx : I64 x) (hy : I64 y) : fn133 (o, ()) (p, x, y, ()) = some (res (o, paneE p x y)) := by
  unfold paneE
  cases h : (paneR p != 0)
  · rw [if_neg (by simp)]; exact eval17 o p hp ho h x y hx hy
  · rw [if_pos rfl]; exact off17 o p hp h x y
theorem paneE_r (p : Pan) (ho : OkP p) (x y : Int) : I64 (paneE p x y) := by
  unfold paneE
  cases h : (paneR p != 0)
  · rw [if_neg (by simp)]; exact evalS_r false _ y (tab_ok (rightP_of h) x)
  · rw [if_pos rfl]; exact I64_zero
theorem absD14 (m : Mx1T) (x : Int × Unit) (ha : I64 x.1) : fn79 m x = some (res (absS m.1 x.1)) := by
  show law79 m x = _
  unfold law79 absS
  by_cases h : x.1 < 0
  · rw [if_pos h]
    exact (bifT (decide_eq_true h)).trans ((bindT (neg64 m x ha)).trans rfl)
  · rw [if_neg h]
    exact (bifF (decide_eq_false h)).trans rfl
theorem absS_r (o : Bool) (a : Int) (ha : I64 a) : I64 (absS o a).2 := by
  unfold absS
  split
  · exact subS_r _ _ _
  · exact ha
def gripS (o : Bool) (p : Pan) (load slip : Int) : Bool × Int := ((absS o slip).1, paneE p (absS o slip).2 load)
theorem grip5 (o : Bool) (x : CarT × Int × Int × Unit) (hp : FewP x.1.2.2.2.2.2.1) (ho : OkP x.1.2.2.2.2.2.1) (h1 : I64 x.2.1) (h2 : I64 x.2.2.1) : fn75 (o, ()) x = some (res (gripS o x.1.2.2.2.2.2.1 x.2.1 x.2.2.1)) := by
  show law75 (o, ()) x = _
  unfold law75
  exact (bindT (abs14 (o, ()) (x.2.2.1, ()) h2)).trans ((bindT (pane11 _ _ hp ho _ _ (absS_r _ _ h2) h1)).trans rfl)
theorem grip6 (o : Bool) (x : CarT × Int × Int × Unit) (hp : FewP x.1.2.2.2.2.2.1) (ho : OkP x.1.2.2.2.2.2.1) (h1 : I64 x.2.1) (h2 : I64 x.2.2.1) : fn87 (o, ()) x = some (res (gripS o x.1.2.2.2.2.2.1 x.2.1 x.2.2.1)) := by
  show law87 (o, ()) x = _
  unfold law87
  exact (bindT (absD14 (o, ()) (x.2.2.1, ()) h2)).trans ((bindT (pane13 _ _ hp ho _ _ (absS_r _ _ h2) h1)).trans rfl)
theorem lenS_r (o : Bool) {S : Int} (h : 0 ≤ S) : I64 (lenS o S).2 := by rw [lenS_eq]; exact lenV_r h
theorem len16 (o : Bool) (x : Int × Int × Unit) (h1 : I64 x.1) (h2 : I64 x.2.1) : fn74 (o, ()) x = some (res (lenS o (sqs [x.1, x.2.1]))) := by
  have hl : ∀ a ∈ [x.1, x.2.1], I64 a := by
    intro a ha
    simp only [List.mem_cons, List.not_mem_nil, or_false] at ha
    rcases ha with rfl | rfl <;> assumption
  have e := lenS68 o _ hl (by simp)
  show law74 (o, ()) x = _
  unfold law74
  exact (bindT e).trans rfl
theorem len21 (o : Bool) (x : Int × Int × Unit) (h1 : I64 x.1) (h2 : I64 x.2.1) : fn86 (o, ()) x = some (res (lenS o (sqs [x.1, x.2.1]))) := by
  have e := lenS125 o 0 x.1 x.2.1 0 I64_zero h1 h2 I64_zero
  have es : sqs [0, x.1, x.2.1, 0] = sqs [x.1, x.2.1] := by simp [sqs]
  rw [es] at e
  have e45 : fn132 (o, ()) (x.1, x.2.1, 0, ()) = some (res (lenS o (sqs [x.1, x.2.1]))) := by
    show law132 (o, ()) _ = _
    unfold law132
    exact (bindT e).trans rfl
  show law86 (o, ()) x = _
  unfold law86
  exact (bindT e45).trans rfl
theorem force78 (o : Bool) (x : CarT × Int × Int × Int × Int × Unit) (hp : FewP x.1.2.2.2.2.2.1) (ho : OkP x.1.2.2.2.2.2.1) (hs : I64 x.1.2.2.2.2.2.2.2.2.1) (h1 : I64 x.2.1) (h2 : I64 x.2.2.1) (h3 : I64 x.2.2.2.1) (h4 : I64 x.2.2.2.2.1) :
    ∃ o2 f1 f2, fn22 (o, ()) x = some ((o2, ()), f1, f2, ()) ∧ fn28 (o, ()) x = some ((o2, ()), f1, f2, ()) ∧ I64 f1 ∧ I64 f2 := by
  show ∃ o2 f1 f2, law22 (o, ()) x = some ((o2, ()), f1, f2, ()) ∧ law28 (o, ()) x = some ((o2, ()), f1, f2, ()) ∧ I64 f1 ∧ I64 f2
  unfold law22 law28
  have e0 := mul20 (o, ()) (x.1.2.2.2.2.2.2.2.2.1, x.2.2.2.2) hs h4
  have f0 := mul23 (o, ()) (x.1.2.2.2.2.2.2.2.2.1, x.2.2.2.2) hs h4
  have r0 := mulS_r o x.1.2.2.2.2.2.2.2.2.1 x.2.2.2.2.1
  simp only at e0 f0
  generalize mulS o x.1.2.2.2.2.2.2.2.2.1 x.2.2.2.2.1 = p0 at e0 f0 r0
  have e1 := len16 p0.1 (x.2.2.2.1, p0.2, ()) h3 r0
  have f1 := len21 p0.1 (x.2.2.2.1, p0.2, ()) h3 r0
  have r1 := lenS_r p0.1 (sqs_nn [x.2.2.2.1, p0.2])
  simp only at e1 f1
  generalize lenS p0.1 (sqs [x.2.2.2.1, p0.2]) = p1 at e1 f1 r1
  by_cases c1 : p1.2 = 0
  · exact ⟨p1.1, 0, 0, (bindT e0).trans ((bindT e1).trans (bifT (by simpa [res] using c1))), (bindT f0).trans ((bindT f1).trans (bifT (by simpa [res] using c1))), I64_zero, I64_zero⟩
  by_cases c2 : x.2.1 ≤ 0
  · exact ⟨p1.1, 0, 0, (bindT e0).trans ((bindT e1).trans ((bifF (by simpa [res] using c1)).trans (bifT (decide_eq_true c2)))), (bindT f0).trans ((bindT f1).trans ((bifF (by simpa [res] using c1)).trans (bifT (decide_eq_true c2)))), I64_zero, I64_zero⟩
  have e2 := grip5 p1.1 (x.1, x.2.1, p1.2, ()) hp ho h1 r1
  have f2 := grip6 p1.1 (x.1, x.2.1, p1.2, ()) hp ho h1 r1
  have r2 : I64 (gripS p1.1 x.1.2.2.2.2.2.1 x.2.1 p1.2).2 := paneE_r _ ho _ _
  simp only at e2 f2
  generalize gripS p1.1 x.1.2.2.2.2.2.1 x.2.1 p1.2 = p2 at e2 f2 r2
  have e3 := mul20 (p2.1, ()) (p2.2, x.2.2.1, ()) r2 h2
  have f3 := mul23 (p2.1, ()) (p2.2, x.2.2.1, ()) r2 h2
  have r3 := mulS_r p2.1 p2.2 x.2.2.1
  simp only at e3 f3
  generalize mulS p2.1 p2.2 x.2.2.1 = p3 at e3 f3 r3
  have e4 := mul20 (p3.1, ()) (x.2.1, p3.2, ()) h1 r3
  have f4 := mul23 (p3.1, ()) (x.2.1, p3.2, ()) h1 r3
  have r4 := mulS_r p3.1 x.2.1 p3.2
  simp only at e4 f4
  generalize mulS p3.1 x.2.1 p3.2 = p4 at e4 f4 r4
  have e5 := div30 (p4.1, ()) (x.2.2.2.1, p1.2, ()) h3 r1
  have f5 := div42 (p4.1, ()) (x.2.2.2.1, p1.2, ()) h3 r1
  have r5 := divS_r p4.1 x.2.2.2.1 p1.2
  simp only at e5 f5
  generalize divS p4.1 x.2.2.2.1 p1.2 = p5 at e5 f5 r5
  have e6 := mul20 (p5.1, ()) (p4.2, p5.2, ()) r4 r5
  have f6 := mul23 (p5.1, ()) (p4.2, p5.2, ()) r4 r5
  have r6 := mulS_r p5.1 p4.2 p5.2
  simp only at e6 f6
  generalize mulS p5.1 p4.2 p5.2 = p6 at e6 f6 r6
  have e7 := div30 (p6.1, ()) (p0.2, p1.2, ()) r0 r1
  have f7 := div42 (p6.1, ()) (p0.2, p1.2, ()) r0 r1
  have r7 := divS_r p6.1 p0.2 p1.2
  simp only at e7 f7
  generalize divS p6.1 p0.2 p1.2 = p7 at e7 f7 r7
  have e8 := mul20 (p7.1, ()) (p4.2, p7.2, ()) r4 r7
  have f8 := mul23 (p7.1, ()) (p4.2, p7.2, ()) r4 r7
  have r8 := mulS_r p7.1 p4.2 p7.2
  simp only at e8 f8
  generalize mulS p7.1 p4.2 p7.2 = p8 at e8 f8 r8
  have e9 := neg29 (p8.1, ()) (p8.2, ()) r8
  have f9 := neg64 (p8.1, ()) (p8.2, ()) r8
  have r9 := subS_r p8.1 0 p8.2
  simp only at e9 f9
  generalize subS p8.1 0 p8.2 = p9 at e9 f9 r9
  exact ⟨p9.1, p6.2, p9.2, (bindT e0).trans ((bindT e1).trans ((bifF (by simpa [res] using c1)).trans ((bifF (decide_eq_false c2)).trans ((bindT e2).trans ((bindT e3).trans ((bindT e4).trans ((bindT e5).trans ((bindT e6).trans ((bindT e7).trans ((bindT e8).trans (bindT e9))))))))))), (bindT f0).trans ((bindT f1).trans ((bifF (by simpa [res] using c1)).trans ((bifF (decide_eq_false c2)).trans ((bindT f2).trans ((bindT f3).trans ((bindT f4).trans ((bindT f5).trans ((bindT f6).trans ((bindT f7).trans ((bindT f8).trans (bindT f9))))))))))), r6, r9⟩
end Go.Proofs.YtkobnmpilcpojaaGreat
