/- Plain Lean: what the laws of this program's functions come to, in numbers and lists; no program is run here. -/
import Derived.Test.YtpdimjdecjhbcaaPP25f
set_option linter.unusedVariables false
set_option linter.unusedSimpArgs false
set_option maxRecDepth 100000
namespace Go.Proofs.Ytpdimjdecjhbcaa
open Go Go.Ab Go.Proofs Go.IntWalk
/- What force a car that may be gives, in plain Lean (r25). -/
theorem mulV_le {a b A B : Int} (ha : 0 ≤ a ∧ a ≤ A) (hb : 0 ≤ b ∧ b ≤ B) {k : Int} (hk : A * B ≤ k * 4294967296) : 0 ≤ mulV a b ∧ mulV a b ≤ k := by
  unfold mulV
  have h1 : 0 ≤ a * b := Int.mul_nonneg ha.1 hb.1
  have h2 : a * b ≤ A * B := Int.mul_le_mul ha.2 hb.2 hb.1 (by omega)
  exact ⟨rnd_nonneg (by decide) h1, rnd_le (by decide) (by omega)⟩
theorem mulV_mono {a b c : Int} (ha : 0 ≤ a) (h : b ≤ c) : mulV a b ≤ mulV a c := rnd_mono (by decide) (Int.mul_le_mul_of_nonneg_left h ha)
structure RightW (w : Whl) : Prop where
  s : 0 ≤ w.snd.snd.snd.fst ∧ w.snd.snd.snd.fst ≤ 1125899906842624
  t : 0 ≤ w.snd.snd.snd.snd.fst ∧ w.snd.snd.snd.snd.fst ≤ 2147483648
  b : 0 ≤ w.snd.snd.snd.snd.snd.fst ∧ w.snd.snd.snd.snd.snd.fst ≤ 4503599627370496
theorem rightW {c : Car} (h : ∀ v ∈ allR c, v = 0) (i : Int) : RightW (wheelOf c i) := by
  have z : ∀ w : Whl, wheelR w = 0 → RightW w := by
    intro w hw
    have q := rangedR_zero hw
    have q1 := q (w.snd.snd.snd.fst, 4398046511104, 1125899906842624, ()) (by simp)
    have q2 := q (w.snd.snd.snd.snd.fst, 67108864, 2147483648, ()) (by simp)
    have q3 := q (w.snd.snd.snd.snd.snd.fst, 0, 4503599627370496, ()) (by simp)
    exact ⟨⟨Int.le_trans (show (0 : Int) ≤ 4398046511104 by decide) q1.1, q1.2⟩, ⟨Int.le_trans (show (0 : Int) ≤ 67108864 by decide) q2.1, q2.2⟩, q3⟩
  have m : ∀ v, v ∈ [bodyR c, wheelR ((c.snd.snd.fst).fst), wheelR ((c.snd.snd.fst).snd.fst), wheelR ((c.snd.snd.fst).snd.snd.fst), wheelR ((c.snd.snd.fst).snd.snd.snd.fst)] → v = 0 := fun v hv => h v (by unfold allR; simp only [List.mem_cons, List.not_mem_nil, or_false] at hv ⊢; rcases hv with h | h | h | h | h <;> simp [h])
  unfold wheelOf
  split
  · exact z _ (m _ (by simp))
  · split
    · exact z _ (m _ (by simp))
    · split
      · exact z _ (m _ (by simp))
      · exact z _ (m _ (by simp))
structure RightD (l : List Dot) : Prop where
  tab : RightT l
  y : ∀ i, i < l.length → -140737488355328 ≤ tY l i ∧ tY l i ≤ 140737488355328
  alike : ∀ i, i < l.length → (0 < tX l i → 0 ≤ tY l i) ∧ (tX l i < 0 → tY l i ≤ 0)
theorem rightD {c : Car} (h : ∀ v ∈ allR c, v = 0) : RightD (c.snd.snd.snd.snd.fst) := by
  have hv : valR alikeD (c.snd.snd.snd.snd.fst) (-140737488355328) 140737488355328 = 0 := h _ (by unfold allR; simp)
  unfold valR at hv
  cases h0 : tabR (c.snd.snd.snd.snd.fst) != 0
  case true =>
    rw [h0] at hv
    have hv : tabR (c.snd.snd.snd.snd.fst) = 0 := hv
    simp [hv] at h0
  rw [h0] at hv
  cases h1 : List.any (c.snd.snd.snd.snd.fst) (fun d => decide (d.2.1 < -140737488355328) || decide (d.2.1 > 140737488355328) || !alikeD d)
  case true =>
    rw [h1] at hv
    exact absurd (show (40 : Int) = 0 from hv) (by decide)
  have q : ∀ i, i < (c.snd.snd.snd.snd.fst).length → (decide (tY (c.snd.snd.snd.snd.fst) i < -140737488355328) || decide (tY (c.snd.snd.snd.snd.fst) i > 140737488355328) || !alikeD (nth (c.snd.snd.snd.snd.fst) i)) = false := by
    intro i hi
    have := List.any_eq_false.1 h1 (nth (c.snd.snd.snd.snd.fst) i) (nth_mem hi)
    exact Bool.eq_false_iff.2 this
  have tab := rightT_of (l := c.snd.snd.snd.snd.fst) (by simpa using h0)
  refine ⟨tab, fun i hi => ?_, fun i hi => ?_⟩
  · have := q i hi
    simp only [Bool.or_eq_false_iff, decide_eq_false_iff_not] at this
    omega
  · have := q i hi
    simp only [Bool.or_eq_false_iff, Bool.not_eq_false'] at this
    have ha := this.2
    unfold alikeD at ha
    have e1 : (nth (c.snd.snd.snd.snd.fst) i).1 = tX (c.snd.snd.snd.snd.fst) i := rfl
    have e2 : (nth (c.snd.snd.snd.snd.fst) i).2.1 = tY (c.snd.snd.snd.snd.fst) i := rfl
    rw [e1, e2] at ha
    simp only [Bool.not_eq_true', Bool.or_eq_false_iff, Bool.and_eq_false_iff, decide_eq_false_iff_not] at ha
    omega
theorem RightD.eval {l : List Dot} (h : RightD l) (x : Int) : evO l x = false ∧ -140737488355328 ≤ evV l x ∧ evV l x ≤ 140737488355328 := by
  obtain ⟨e1, e2, e3⟩ := h.tab.eval false x
  obtain ⟨c1, -, -⟩ := h.tab.cell x
  have v1 := h.y (cellV l x) (by omega)
  have v2 := h.y (cellV l x + 1) c1
  unfold evO evV
  rcases Int.le_total (tY l (cellV l x)) (tY l (cellV l x + 1)) with g | g
  · have := e2 g; exact ⟨e1, by omega, by omega⟩
  · have := e3 g; exact ⟨e1, by omega, by omega⟩
theorem RightD.signs {l : List Dot} (h : RightD l) {k : Nat} (hk : k < l.length) (hx : tX l k = 0) (hy : tY l k = 0) (s : Int) (hs : 0 < s) : evV l 0 = 0 ∧ 0 ≤ evV l s ∧ evV l (-s) ≤ 0 := by
  have h2 := h.tab.two
  have sx : ∀ j, j < l.length → (k ≤ j → 0 ≤ tY l j) ∧ (j ≤ k → tY l j ≤ 0) := by
    intro j hj
    have a := h.alike j hj
    refine ⟨fun g => ?_, fun g => ?_⟩
    · rcases Nat.lt_or_ge k j with q | q
      · exact a.1 (by have := h.tab.lt k j q hj; omega)
      · rw [show j = k by omega, hy]; exact Int.le_refl _
    · rcases Nat.lt_or_ge j k with q | q
      · exact a.2 (by have := h.tab.lt j k q hk; omega)
      · rw [show j = k by omega, hy]; exact Int.le_refl _
  refine ⟨?_, ?_, ?_⟩
  · have := h.tab.points false k hk
    rw [hx, hy] at this
    exact this
  · obtain ⟨e1, e2, e3⟩ := h.tab.eval false s
    obtain ⟨c1, c2, c3⟩ := h.tab.cell s
    by_cases g : k ≤ cellV l s
    · have y1 := (sx (cellV l s) (by omega)).1 g
      have y2 := (sx (cellV l s + 1) c1).1 (by omega)
      unfold evV
      rcases Int.le_total (tY l (cellV l s)) (tY l (cellV l s + 1)) with q | q
      · have := e2 q; omega
      · have := e3 q; omega
    · have hl : k + 1 = l.length := by
        rcases Nat.lt_or_ge (k + 1) l.length with q | q
        · have := c3 k (by omega) q; omega
        · omega
      have h0 := h.tab.lt 0 k (by omega) hk
      unfold evV evalS
      rw [if_neg (by omega), if_neg (by omega), show l.length - 1 = k by omega, if_pos (by omega), hy]
      exact Int.le_refl _
  · obtain ⟨e1, e2, e3⟩ := h.tab.eval false (-s)
    obtain ⟨c1, c2, c3⟩ := h.tab.cell (-s)
    by_cases g : cellV l (-s) < k
    · have y1 := (sx (cellV l (-s)) (by omega)).2 (by omega)
      have y2 := (sx (cellV l (-s) + 1) c1).2 (by omega)
      unfold evV
      rcases Int.le_total (tY l (cellV l (-s))) (tY l (cellV l (-s) + 1)) with q | q
      · have := e2 q; omega
      · have := e3 q; omega
    · have hk0 : k = 0 := by
        rcases c2 with q | q
        · omega
        · have := h.tab.le k (cellV l (-s)) (by omega) (by omega); omega
      subst hk0
      unfold evV evalS
      rw [if_neg (by omega), if_pos (by omega), hy]
      exact Int.le_refl _
def springR (w : Whl) (p : Int) : Int := if p > w.snd.snd.snd.snd.fst then mulV (w.snd.snd.snd.fst) p + mulV (w.snd.snd.snd.snd.snd.fst) (p - w.snd.snd.snd.snd.fst) else mulV (w.snd.snd.snd.fst) p
theorem spring_fits {w : Whl} (h : RightW w) {p : Int} (hp : 0 ≤ p ∧ p ≤ 8589934592) : springO w p = false ∧ springV w p = springR w p ∧ 0 ≤ springR w p ∧ springR w p ≤ 11258999068426240 := by
  obtain ⟨hs, ht, hb⟩ := h
  have m1 := mulV_le (a := w.snd.snd.snd.fst) (b := p) (A := 1125899906842624) (B := 8589934592) (k := 2251799813685248) hs hp (by decide)
  have o1 : ov (mulV (w.snd.snd.snd.fst) p) = false := ov_in (by unfold I64; omega)
  have s1 : sv (mulV (w.snd.snd.snd.fst) p) = mulV (w.snd.snd.snd.fst) p := sv_in (by unfold I64; omega)
  unfold springO springV springR
  by_cases c : p > w.snd.snd.snd.snd.fst
  · have m2 := mulV_le (a := w.snd.snd.snd.snd.snd.fst) (b := p - w.snd.snd.snd.snd.fst) (A := 4503599627370496) (B := 8589934592) (k := 9007199254740992) hb (by omega) (by decide)
    have o2 : ov (p - w.snd.snd.snd.snd.fst) = false := ov_in (by unfold I64; omega)
    have s2 : sv (p - w.snd.snd.snd.snd.fst) = p - w.snd.snd.snd.snd.fst := sv_in (by unfold I64; omega)
    have o3 : ov (mulV (w.snd.snd.snd.snd.snd.fst) (p - w.snd.snd.snd.snd.fst)) = false := ov_in (by unfold I64; omega)
    have s3 : sv (mulV (w.snd.snd.snd.snd.snd.fst) (p - w.snd.snd.snd.snd.fst)) = mulV (w.snd.snd.snd.snd.snd.fst) (p - w.snd.snd.snd.snd.fst) := sv_in (by unfold I64; omega)
    have o4 : ov (mulV (w.snd.snd.snd.fst) p + mulV (w.snd.snd.snd.snd.snd.fst) (p - w.snd.snd.snd.snd.fst)) = false := ov_in (by unfold I64; omega)
    have s4 : sv (mulV (w.snd.snd.snd.fst) p + mulV (w.snd.snd.snd.snd.snd.fst) (p - w.snd.snd.snd.snd.fst)) = mulV (w.snd.snd.snd.fst) p + mulV (w.snd.snd.snd.snd.snd.fst) (p - w.snd.snd.snd.snd.fst) := sv_in (by unfold I64; omega)
    rw [if_pos c, if_pos c, s1, s2, s3, s4, o1, o2, o3, o4]
    refine ⟨by simp, rfl, by omega, by omega⟩
  · rw [if_neg c, if_neg c, s1, o1, decide_eq_false c]
    exact ⟨rfl, rfl, by omega, by omega⟩
theorem springR_mono {w : Whl} (h : RightW w) {a b : Int} (hb : a ≤ b) : springR w a ≤ springR w b := by
  obtain ⟨hs, ht, hbu⟩ := h
  have m1 := mulV_mono hs.1 hb
  unfold springR
  by_cases c : a > w.snd.snd.snd.snd.fst
  · rw [if_pos c, if_pos (show b > w.snd.snd.snd.snd.fst by omega)]
    have m2 := mulV_mono (b := a - w.snd.snd.snd.snd.fst) (c := b - w.snd.snd.snd.snd.fst) hbu.1 (by omega)
    omega
  · rw [if_neg c]
    by_cases d : b > w.snd.snd.snd.snd.fst
    · rw [if_pos d]
      have m2 : 0 ≤ mulV (w.snd.snd.snd.snd.snd.fst) (b - w.snd.snd.snd.snd.fst) := rnd_nonneg (by decide) (Int.mul_nonneg hbu.1 (by omega))
      omega
    · rw [if_neg d]; exact m1
theorem clampV_mono {a b : Int} (h : a ≤ b) : clampV a 0 1125899906842624 ≤ clampV b 0 1125899906842624 := by
  unfold clampV
  split <;> split <;> (try split) <;> (try split) <;> omega
theorem force_fits {c : Car} (h : ∀ v ∈ allR c, v = 0) (i p v : Int) (hp : p ≤ 8589934592) (hp0 : 0 < p) : forceO (wheelOf c i) (c.snd.snd.snd.snd.fst) p v = false ∧ forceV (wheelOf c i) (c.snd.snd.snd.snd.fst) p v = clampV (springR (wheelOf c i) p + evV (c.snd.snd.snd.snd.fst) v) 0 1125899906842624 := by
  obtain ⟨s1, s2, s3, s4⟩ := spring_fits (rightW h i) (p := p) (by omega)
  obtain ⟨e1, e2, e3⟩ := (rightD h).eval v
  have o1 : ov (springR (wheelOf c i) p + evV (c.snd.snd.snd.snd.fst) v) = false := ov_in (by unfold I64; omega)
  have v1 : sv (springR (wheelOf c i) p + evV (c.snd.snd.snd.snd.fst) v) = springR (wheelOf c i) p + evV (c.snd.snd.snd.snd.fst) v := sv_in (by unfold I64; omega)
  unfold forceO forceV
  rw [s1, s2, e1, o1, v1]
  exact ⟨rfl, rfl⟩
theorem forceS_fits {c : Car} (h : ∀ v ∈ allR c, v = 0) (o : Bool) (i p v : Int) (hp : p ≤ 8589934592) : forceS o c i p v = (o, if i < 0 ∨ i ≥ 4 ∨ p ≤ 0 then 0 else clampV (springR (wheelOf c i) p + evV (c.snd.snd.snd.snd.fst) v) 0 1125899906842624) := by
  unfold forceS
  by_cases g : i < 0 ∨ i ≥ 4 ∨ p ≤ 0
  · rw [if_pos g, if_pos g]
  · rw [if_neg g, if_neg g]
    obtain ⟨e1, e2⟩ := force_fits h i p v hp (by omega)
    rw [e1, e2, Bool.or_false]
theorem ok4 {l : F4} (h : Sh.ok (.st [.int .i64, .int .i64, .int .i64, .int .i64]) l) : Ok4 l := ⟨okI h.1, okI h.2.1, okI h.2.2.1, okI h.2.2.2.1⟩
end Go.Proofs.Ytpdimjdecjhbcaa
