/- Plain Lean: what the laws of this program's functions come to, in numbers and lists; no program is run here. -/
import Derived.Test.YtkgoflpkdcdajaaGreatPP28mv
set_option linter.unusedVariables false
set_option linter.unusedSimpArgs false
set_option maxRecDepth 100000
namespace Go.Ab
open Go Go.IntWalk
/-
  A body that does not spin, and that nothing pushes. It names no program.
-/
theorem sv_zero : sv 0 = 0 := by decide
theorem mv_zero (a : Int) : mv a 0 = 0 := by unfold mv mulV; rw [Int.mul_zero, rnd_zero (by decide)]; exact sv_zero
theorem zero_mv (a : Int) : mv 0 a = 0 := by unfold mv mulV; rw [Int.zero_mul, rnd_zero (by decide)]; exact sv_zero
theorem av_zero : av 0 0 = 0 := by decide
theorem zv_zero : zv 0 0 = 0 := by decide
theorem dv_zero (b : Int) : dv 0 b = 0 := by
  unfold dv divV
  by_cases h : b = 0
  · rw [if_pos h]; rfl
  · rw [if_neg h]
    split
    · rw [Int.zero_mul, Int.neg_zero, rnd_zero (by omega)]; exact sv_zero
    · rw [Int.zero_mul, rnd_zero (by omega)]; exact sv_zero
theorem cl_zero {c : Int} (hc : 0 ≤ c ∧ c ≤ 9223372036854775807) : clV 0 (IntKind.i64.wrap (0 - c)) c = 0 := (cl_id hc).2 (in_zero hc.1)
theorem vk_zero {c : Int} (hc : 0 ≤ c ∧ c ≤ 9223372036854775807) : vkV (0, 0, 0, ()) c = (0, 0, 0, ()) := by unfold vkV; simp only [cl_zero hc]
theorem rot_zero (J : Vec) (b : Bod) (hb : b.2.2.2.1 = (0, 0, 0, ())) (dt : Int) : stW J b [] dt = (0, 0, 0, ()) := by
  have h1 : toV [] = (0, 0, 0, ()) := by unfold toV tqV; exact vk_zero (by decide)
  unfold stW tuV onV
  rw [h1, hb]
  simp only [bkV, bk1, gyV, jwV, vcV, vcL, vcR, vsV, vaV, vmV, dvJ, mv_zero, zero_mv, av_zero, zv_zero, dv_zero]
  exact vk_zero (by decide)
theorem qn_zero {q : Qua} (hq : Q64 q) (dt : Int) : qnV q (0, 0, 0, ()) dt = q := by
  obtain ⟨w, x, y, z, _⟩ := q
  obtain ⟨h1, h2, h3, h4⟩ := hq
  simp only at h1 h2 h3 h4
  unfold qnV q0V q1V q2V q3V hfV
  simp only [mv_zero, zero_mv, av_zero, zv_zero]
  unfold av
  simp only [Int.add_zero, sv_in h1, sv_in h2, sv_in h3, sv_in h4]
theorem dv_near {a N : Int} (ha : In a N) (h1 : 4294967280 ≤ N) (h2 : N ≤ 4294967312) : In (dv a N - a) 16 := by
  obtain ⟨-, -, e⟩ := div_in (K := 4294967296) ha (b := N) (by omega) (by rw [Int.mul_comm]; exact Int.le_refl _) (by decide)
  rw [e]
  have hp : In (a * (4294967296 - N)) (N * 16) := in_mul ha (by unfold In; omega)
  have e2 : a * (4294967296 - N) = a * 4294967296 - a * N := by grind
  rw [e2] at hp
  unfold In at hp ⊢
  have l1 : a - 16 ≤ rnd (a * 4294967296) N := le_rnd (by omega) (by
    have : (a - 16) * N = a * N - N * 16 := by grind
    omega)
  have l2 : rnd (a * 4294967296) N ≤ a + 16 := rnd_le (by omega) (by
    have : (a + 16) * N = a * N + N * 16 := by grind
    omega)
  omega
theorem att_near {q : Qua} (hq : QIn q 4294967312) (h1 : 4294967280 ≤ lenV (sq4 q)) (h2 : lenV (sq4 q) ≤ 4294967312) (dt : Int) :
    In ((qsV q (0, 0, 0, ()) dt).1 - q.1) 16 ∧ In ((qsV q (0, 0, 0, ()) dt).2.1 - q.2.1) 16 ∧ In ((qsV q (0, 0, 0, ()) dt).2.2.1 - q.2.2.1) 16 ∧ In ((qsV q (0, 0, 0, ()) dt).2.2.2.1 - q.2.2.2.1) 16 := by
  have hb : QIn q 17179869184 := ⟨hq.1.le (by decide), hq.2.1.le (by decide), hq.2.2.1.le (by decide), hq.2.2.2.le (by decide)⟩
  have h64 : Q64 q := ⟨hq.1.i64 (by decide), hq.2.1.i64 (by decide), hq.2.2.1.i64 (by decide), hq.2.2.2.i64 (by decide)⟩
  unfold qsV
  rw [qn_zero h64]
  obtain ⟨k1, k2, k3, k4, k5, k6, k7⟩ := len4_in hb
  unfold quV quN
  rw [k2] at h1 h2 ⊢
  rw [if_neg (by omega)]
  exact ⟨dv_near k7.1 h1 h2, dv_near k7.2.1 h1 h2, dv_near k7.2.2.1 h1 h2, dv_near k7.2.2.2 h1 h2⟩
def Opp (v a K : Int) : Prop := In a K ∧ (0 ≤ v → a ≤ 0) ∧ (v ≤ 0 → 0 ≤ a)
theorem opp_zero (v : Int) {K : Int} (h : 0 ≤ K) : Opp v 0 K := ⟨in_zero h, fun _ => Int.le_refl _, fun _ => Int.le_refl _⟩
theorem ar_opp {t : List Dot} {v : Vec} (ht : Air t) (h : VIn v 549755813888) : Opp v.1 (arV t v).1 140737488355328 ∧ Opp v.2.1 (arV t v).2.1 140737488355328 := by
  have hb := (ar_in ht h).2
  obtain ⟨h1, h2, h3, h4⟩ := len3_in h
  unfold arV at hb ⊢
  generalize lenV (sq3 v) = n at *
  by_cases h0 : n = 0
  · rw [if_pos h0]
    exact ⟨opp_zero _ (by decide), opp_zero _ (by decide)⟩
  · rw [if_neg h0] at hb ⊢
    obtain ⟨t1, t2, t3⟩ := ht n
    have he : In (evV t n) 140737488355328 := by unfold In; omega
    obtain ⟨b1, b2, b3⟩ := sub_in (K := 140737488355328) (in_zero (Int.le_refl 0)) he (by decide) (by decide)
    have one : ∀ a : Int, In a n → In (mv (dv a n) (zv 0 (evV t n))) 140737488355328 → Opp a (mv (dv a n) (zv 0 (evV t n))) 140737488355328 := by
      intro a ha hin
      obtain ⟨c1, c2, c3⟩ := div_in (K := 4294967296) ha (b := n) (by omega) (by rw [Int.mul_comm]; exact Int.le_refl _) (by decide)
      obtain ⟨d1, d2, d3⟩ := mul_in (K := 140737488355328) c2 b2 (by decide) (by decide)
      refine ⟨hin, fun hv => ?_, fun hv => ?_⟩
      · rw [d3, c3, b3]
        have : 0 ≤ rnd (a * 4294967296) n := rnd_nonneg (by omega) (by omega)
        exact rnd_nonpos (by decide) (Int.mul_nonpos_of_nonneg_of_nonpos this (by omega))
      · rw [d3, c3, b3]
        have : rnd (a * 4294967296) n ≤ 0 := rnd_nonpos (by omega) (by omega)
        exact rnd_nonneg (by decide) (Int.mul_nonneg_of_nonpos_of_nonpos this (by omega))
    exact ⟨one _ h4.1 hb.1, one _ h4.2.1 hb.2.1⟩
theorem slow1 {v F m dt : Int} (hv : In v 549755813888) (hF : Opp v F 140737488355328) (hm : 4398046511104 ≤ m) (h0 : 0 ≤ dt) (h1 : dt ≤ 71582788) {K : Int} (hK : In v K) (hK1 : 4294967296 ≤ K) :
    In (clV (av v (mv (dv (clV F (IntKind.i64.wrap (0 - 18014398509481984)) 18014398509481984) m) dt)) (IntKind.i64.wrap (0 - 549755813888)) 549755813888) K := by
  obtain ⟨f1, f2, f3⟩ := hF
  rw [(cl_id (x := F) (c := 18014398509481984) (by decide)).2 (f1.le (by decide))]
  obtain ⟨c1, c2, c3⟩ := div_in (K := 137438953472) f1 (b := m) (by omega) (by
    have : (137438953472 : Int) * 4398046511104 ≤ 137438953472 * m := Int.mul_le_mul_of_nonneg_left hm (by decide)
    omega) (by decide)
  have hd : In dt 71582788 := by unfold In; omega
  obtain ⟨d1, d2, d3⟩ := mul_in (K := 4294967296) c2 hd (by decide) (by decide)
  obtain ⟨e1, e2, e3⟩ := add_in (K := 554050781184) hv d2 (by decide) (by decide)
  have s1 : 0 ≤ v → mv (dv F m) dt ≤ 0 := fun h => by
    rw [d3, c3]
    exact rnd_nonpos (by decide) (Int.mul_nonpos_of_nonpos_of_nonneg (rnd_nonpos (by omega) (by have := f2 h; omega)) h0)
  have s2 : v ≤ 0 → 0 ≤ mv (dv F m) dt := fun h => by
    rw [d3, c3]
    exact rnd_nonneg (by decide) (Int.mul_nonneg (rnd_nonneg (by omega) (by have := f3 h; omega)) h0)
  rw [e3]
  generalize mv (dv F m) dt = D at *
  have hs : In (v + D) K := by
    unfold In at *
    rcases Int.le_total 0 v with h | h
    · have := s1 h; omega
    · have := s2 h; omega
  rw [IntKind.wrap_i64]
  unfold clV In at *
  split <;> (try split) <;> omega
theorem free_slow {m : Int} {t : List Dot} {b : Bod} {dt : Int} (ht : Air t) (hv : VIn b.2.1 549755813888) (hm : 4398046511104 ≤ m) (h0 : 0 ≤ dt) (h1 : dt ≤ 71582788) {K : Int} (hK1 : 4294967296 ≤ K) :
    (In b.2.1.1 K → In (stS m t b [] dt).1 K) ∧ (In b.2.1.2.1 K → In (stS m t b [] dt).2.1 K) := by
  obtain ⟨o1, o2⟩ := ar_opp ht hv
  have e1 : av 0 (arV t b.2.1).1 = (arV t b.2.1).1 := by unfold av; rw [Int.zero_add]; exact sv_in (o1.1.i64 (by decide))
  have e2 : av 0 (arV t b.2.1).2.1 = (arV t b.2.1).2.1 := by unfold av; rw [Int.zero_add]; exact sv_in (o2.1.i64 (by decide))
  constructor
  · intro hK
    unfold stS onV stA foV psV f0V vkV vaV vmV vdV wtV
    simp only [e1]
    exact slow1 hv.1 o1 hm h0 h1 hK hK1
  · intro hK
    unfold stS onV stA foV psV f0V vkV vaV vmV vdV wtV
    simp only [e2]
    exact slow1 hv.2.1 o2 hm h0 h1 hK hK1
end Go.Ab
